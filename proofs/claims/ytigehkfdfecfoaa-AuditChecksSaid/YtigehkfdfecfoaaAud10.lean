/-
  The document's Check. (Printed by gen_aud10.py.)
-/
import Derived.Test.YtigehkfdfecfoaaAud9
import Derived.Test.YtigehkfdfecfoaaCom6
namespace Go.Proofs.Ytigehkfdfecfoaa.B
open Go
set_option linter.unusedVariables false
set_option maxHeartbeats 2000000
set_option maxRecDepth 100000
attribute [local irreducible] W OpsW OpsQ retP
attribute [local irreducible] numR
theorem okA_0 {n : Nat} {root : Dig} {x : List UInt8} {xs : List (List UInt8)} : okA n root (x :: xs) 0 x ↔ (decC x).isSome = true ∧ (cOf x).epoch = n ∧ digB x = root := by
  show (_ ∧ digB x = root ∧ (cOf x).epoch = n - 0) ↔ _
  rw [Nat.sub_zero]
  exact ⟨fun h => ⟨h.1, h.2.2, h.2.1⟩, fun h => ⟨h.1, h.2.2, h.2.1⟩⟩
theorem tells_1 {root : Dig} {x : List UInt8} : tellsA 1 root [x] ↔ okA 1 root [x] 0 x ∧ (cOf x).prev = Rf.zero := by
  constructor
  · rintro ⟨_, h2, h3⟩; exact ⟨h2 0 (by omega) x rfl, h3⟩
  · rintro ⟨h1, h2⟩
    refine ⟨⟨rfl, fun h => by omega⟩, fun i hi y hy => ?_, h2⟩
    obtain rfl : i = 0 := by omega
    injection hy with hy; subst hy; exact h1
theorem want_c {root : Dig} {x : List UInt8} {xs : List (List UInt8)} (i : Nat) : wantA root (x :: xs) (i + 1) = wantA (cOf x).prev.dig xs i := by
  cases i with
  | zero => rfl
  | succ k => rfl
theorem okA_c {n : Nat} {root : Dig} {x y : List UInt8} {xs : List (List UInt8)} (i : Nat) : okA (n + 1) root (x :: xs) (i + 1) y ↔ okA n (cOf x).prev.dig xs i y := by
  unfold okA; rw [want_c, Nat.add_sub_add_right]
theorem last_c {x : List UInt8} {xs : List (List UInt8)} (n : Nat) : lastC (x :: xs) (n + 2) = lastC xs (n + 1) := rfl
theorem tells_c {n : Nat} {root : Dig} {x : List UInt8} {xs : List (List UInt8)} : tellsA (n + 2) root (x :: xs) ↔ okA (n + 2) root (x :: xs) 0 x ∧ tellsA (n + 1) (cOf x).prev.dig xs := by
  constructor
  · rintro ⟨⟨h1, _⟩, h2, h3⟩
    exact ⟨h2 0 (by omega) x rfl, ⟨by rw [List.length_cons] at h1; omega, fun h => by omega⟩, fun i hi y hy => (okA_c i).1 (h2 (i + 1) (by omega) y hy), by rw [last_c] at h3; exact h3⟩
  · rintro ⟨h0, ⟨h1, _⟩, h2, h3⟩
    refine ⟨⟨by rw [List.length_cons]; omega, fun h => by omega⟩, fun i hi y hy => ?_, by rw [last_c]; exact h3⟩
    cases i with
    | zero => injection hy with hy; subst hy; exact h0
    | succ k => exact (okA_c k).2 (h2 k (by omega) y hy)
theorem storyS_c {x : List UInt8} {xs : List (List UInt8)} : storyS (x :: xs) = storyS xs ++ [(cOf x).state] := by
  unfold storyS statesA; simp
theorem storyE_c {x : List UInt8} {xs : List (List UInt8)} : storyE (x :: xs) = storyE xs ++ (cOf x).events := by
  unfold storyE; simp
theorem RowsV.ones {w : World} {v : Value} {vks : List Value} {xs : List (List UInt8)} (h : RowsV w v vks xs) : vks.all one = true := List.all_eq_true.2 fun y hy => by
  obtain ⟨i, hi, he⟩ := List.mem_iff_getElem.1 hy
  obtain ⟨x, hx⟩ : ∃ x, xs[i]? = some x := ⟨_, List.getElem?_eq_getElem (by have := h.1; omega)⟩
  obtain ⟨a, c, e, _, _⟩ := (h.2.2 i y x (by rw [List.getElem?_eq_getElem hi, he]) hx).form
  rw [e]; rfl
theorem RowsV.ginT {w : World} {v : Value} {vks : List Value} {xs : List (List UInt8)} (h : RowsV w v vks xs) : GIn (fun z => True ∧ z < w.heap.size) (v, vks) := h.gin (A := fun _ => True) (fun _ _ => trivial) (fun _ _ _ _ => trivial)
theorem RowsV.app {w : World} {v v1 v2 : Value} {a b : List Value} {xs ys : List (List UInt8)} (hs : Sl w v (xs ++ ys).length 1 (a ++ b)) (h1 : RowsV w v1 a xs) (h2 : RowsV w v2 b ys) : RowsV w v (a ++ b) (xs ++ ys) :=
  ⟨by rw [List.length_append, List.length_append, h1.1, h2.1], hs, fun i u x hu hx => by
    by_cases hi : i < xs.length
    · rw [List.getElem?_append_left (by rw [h1.1]; exact hi)] at hu
      rw [List.getElem?_append_left hi] at hx
      exact h1.2.2 i u x hu hx
    · rw [List.getElem?_append_right (by rw [h1.1]; omega), h1.1] at hu
      rw [List.getElem?_append_right (by omega)] at hx
      exact h2.2.2 _ u x hu hx⟩
theorem RowsV.tail {w : World} {a : Option Addr} {c n : Nat} {vk : Value} {vks : List Value} {x : List UInt8} {xs : List (List UInt8)} (hn : n = xs.length + 1) (h : RowsV w (.slice a n c) (vk :: vks) (x :: xs)) (hc : n ≤ c) : RowsV w (subSl a 1 1 n c) vks xs := by
  subst hn
  refine ⟨by have := h.1; simpa using this, ?_, fun i u y hu hy => h.2.2 (i + 1) u y hu hy⟩
  have h2 := Sl.sub (l := 1) (h := xs.length + 1) (m := c) h.2.1 (by omega) (Nat.le_refl _) hc (Nat.le_refl _)
  have hl := h.1
  rw [List.length_cons, List.length_cons] at hl
  rw [Nat.mul_one, List.take_of_length_le (by rw [List.length_cons]; omega), List.drop_one, List.tail_cons, Nat.add_sub_cancel] at h2
  exact h2
theorem gin_nil {A : Nat → Prop} : GIn A (.slice none 0 0, []) := ⟨trivial, fun y h => by cases h⟩
/-- Behind it all: the rows that were put together. -/
theorem chk_join {w36 w49 wf : World} {us va vq ue ve : Value} {uks vks : List Value} {E F : List (List UInt8)} {cs : List Value} {e e2 k lo : Nat} (hlo : lo ≤ w36.heap.size)
    (hK : Keep (fun z => some z ≠ us.ownBlock) w49 wf) (hus : InB (fun z => w36.heap.size ≤ z) us) (husl : ∀ z, us.ownBlock = some z → z < w49.heap.size) (hS : Keep All w36 w49)
    (hiv : InB (fun z => us.ownBlock = some z ∨ w49.heap.size ≤ z) va) (hiq : InB (fun z => w49.heap.size ≤ z) vq)
    (hOu : Own wf e 32 va k cs) (hOq : Own wf e2 1 vq (E.length + F.length) (uks ++ vks)) (hdis : ∀ z, va.ownBlock = some z → vq.ownBlock ≠ some z)
    (hRE : RowsV w49 ue uks E) (hGE : GIn (fun z => lo ≤ z ∧ z < w49.heap.size ∧ some z ≠ us.ownBlock) (ue, uks)) (hRF : RowsV w36 ve vks F) (hGF : GIn (fun z => lo ≤ z ∧ z < w36.heap.size) (ve, vks)) :
    InB (fun z => w36.heap.size ≤ z) va ∧ RowsV wf vq (uks ++ vks) (E ++ F) ∧ GIn (fun z => lo ≤ z ∧ z < wf.heap.size ∧ some z ≠ va.ownBlock) (vq, uks ++ vks) := by
  have hz := hS.size
  have hz2 := hK.size
  have hRF9 := hRF.k hS
  have hc : ∀ z, z < w36.heap.size → some z ≠ us.ownBlock := fun z h e => by have := hus z e.symm; omega
  have up : ∀ z, (lo ≤ z ∧ z < w49.heap.size ∧ some z ≠ us.ownBlock) → lo ≤ z ∧ z < wf.heap.size ∧ some z ≠ va.ownBlock := fun z h => ⟨h.1, by omega, fun e => by
    rcases hiv z e.symm with h1 | h1
    · exact h.2.2 h1.symm
    · omega⟩
  refine ⟨fun z h => ?_, RowsV.app (by rw [List.length_append]; exact hOq.sl) (hRE.keepN hK (hGE.1.mono fun z h => h.2.2) (fun y hy => (hGE.2 y hy).mono fun z h => h.2.2)) (hRF9.keepN hK (hGF.1.mono fun z h => hc z h.2) (fun y hy => (hGF.2 y hy).mono fun z h => hc z h.2)), ?_, fun y hy => ?_⟩
  · rcases hiv z h with h1 | h1
    · exact hus z h1
    · omega
  · exact InB.nb fun z h => ⟨by have := hiq z h; omega, hOq.lt z h, fun e => hdis z e.symm h⟩
  · rcases List.mem_append.1 hy with h | h
    · exact (hGE.2 y h).mono up
    · exact (hGF.2 y h).mono fun z hz => up z ⟨hz.1, by omega, hc z hz.2⟩
theorem rf17_Check (m : Nat) : ∀ (xs : List (List UInt8)) (hm : xs.length = m) (w : World) (n : Nat) (hn : n < 2 ^ 64) (root : Dig) (v : Value) (vks : List Value) (hv : RowsV w v vks xs) (h40 : xs.length ≤ 40) (hl : ∀ x ∈ xs, x.length ≤ 3000),
    Ret Try.prog 59 [.int .u64 n, .agg (dgR root).toArray, v].toArray w fun r w' => ∃ us ue uks S E B, r = .tuple #[us, ue, .bool B] ∧ (B = true ↔ tellsA n root xs) ∧
      (Own w' 29 32 us S.length (rows dgR S) ∧ InB (fun z => w.heap.size ≤ z) us ∧ S.length ≤ xs.length) ∧
      (RowsV w' ue uks E ∧ GIn (fun z => w.heap.size ≤ z ∧ z < w'.heap.size ∧ some z ≠ us.ownBlock) (ue, uks) ∧ E.length ≤ xs.length * 65536) ∧ (B = true → S = storyS xs ∧ E = storyE xs) ∧ Keep All w w' := by
  induction m using Nat.strongRecOn
  rename_i m ih
  intro xs hm w n hn root v vks hv h40 hl
  obtain ⟨a0, c0, rfl, hc0, hcm0⟩ := hv.2.1.form
  refine enter (fn := Try.f59) (n := 83) Try.func59 rfl rfl (by simp) ?_
  refine W_seq ?_
  refine W_region ?_
  refine o_box rfl rfl rfl ?_; intro w1 b1 e1 hB1 hk1 hs1
  have hB1 : Blk w1 b1 (dgR root) 29 := hB1
  refine o_asc rfl ?_
  refine o_asc rfl ?_
  refine o_asc rfl ?_
  refine ops_nil ?_
  refine W_seq ?_
  refine W_seq ?_
  refine W_region ?_
  refine o_mvt rfl ?_
  refine op_run (r_len rfl rfl rfl) rfl ?_
  refine op_run ((r_conv rfl rfl rfl).val (congrArg (Value.int .u64) (show IntKind.u64.wrap (xs.length : Int) = (xs.length : Int) from by rw [wrap_u64]; omega))) rfl ?_
  refine o_mvt rfl ?_
  refine op_run (r_neq rfl rfl) rfl ?_
  refine ops_nil ?_
  refine W_cond_p rfl (fun h2 => ?_) (fun h2 => ?_)
  · refine W_seq ?_
    refine W_region ?_
    refine o_asc rfl ?_
    refine o_asc rfl ?_
    refine o_asc rfl ?_
    refine ops_nil ?_
    refine W_ret ?_
    refine ret3 (.slice none 0 0) (.slice none 0 0) (.bool false) rfl ?_ ?_ ?_ ?_; rfl; rfl; rfl
    exact ⟨_, _, [], [], [], false, rfl, ⟨(fun h => by cases h), fun h => absurd h.1.1 (by omega)⟩, ⟨own_nil _ _ _, InB.nil, Nat.zero_le _⟩, ⟨rowsV_nil _, gin_nil, Nat.zero_le _⟩, (fun h => by cases h), hk1⟩
  · refine W_skip ?_
    refine W_seq ?_
    refine W_seq ?_
    refine W_region ?_
    refine o_mvt rfl ?_
    refine op_run (r_eql rfl rfl) rfl ?_
    refine ops_nil ?_
    have hxn : xs.length = n := by omega
    refine W_cond_p rfl (fun h4 => ?_) (fun h4 => ?_)
    · refine W_seq ?_
      refine W_quiet (Keep All w1) (by kernel_rfl) (by kernel_rfl) (Keep.drawn _) ?_
      refine q_run (fun _ hk => r_loadA (dgR root) rfl rfl rfl (by first | rfl | (rw [binV_len]; rfl) | (rw [dgR_len]; rfl) | (rw [refR_len]; rfl) | (rw [secR_len]; rfl) | (rw [List.length_map, tagF_len]; rfl) | (rw [cmV_len]; rfl)) ((hk.blk' hB1 trivial).all)) rfl ?_
      refine q_run (fun _ _ => (r_buildA ((dgR Dig.zero)) (_) ([]) rfl rfl rfl rfl rfl (by rw [dgR_zero]; rfl))) rfl ?_
      refine q_run (fun _ _ => (r_eqlC (p := root = Dig.zero) rfl rfl rfl rfl (by kernel_rfl) (okC_dgR _) (okC_dgR _) rfl (dgR_inj))) rfl ?_
      refine q_asc rfl ?_
      refine q_asc rfl ?_
      refine q_ast rfl ?_
      refine q_nil ?_; intro w9 hk9
      refine W_ret ?_
      refine ret3 (.slice none 0 0) (.slice none 0 0) (.bool (decide (root = Dig.zero))) rfl ?_ ?_ ?_ ?_; rfl; rfl; rfl
      obtain rfl : n = 0 := by omega
      obtain rfl : xs = [] := List.eq_nil_of_length_eq_zero hxn
      refine ⟨_, _, [], [], [], _, rfl, ⟨fun h => ⟨⟨rfl, fun _ => of_decide_eq_true h⟩, fun i hi => by omega, rfl⟩, fun h => decide_eq_true (h.1.2 rfl)⟩, ⟨own_nil _ _ _, InB.nil, Nat.zero_le _⟩, ⟨rowsV_nil _, gin_nil, Nat.zero_le _⟩, fun _ => ⟨rfl, rfl⟩, hk1.trans hk9⟩
    · refine W_skip ?_
      refine W_seq ?_
      refine W_region ?_
      refine o_mvt rfl ?_
      obtain ⟨x, xs', rfl⟩ : ∃ x xs', xs = x :: xs' := by
        cases xs with
        | nil => exact absurd hxn.symm (by intro h; exact h4 (by rw [h]; rfl))
        | cons x xs' => exact ⟨x, xs', rfl⟩
      have hvl := hv.1
      rw [List.length_cons] at hvl h40
      obtain ⟨vk, vkt, rfl⟩ : ∃ a b, vks = a :: b := by
        cases vks with
        | nil => simp at hvl
        | cons a b => exact ⟨a, b, rfl⟩
      obtain ⟨bp, op, cp, ep, hcell⟩ := hv.at (k := 0) rfl
      cases ep
      have hby := hv.2.2 0 vk x rfl rfl
      have hx3 := hl x (List.mem_cons_self ..)
      refine op_run (r_idxS1 rfl rfl rfl rfl (by omega) (by (rw [List.length_cons]; omega))) rfl ?_
      refine op_run (r_load rfl rfl rfl (hk1.cell hcell trivial)) rfl ?_
      refine op_call rfl rfl rfl (rf13_DecodeF w1 vk x (hby.k hk1) (by omega)) ?_; rintro v13 w13 ⟨vb, ve, vks', rfl, hC13, hk13, hF13⟩
      have hC13 : CmIn w13 (cOf x) vb ve vks' := hC13
      obtain ⟨ab, cb, eb_, _, _⟩ := hC13.1.form
      obtain ⟨ae, ce, ee_, _, _⟩ := hC13.2.2.1.form
      refine o_mvt rfl ?_
      refine op_run (r_extract rfl rfl) rfl ?_
      refine op_run (r_extract rfl rfl) rfl ?_
      refine o_alloc rfl rfl rfl ?_; intro w14 b14 e14 hB14 hk14 hs14
      refine o_storeA (cs := cmV (cOf x) vb ve) rfl rfl (by first | rfl | exact binV_one _ | exact dgR_one _ | exact refR_one _ | exact secR_one _ | exact all_c8 _ | exact cmV_one _ (by rw [eb_]; rfl) (by rw [ee_]; rfl)) (by first | rfl | (rw [binV_len]; rfl) | (rw [dgR_len]; rfl) | (rw [refR_len]; rfl) | (rw [secR_len]; rfl) | (rw [List.length_map, tagF_len]; rfl) | (rw [cmV_len]; rfl)) hB14 (by simp [cmV_len]) rfl ?_; intro w15 hB15 hk15 hs15
      have hB15 : Blk w15 b14 (cmV (cOf x) vb ve) 108 := by
        have h := hB15
        rwa [splice_all (by simp [cmV_len])] at h
      have hk1315 : Keep All w13 w15 := hk14.new hk15 (by omega)
      have hk115 := hk13.trans hk1315
      have hk015 := hk1.trans hk115
      have hB1e := hk115.blk' hB1 trivial
      refine o_ast rfl ?_
      refine ops_nil ?_
      refine W_seq ?_
      refine W_cut [47] [31, 32, 33, 34, 35, 36, 37, 38, 39, 40, 41, 42, 43, 44, 45, 46, 47] (fun vs w16 => vs = [.bool (decide (¬ okA n root (x :: xs') 0 x))] ∧ Keep All w15 w16) ?_ ?_
      · refine W_quiet (Keep All w15) (by kernel_rfl) (by kernel_rfl) (Keep.drawn _) ?_
        refine q_mvt rfl ?_
        refine q_run (fun _ _ => (r_neq rfl rfl)) rfl ?_
        refine q_mvt rfl ?_
        refine q_split rfl rfl rfl (fun g18 => ?_) (fun g18 => ?_)
        · refine q_run (fun _ _ => (r_fieldAddr rfl rfl rfl rfl rfl)) (g_yes rfl rfl rfl g18) ?_
          refine q_run (fun _ hk => r_load rfl rfl rfl (hk.cell (hB15.cell (cmV_epoch _ _ _)) trivial)) (g_yes rfl rfl rfl g18) ?_
          refine q_mvt (g_yes rfl rfl rfl g18) ?_
          refine q_run (fun _ _ => (r_neq rfl rfl)) (g_yes rfl rfl rfl g18) ?_
          refine q_pkFt rfl g18 rfl ?_
          refine q_mvt rfl ?_
          refine q_split rfl rfl rfl (fun g20 => ?_) (fun g20 => ?_)
          · refine q_mvt (g_yes rfl rfl rfl g20) ?_
            refine q_run (fun _ _ => r_idxS1 rfl rfl rfl rfl (by omega) (by (rw [List.length_cons]; omega))) (g_yes rfl rfl rfl g20) ?_
            refine q_run (fun _ hk => r_load rfl rfl rfl (hk.cell (hk015.cell hcell trivial) trivial)) (g_yes rfl rfl rfl g20) ?_
            refine q_call rfl rfl (g_yes rfl rfl rfl g20) (fun _ hk => (rf07_Of _ 0 vk x ((hby.k hk015).k hk) (by omega)).mono fun e w'' ⟨u, he, h1, h2⟩ => ⟨u, he, h1, hk.trans h2⟩) ?_
            refine q_run (fun _ _ => (r_fieldA (dgR (digB x)) rfl rfl rfl rfl rfl rfl ((by show ((refR (ofR 0 x)).drop 0).take 32 = _; unfold refR ofR; rw [List.drop_zero]; exact List.take_left' (dgR_len _))))) (g_yes rfl rfl rfl g20) ?_
            refine q_run (fun _ hk => r_loadA (dgR root) rfl rfl rfl (by first | rfl | (rw [binV_len]; rfl) | (rw [dgR_len]; rfl) | (rw [refR_len]; rfl) | (rw [secR_len]; rfl) | (rw [List.length_map, tagF_len]; rfl) | (rw [cmV_len]; rfl)) ((hk.blk' hB1e trivial).all)) (g_yes rfl rfl rfl g20) ?_
            refine q_run (fun _ _ => (r_neqC (p := digB x = root) rfl rfl rfl rfl (by kernel_rfl) (okC_dgR _) (okC_dgR _) rfl (dgR_inj))) (g_yes rfl rfl rfl g20) ?_
            refine q_pkFt rfl g20 rfl ?_
            refine q_nil ?_; intro w27 hk27
            exact ⟨by (repeat (first | with_reducible exact offM_refl _ _ | refine offM_updc rfl ?_ | refine offM_upd rfl ?_ | refine offM_updo rfl ?_ | refine offM_updo_none ?_ | refine offM_head rfl rfl ?_)), congrArg (fun b => [Value.bool b]) (by
              have g1 : (decC x).isSome = true := Classical.byContradiction fun h => (by rw [if_neg h] at g18; simp at g18)
              have g2 : (cOf x).epoch = n := (by have g := of_decide_eq_false g20; omega)
              by_cases hd : digB x = root <;> simp [okA_0, g1, g2, hd]), hk27⟩
          · refine q_skip (g_no rfl rfl rfl g20) ?_
            refine q_skip (g_no rfl rfl rfl g20) ?_
            refine q_skip (g_no rfl rfl rfl g20) ?_
            refine q_skip (g_no rfl rfl rfl g20) ?_
            refine q_skip (g_no rfl rfl rfl g20) ?_
            refine q_skip (g_no rfl rfl rfl g20) ?_
            refine q_skip (g_no rfl rfl rfl g20) ?_
            refine q_pkTc rfl g20 rfl ?_
            refine q_nil ?_; intro w29 hk29
            exact ⟨by (repeat (first | with_reducible exact offM_refl _ _ | refine offM_updc rfl ?_ | refine offM_upd rfl ?_ | refine offM_updo rfl ?_ | refine offM_updo_none ?_ | refine offM_head rfl rfl ?_)), congrArg (fun b => [Value.bool b]) (by
              have g := of_decide_eq_true g20
              symm; exact decide_eq_true fun h => g (by rw [(okA_0.1 h).2.1])), hk29⟩
        · refine q_skip (g_no rfl rfl rfl g18) ?_
          refine q_skip (g_no rfl rfl rfl g18) ?_
          refine q_skip (g_no rfl rfl rfl g18) ?_
          refine q_skip (g_no rfl rfl rfl g18) ?_
          refine q_pkTc rfl g18 rfl ?_
          refine q_mvt rfl ?_
          refine q_skip (g_no rfl rfl rfl rfl) ?_
          refine q_skip (g_no rfl rfl rfl rfl) ?_
          refine q_skip (g_no rfl rfl rfl rfl) ?_
          refine q_skip (g_no rfl rfl rfl rfl) ?_
          refine q_skip (g_no rfl rfl rfl rfl) ?_
          refine q_skip (g_no rfl rfl rfl rfl) ?_
          refine q_skip (g_no rfl rfl rfl rfl) ?_
          refine q_pkTc rfl rfl rfl ?_
          refine q_nil ?_; intro w31 hk31
          exact ⟨by (repeat (first | with_reducible exact offM_refl _ _ | refine offM_updc rfl ?_ | refine offM_upd rfl ?_ | refine offM_updo rfl ?_ | refine offM_updo_none ?_ | refine offM_head rfl rfl ?_)), congrArg (fun b => [Value.bool b]) (by
            symm; exact decide_eq_true fun h => (by rw [if_pos (okA_0.1 h).1] at g18; simp at g18)), hk31⟩
      · rintro J33 vs w33 ⟨rfl, hk33⟩ -
        have hk033 : Keep All w w33 := hk015.trans hk33
        have hB33 := hk33.blk' hB15 trivial
        have hC33 := hC13.k (hk1315.trans hk33)
        refine W_cond_p rfl (fun h34 => ?_) (fun h34 => ?_)
        · refine W_seq ?_
          refine W_region ?_
          refine o_asc rfl ?_
          refine o_asc rfl ?_
          refine o_asc rfl ?_
          refine ops_nil ?_
          refine W_ret ?_
          refine ret3 (.slice none 0 0) (.slice none 0 0) (.bool false) rfl ?_ ?_ ?_ ?_; rfl; rfl; rfl
          refine ⟨_, _, [], [], [], false, rfl, ⟨(fun h => by cases h), fun h => absurd ?_ h34⟩, ⟨own_nil _ _ _, InB.nil, Nat.zero_le _⟩, ⟨rowsV_nil _, gin_nil, Nat.zero_le _⟩, (fun h => by cases h), hk033⟩
          exact h.2.1 0 (by rw [List.length_cons] at hxn; omega) x rfl
        · refine W_skip ?_
          refine W_seq ?_
          refine W_seq ?_
          refine W_region ?_
          refine o_mvt rfl ?_
          refine op_run (r_eql rfl rfl) rfl ?_
          refine ops_nil ?_
          have hok : okA n root (x :: xs') 0 x := Decidable.not_not.1 h34
          rw [List.length_cons] at hxn
          have hlt33 := hB33.lt
          have hevl := cOf_ev x
          refine W_cond_p rfl (fun h36 => ?_) (fun h36 => ?_)
          · refine W_seq ?_
            refine W_held (fun w' => Keep All w33 w') (by kernel_rfl) (Keep.drawn w33) (fun hS => ?_)
            refine any_run 0 (fun w' hS' => (r_fieldAddr rfl rfl rfl rfl rfl)) rfl (by kernel_rfl) (by kernel_rfl) (by kernel_rfl) rfl hS ?_
            refine any_run 1 (fun w' hS' => (r_loadA (dgR (cOf x).state) rfl rfl rfl (by first | rfl | (rw [binV_len]; rfl) | (rw [dgR_len]; rfl) | (rw [refR_len]; rfl) | (rw [secR_len]; rfl) | (rw [List.length_map, tagF_len]; rfl) | (rw [cmV_len]; rfl)) ((fun j y hj => by rw [Addr.add_lit]; exact (hS'.blk' hB33 trivial).cell (cmV_state _ _ _ hj))))) rfl (by kernel_rfl) (by kernel_rfl) (by kernel_rfl) rfl hS ?_
            refine any_run 3 (fun w' hS' => (r_fieldAddr rfl rfl rfl rfl rfl)) rfl (by kernel_rfl) (by kernel_rfl) (by kernel_rfl) rfl hS ?_
            refine any_run 4 (fun w' hS' => (r_load rfl rfl rfl (((hS'.blk' hB33 trivial).cell (cmV_events _ _ _))))) rfl (by kernel_rfl) (by kernel_rfl) (by kernel_rfl) rfl hS ?_
            refine any_run 5 (fun w' hS' => (r_fieldAddr rfl rfl rfl rfl rfl)) rfl (by kernel_rfl) (by kernel_rfl) (by kernel_rfl) rfl hS ?_
            refine any_run 6 (fun w' hS' => (r_loadA (refR (cOf x).prev) rfl rfl rfl (by first | rfl | (rw [binV_len]; rfl) | (rw [dgR_len]; rfl) | (rw [refR_len]; rfl) | (rw [secR_len]; rfl) | (rw [List.length_map, tagF_len]; rfl) | (rw [cmV_len]; rfl)) ((fun j y hj => by rw [Addr.add_lit]; exact (hS'.blk' hB33 trivial).cell (cmV_prev _ _ _ hj))))) rfl (by kernel_rfl) (by kernel_rfl) (by kernel_rfl) rfl hS ?_
            refine any_run 7 (fun w' hS' => (r_build ((refR Rf.zero)) (_) ([]) rfl rfl rfl rfl rfl (by rw [refR_zero]; rfl))) rfl (by kernel_rfl) (by kernel_rfl) (by kernel_rfl) rfl hS ?_
            refine any_run 8 (fun w' hS' => (r_eqlC (p := (cOf x).prev = Rf.zero) rfl rfl rfl rfl (by kernel_rfl) (okC_ref _) (okC_ref _) rfl (refR_inj))) rfl (by kernel_rfl) (by kernel_rfl) (by kernel_rfl) rfl hS ?_
            refine any_one 2 (by kernel_rfl) (one_of rfl ?_)
            refine o_bsA1 (dgR (cOf x).state) rfl rfl (by rw [dgR_len]; exact ti_dg) (by rw [dgR_len]; rfl) (by rw [dgR_len]; decide) rfl ?_; intro w43 b43 e43 hB43 hk43 hs43
            have hz43 := hS.size
            have hz43' := hk43.size
            refine ops_nil ⟨hS.trans hk43, fun hS => ?_⟩
            refine any_ast 9 rfl (by kernel_rfl) (by kernel_rfl) (by kernel_rfl) rfl hS ?_
            refine any_ast 10 rfl (by kernel_rfl) (by kernel_rfl) (by kernel_rfl) rfl hS ?_
            refine any_ast 11 rfl (by kernel_rfl) (by kernel_rfl) (by kernel_rfl) rfl hS ?_
            refine any_done (by kernel_rfl) ?_
            refine W_ret ?_
            refine ret3 (.slice (some ⟨b43, 0, none⟩) 1 1) ve (.bool (decide ((cOf x).prev = Rf.zero))) rfl ?_ ?_ ?_ ?_; rfl; rfl; rfl
            obtain rfl : xs' = [] := List.eq_nil_of_length_eq_zero (by omega)
            obtain rfl : n = 1 := by omega
            have hG := hC33.2.gin hF13.1 hF13.2
            have hz01 := hk1.size
            refine ⟨_, ve, vks', [(cOf x).state], (cOf x).events, _, rfl, ⟨fun h => tells_1.2 ⟨hok, of_decide_eq_true h⟩, fun h => decide_eq_true (tells_1.1 h).2⟩, ⟨?_, fun z hz => ?_, Nat.le_refl _⟩, ⟨hC33.2.k hS, hG.mono fun z hz => ⟨by omega, by omega, fun e => ?_⟩, by rw [List.length_cons]; omega⟩, fun _ => ⟨rfl, by unfold storyE; simp⟩, hk033.trans hS⟩
            · have h : Own w43 29 32 (.slice (some ⟨b43, 0, none⟩) 1 1) 1 (dgR (cOf x).state) := Own.blk (n := 1) (sz := 32) hB43 (dgR_len _) (by unfold maxLen; omega)
              show Own _ _ _ _ 1 _
              unfold rows; rw [List.flatMap_cons, List.flatMap_nil, List.append_nil]; exact h
            · obtain rfl : b43 = z := Option.some.inj hz
              have := hk033.size; omega
            · obtain rfl : z = b43 := Option.some.inj e
              omega
          · refine W_skip ?_
            refine W_seq ?_
            obtain ⟨p, rfl⟩ : ∃ p, n = p + 2 := ⟨n - 2, by omega⟩
            refine W_held (fun w' => Keep All w33 w') (by kernel_rfl) (Keep.drawn w33) (fun hS => ?_)
            refine any_mvt 0 rfl (by kernel_rfl) (by kernel_rfl) (by kernel_rfl) rfl hS ?_
            refine any_run 1 (fun w' hS' => ((r_sub rfl rfl).val (congrArg (Value.int .u64) (show IntKind.u64.wrap (((p + 2 : Nat) : Int) - 1) = ((p + 1 : Nat) : Int) from by rw [wrap_u64]; omega)))) rfl (by kernel_rfl) (by kernel_rfl) (by kernel_rfl) rfl hS ?_
            refine any_run 2 (fun w' hS' => (r_fieldAddr rfl rfl rfl rfl rfl)) rfl (by kernel_rfl) (by kernel_rfl) (by kernel_rfl) rfl hS ?_
            refine any_run 3 (fun w' hS' => (r_fieldAddr rfl rfl rfl rfl rfl)) rfl (by kernel_rfl) (by kernel_rfl) (by kernel_rfl) rfl hS ?_
            refine any_run 4 (fun w' hS' => (r_loadA (dgR (cOf x).prev.dig) rfl rfl rfl (by first | rfl | (rw [binV_len]; rfl) | (rw [dgR_len]; rfl) | (rw [refR_len]; rfl) | (rw [secR_len]; rfl) | (rw [List.length_map, tagF_len]; rfl) | (rw [cmV_len]; rfl)) ((fun j y hj => by rw [Addr.add_lit]; exact (hS'.blk' hB33 trivial).cell (cmV_prev _ _ _ (show (refR (cOf x).prev)[j]? = some y by unfold refR; rw [List.getElem?_append_left (List.getElem?_eq_some_iff.1 hj).1]; exact hj)))))) rfl (by kernel_rfl) (by kernel_rfl) (by kernel_rfl) rfl hS ?_
            refine any_mvt 5 rfl (by kernel_rfl) (by kernel_rfl) (by kernel_rfl) rfl hS ?_
            refine any_run 6 (fun w' hS' => (r_sliceS_lo rfl rfl rfl rfl (by omega) (by (rw [List.length_cons]; omega)))) rfl (by kernel_rfl) (by kernel_rfl) (by kernel_rfl) rfl hS ?_
            refine any_one 7 (by kernel_rfl) (one_of rfl ?_)
            have hSz := hS.size
            refine op_call rfl rfl rfl (ih xs'.length (by rw [← hm, List.length_cons]; omega) xs' rfl _ (p + 1) (by omega) (cOf x).prev.dig _ _ (RowsV.tail (List.length_cons ..) (hv.k (hk033.trans hS)) hc0) (by omega) (fun y hy => hl y (List.mem_cons_of_mem _ hy))) ?_; rintro v49 w49 ⟨us, ue, uks, S, E, B, rfl, hB49, ⟨hO49, hSin0, hSl⟩, ⟨hRE, hGE, hEl⟩, hSE, hk49⟩
            refine ops_nil ⟨hS.trans hk49, fun hS => ?_⟩
            refine any_mvt 8 rfl (by kernel_rfl) (by kernel_rfl) (by kernel_rfl) rfl hS ?_
            refine any_run 9 (fun w' hS' => (r_extract rfl rfl)) rfl (by kernel_rfl) (by kernel_rfl) (by kernel_rfl) rfl hS ?_
            refine any_run 10 (fun w' hS' => (r_extract rfl rfl)) rfl (by kernel_rfl) (by kernel_rfl) (by kernel_rfl) rfl hS ?_
            refine any_run 11 (fun w' hS' => (r_extract rfl rfl)) rfl (by kernel_rfl) (by kernel_rfl) (by kernel_rfl) rfl hS ?_
            refine any_ast 12 rfl (by kernel_rfl) (by kernel_rfl) (by kernel_rfl) rfl hS ?_
            refine any_ast 13 rfl (by kernel_rfl) (by kernel_rfl) (by kernel_rfl) rfl hS ?_
            refine any_ast 14 rfl (by kernel_rfl) (by kernel_rfl) (by kernel_rfl) rfl hS ?_
            refine any_done (by kernel_rfl) ?_
            refine W_seq ?_
            have hS49 : Keep All w33 w49 := hS
            have hSin : InB (fun z => w33.heap.size ≤ z) us := hSin0.mono fun z h => Nat.le_trans hSz h
            have husl := hO49.lt
            have husl0 : ∀ z, us.ownBlock = some z → b14 < z := fun z h => by have := hSin z h; omega
            have hbl49 : b14 < w49.heap.size := by have := hS49.size; omega
            have hRcn := hC33.2.ginT
            have hc49 : ∀ z, z < w33.heap.size → some z ≠ us.ownBlock := fun z h e => by have := hSin z e.symm; omega
            have htell : tellsA (p + 2) root (x :: xs') ↔ tellsA (p + 1) (cOf x).prev.dig xs' := tells_c.trans ⟨fun h => h.2, fun h => ⟨hok, h⟩⟩
            refine W_held (fun w' => Blk w' b14 (cmV (cOf x) vb ve) 108) (by kernel_rfl) (((Keep.drawn w49).blk' (hS49.blk' hB33 trivial) trivial)) (fun hS => ?_)
            refine any_mvt 0 rfl (by kernel_rfl) (by kernel_rfl) (by kernel_rfl) rfl hS ?_
            refine any_run 1 (fun w' hS' => (r_fieldAddr rfl rfl rfl rfl rfl)) rfl (by kernel_rfl) (by kernel_rfl) (by kernel_rfl) rfl hS ?_
            refine any_run 2 (fun w' hS' => (r_loadA (dgR (cOf x).state) rfl rfl rfl (by first | rfl | (rw [binV_len]; rfl) | (rw [dgR_len]; rfl) | (rw [refR_len]; rfl) | (rw [secR_len]; rfl) | (rw [List.length_map, tagF_len]; rfl) | (rw [cmV_len]; rfl)) ((fun j y hj => by rw [Addr.add_lit]; exact hS'.cell (cmV_state _ _ _ hj))))) rfl (by kernel_rfl) (by kernel_rfl) (by kernel_rfl) rfl hS ?_
            refine any_mvt 6 rfl (by kernel_rfl) (by kernel_rfl) (by kernel_rfl) rfl hS ?_
            refine any_run 8 (fun w' hS' => (r_fieldAddr rfl rfl rfl rfl rfl)) rfl (by kernel_rfl) (by kernel_rfl) (by kernel_rfl) rfl hS ?_
            refine any_run 9 (fun w' hS' => (r_load rfl rfl rfl ((hS'.cell (cmV_events _ _ _))))) rfl (by kernel_rfl) (by kernel_rfl) (by kernel_rfl) rfl hS ?_
            have hK : Keep (fun z => some z ≠ us.ownBlock) w49 _ := (Keep.drawn w49).all
            have hOu := hO49.keep (Keep.drawn w49) (fun _ _ => trivial)
            refine any_mvt 11 rfl (by kernel_rfl) (by kernel_rfl) (by kernel_rfl) rfl hS ?_
            refine any_two 3 5 (by kernel_rfl) (one_of rfl ?_) (one_of rfl ?_)
            · refine o_bsA1 (dgR (cOf x).state) rfl rfl (by rw [dgR_len]; exact ti_dg) (by rw [dgR_len]; rfl) (by rw [dgR_len]; decide) rfl ?_; intro w54 b54 e54 hB54 hk54 hs54
              have hSd : Sl w54 (.slice (some ⟨b54, 0, none⟩) 1 1) 1 32 (dgR (cOf x).state) := (Own.blk (n := 1) (sz := 32) hB54 (dgR_len _) (by unfold maxLen; omega)).sl
              have hz54 := hK.size
              have hK := hK.trans hk54.all
              have hOu := hOu.keep hk54 (fun _ _ => trivial)
              refine ops_nil ⟨hk54.blk' hS trivial, fun hS => ?_⟩
              refine any_two 4 5 (by kernel_rfl) (one_of rfl ?_) (one_of rfl ?_)
              · refine o_appS (v := us) rfl rfl hSd rfl ti_dg rfl rfl hOu (dgR_one _) (by unfold maxLen; omega) (by omega) rfl ?_; intro v56 w56 hown56 hk56 hb56
                have hOu : Own w56 29 32 v56 (S.length + 1) (rows dgR (S ++ [(cOf x).state])) := by rw [rows_snocD]; exact hown56
                have hz56 := hK.size
                have hiv : InB (fun z => us.ownBlock = some z ∨ w49.heap.size ≤ z) v56 := hb56.mono fun z hz => hz.imp id (fun h => by omega)
                have hK : Keep (fun z => some z ≠ us.ownBlock) w49 w56 := hK.trans hk56
                refine ops_nil ⟨hk56.blk' hS (fun e => by have := husl0 _ e.symm; omega), fun hS => ?_⟩
                refine any_one 5 (by kernel_rfl) (one_of rfl ?_)
                refine o_bs0 rfl rfl rfl ?_; intro w58 b58 e58 hB58 hk58 hs58
                have hOz : Own w58 53 1 (.slice (some ⟨b58, 0, none⟩) 0 0) 0 [] := Own.blk (n := 0) hB58 rfl (Nat.zero_le _)
                have hz58 := hK.size
                have hK := hK.trans hk58.all
                have hvz : ∀ z, v56.ownBlock = some z → z ≠ b58 := fun z hz e => by have := hOu.lt z hz; omega
                have hOu := hOu.keep hk58 (fun _ _ => trivial)
                refine ops_nil ⟨hk58.blk' hS trivial, fun hS => ?_⟩
                refine any_one 7 (by kernel_rfl) (one_of rfl ?_)
                refine o_appS (v := .slice (some ⟨b58, 0, none⟩) 0 0) (m := 0) (xs := []) rfl rfl (hRE.2.1.keepN hK (hGE.1.mono fun z h => h.2.2)) rfl ti_bss3 rfl rfl hOz hRE.ones (by unfold maxLen; omega) (by omega) rfl ?_; intro v60 w60 hown60 hk60 hb60
                have hOq : Own w60 53 1 v60 E.length uks := by have h := hown60; rwa [Nat.zero_add, List.nil_append] at h
                have hz60 := hK.size
                have hbz : w49.heap.size ≤ b58 := by omega
                have hult := hOu.lt
                have hiq : InB (fun z => w49.heap.size ≤ z) v60 := fun z hz => by
                  rcases hb60 z hz with h | h
                  · obtain rfl : b58 = z := Option.some.inj h; exact hbz
                  · omega
                have hdis : ∀ z, v56.ownBlock = some z → v60.ownBlock ≠ some z := fun z hz e => by
                  rcases hb60 z e with h | h
                  · exact hvz z hz (Option.some.inj h).symm
                  · have := hult z hz; omega
                have hOu := hOu.keep hk60 (fun z hz e => hvz z hz (Option.some.inj e))
                have hK := hK.own hk60 (fun z hz _ => by obtain rfl : b58 = z := Option.some.inj hz; exact hbz)
                refine ops_nil ⟨hk60.blk' hS (fun e => by have e : b14 = b58 := Option.some.inj e; omega), fun hS => ?_⟩
                refine any_one 10 (by kernel_rfl) (one_of rfl ?_)
                refine o_appS (v := v60) rfl rfl ((hC33.2.k hS49).2.1.keepN hK (hRcn.1.mono fun z h => hc49 z h.2)) rfl ti_bss3 rfl rfl hOq hC33.2.ones (by unfold maxLen; omega) (by omega) rfl ?_; intro v62 w62 hown62 hk62 hb62
                have hOq' : Own w62 53 1 v62 (E.length + (cOf x).events.length) (uks ++ vks') := hown62
                have hz62 := hK.size
                have hult := hOu.lt
                have hiq' : InB (fun z => w49.heap.size ≤ z) v62 := fun z hz => by
                  rcases hb62 z hz with h | h
                  · exact hiq z h
                  · omega
                have hdis' : ∀ z, v56.ownBlock = some z → v62.ownBlock ≠ some z := fun z hz e => by
                  rcases hb62 z e with h | h
                  · exact hdis z hz h
                  · have := hult z hz; omega
                have hOu := hOu.keep hk62 (fun z hz e => hdis z hz e.symm)
                have hK := hK.own hk62 (fun z hz _ => hiq z hz)
                refine ops_nil ⟨hk62.blk' hS (fun e => by have := hiq _ e.symm; omega), fun hS => ?_⟩
                refine any_ast 12 rfl (by kernel_rfl) (by kernel_rfl) (by kernel_rfl) rfl hS ?_
                refine any_ast 13 rfl (by kernel_rfl) (by kernel_rfl) (by kernel_rfl) rfl hS ?_
                refine any_ast 14 rfl (by kernel_rfl) (by kernel_rfl) (by kernel_rfl) rfl hS ?_
                refine any_done (by kernel_rfl) ?_
                refine W_ret ?_
                refine ret3 v56 v62 (.bool B) rfl ?_ ?_ ?_ ?_; rfl; rfl; rfl
                obtain ⟨j1, j2, j3⟩ := chk_join (lo := w.heap.size) hk033.size hK hSin husl hS49 hiv hiq' hOu hOq' hdis' hRE (hGE.mono fun z h => ⟨Nat.le_trans (Nat.le_trans hk033.size hSz) h.1, h.2⟩) hC33.2 ((hC33.2.gin hF13.1 hF13.2).mono fun z h => ⟨Nat.le_trans hk1.size h.1, h.2⟩)
                exact ⟨_, _, _, _, _, _, rfl, hB49.trans htell.symm, ⟨by rw [List.length_append]; exact hOu, j1.mono fun z h => Nat.le_trans hk033.size h, by rw [List.length_append]; show S.length + 1 ≤ xs'.length + 1; omega⟩, ⟨j2, j3, by rw [List.length_append]; show _ ≤ (xs'.length + 1) * 65536; omega⟩, fun h => by rw [storyS_c, storyE_c, (hSE h).1, (hSE h).2]; exact ⟨rfl, rfl⟩, (hk033.trans hS49).outA (B := fun z => some z = us.ownBlock) hK (fun z h => Nat.le_trans hk033.size (hSin z h.symm))⟩
              · refine o_bs0 rfl rfl rfl ?_; intro w65 b65 e65 hB65 hk65 hs65
                have hOz : Own w65 53 1 (.slice (some ⟨b65, 0, none⟩) 0 0) 0 [] := Own.blk (n := 0) hB65 rfl (Nat.zero_le _)
                have hz65 := hK.size
                have hK := hK.trans hk65.all
                have hOu := hOu.keep hk65 (fun _ _ => trivial)
                have hSd := hSd.keepE hk65 (fun _ _ => trivial)
                refine ops_nil ⟨hk65.blk' hS trivial, fun hS => ?_⟩
                refine any_one 4 (by kernel_rfl) (one_of rfl ?_)
                have hltz := hOz.lt b65 rfl
                refine o_appS (v := us) rfl rfl hSd rfl ti_dg rfl rfl hOu (dgR_one _) (by unfold maxLen; omega) (by omega) rfl ?_; intro v67 w67 hown67 hk67 hb67
                have hOu : Own w67 29 32 v67 (S.length + 1) (rows dgR (S ++ [(cOf x).state])) := by rw [rows_snocD]; exact hown67
                have hz67 := hK.size
                have hiv : InB (fun z => us.ownBlock = some z ∨ w49.heap.size ≤ z) v67 := hb67.mono fun z hz => hz.imp id (fun h => by omega)
                have hK : Keep (fun z => some z ≠ us.ownBlock) w49 w67 := hK.trans hk67
                have hOz := hOz.keep hk67 (fun z hz e => by obtain rfl : b65 = z := Option.some.inj hz; have := husl _ e.symm; omega)
                have hvz : ∀ z, v67.ownBlock = some z → z ≠ b65 := fun z hz e => by
                  rcases hb67 z hz with h | h
                  · have := husl _ h; omega
                  · omega
                refine ops_nil ⟨hk67.blk' hS (fun e => by have := husl0 _ e.symm; omega), fun hS => ?_⟩
                refine any_one 7 (by kernel_rfl) (one_of rfl ?_)
                refine o_appS (v := .slice (some ⟨b65, 0, none⟩) 0 0) (m := 0) (xs := []) rfl rfl (hRE.2.1.keepN hK (hGE.1.mono fun z h => h.2.2)) rfl ti_bss3 rfl rfl hOz hRE.ones (by unfold maxLen; omega) (by omega) rfl ?_; intro v69 w69 hown69 hk69 hb69
                have hOq : Own w69 53 1 v69 E.length uks := by have h := hown69; rwa [Nat.zero_add, List.nil_append] at h
                have hz69 := hK.size
                have hbz : w49.heap.size ≤ b65 := by omega
                have hult := hOu.lt
                have hiq : InB (fun z => w49.heap.size ≤ z) v69 := fun z hz => by
                  rcases hb69 z hz with h | h
                  · obtain rfl : b65 = z := Option.some.inj h; exact hbz
                  · omega
                have hdis : ∀ z, v67.ownBlock = some z → v69.ownBlock ≠ some z := fun z hz e => by
                  rcases hb69 z e with h | h
                  · exact hvz z hz (Option.some.inj h).symm
                  · have := hult z hz; omega
                have hOu := hOu.keep hk69 (fun z hz e => hvz z hz (Option.some.inj e))
                have hK := hK.own hk69 (fun z hz _ => by obtain rfl : b65 = z := Option.some.inj hz; exact hbz)
                refine ops_nil ⟨hk69.blk' hS (fun e => by have e : b14 = b65 := Option.some.inj e; omega), fun hS => ?_⟩
                refine any_one 10 (by kernel_rfl) (one_of rfl ?_)
                refine o_appS (v := v69) rfl rfl ((hC33.2.k hS49).2.1.keepN hK (hRcn.1.mono fun z h => hc49 z h.2)) rfl ti_bss3 rfl rfl hOq hC33.2.ones (by unfold maxLen; omega) (by omega) rfl ?_; intro v71 w71 hown71 hk71 hb71
                have hOq' : Own w71 53 1 v71 (E.length + (cOf x).events.length) (uks ++ vks') := hown71
                have hz71 := hK.size
                have hult := hOu.lt
                have hiq' : InB (fun z => w49.heap.size ≤ z) v71 := fun z hz => by
                  rcases hb71 z hz with h | h
                  · exact hiq z h
                  · omega
                have hdis' : ∀ z, v67.ownBlock = some z → v71.ownBlock ≠ some z := fun z hz e => by
                  rcases hb71 z e with h | h
                  · exact hdis z hz h
                  · have := hult z hz; omega
                have hOu := hOu.keep hk71 (fun z hz e => hdis z hz e.symm)
                have hK := hK.own hk71 (fun z hz _ => hiq z hz)
                refine ops_nil ⟨hk71.blk' hS (fun e => by have := hiq _ e.symm; omega), fun hS => ?_⟩
                refine any_ast 12 rfl (by kernel_rfl) (by kernel_rfl) (by kernel_rfl) rfl hS ?_
                refine any_ast 13 rfl (by kernel_rfl) (by kernel_rfl) (by kernel_rfl) rfl hS ?_
                refine any_ast 14 rfl (by kernel_rfl) (by kernel_rfl) (by kernel_rfl) rfl hS ?_
                refine any_done (by kernel_rfl) ?_
                refine W_ret ?_
                refine ret3 v67 v71 (.bool B) rfl ?_ ?_ ?_ ?_; rfl; rfl; rfl
                obtain ⟨j1, j2, j3⟩ := chk_join (lo := w.heap.size) hk033.size hK hSin husl hS49 hiv hiq' hOu hOq' hdis' hRE (hGE.mono fun z h => ⟨Nat.le_trans (Nat.le_trans hk033.size hSz) h.1, h.2⟩) hC33.2 ((hC33.2.gin hF13.1 hF13.2).mono fun z h => ⟨Nat.le_trans hk1.size h.1, h.2⟩)
                exact ⟨_, _, _, _, _, _, rfl, hB49.trans htell.symm, ⟨by rw [List.length_append]; exact hOu, j1.mono fun z h => Nat.le_trans hk033.size h, by rw [List.length_append]; show S.length + 1 ≤ xs'.length + 1; omega⟩, ⟨j2, j3, by rw [List.length_append]; show _ ≤ (xs'.length + 1) * 65536; omega⟩, fun h => by rw [storyS_c, storyE_c, (hSE h).1, (hSE h).2]; exact ⟨rfl, rfl⟩, (hk033.trans hS49).outA (B := fun z => some z = us.ownBlock) hK (fun z h => Nat.le_trans hk033.size (hSin z h.symm))⟩
            · refine o_bs0 rfl rfl rfl ?_; intro w74 b74 e74 hB74 hk74 hs74
              have hOz : Own w74 53 1 (.slice (some ⟨b74, 0, none⟩) 0 0) 0 [] := Own.blk (n := 0) hB74 rfl (Nat.zero_le _)
              have hz74 := hK.size
              have hK := hK.trans hk74.all
              have hOu := hOu.keep hk74 (fun _ _ => trivial)
              refine ops_nil ⟨hk74.blk' hS trivial, fun hS => ?_⟩
              refine any_one 3 (by kernel_rfl) (one_of rfl ?_)
              refine o_bsA1 (dgR (cOf x).state) rfl rfl (by rw [dgR_len]; exact ti_dg) (by rw [dgR_len]; rfl) (by rw [dgR_len]; decide) rfl ?_; intro w76 b76 e76 hB76 hk76 hs76
              have hSd : Sl w76 (.slice (some ⟨b76, 0, none⟩) 1 1) 1 32 (dgR (cOf x).state) := (Own.blk (n := 1) (sz := 32) hB76 (dgR_len _) (by unfold maxLen; omega)).sl
              have hz76 := hK.size
              have hK := hK.trans hk76.all
              have hOu := hOu.keep hk76 (fun _ _ => trivial)
              have hOz := hOz.keep hk76 (fun _ _ => trivial)
              refine ops_nil ⟨hk76.blk' hS trivial, fun hS => ?_⟩
              refine any_one 4 (by kernel_rfl) (one_of rfl ?_)
              have hltz := hOz.lt b74 rfl
              refine o_appS (v := us) rfl rfl hSd rfl ti_dg rfl rfl hOu (dgR_one _) (by unfold maxLen; omega) (by omega) rfl ?_; intro v78 w78 hown78 hk78 hb78
              have hOu : Own w78 29 32 v78 (S.length + 1) (rows dgR (S ++ [(cOf x).state])) := by rw [rows_snocD]; exact hown78
              have hz78 := hK.size
              have hiv : InB (fun z => us.ownBlock = some z ∨ w49.heap.size ≤ z) v78 := hb78.mono fun z hz => hz.imp id (fun h => by omega)
              have hK : Keep (fun z => some z ≠ us.ownBlock) w49 w78 := hK.trans hk78
              have hOz := hOz.keep hk78 (fun z hz e => by obtain rfl : b74 = z := Option.some.inj hz; have := husl _ e.symm; omega)
              have hvz : ∀ z, v78.ownBlock = some z → z ≠ b74 := fun z hz e => by
                rcases hb78 z hz with h | h
                · have := husl _ h; omega
                · omega
              refine ops_nil ⟨hk78.blk' hS (fun e => by have := husl0 _ e.symm; omega), fun hS => ?_⟩
              refine any_one 7 (by kernel_rfl) (one_of rfl ?_)
              refine o_appS (v := .slice (some ⟨b74, 0, none⟩) 0 0) (m := 0) (xs := []) rfl rfl (hRE.2.1.keepN hK (hGE.1.mono fun z h => h.2.2)) rfl ti_bss3 rfl rfl hOz hRE.ones (by unfold maxLen; omega) (by omega) rfl ?_; intro v80 w80 hown80 hk80 hb80
              have hOq : Own w80 53 1 v80 E.length uks := by have h := hown80; rwa [Nat.zero_add, List.nil_append] at h
              have hz80 := hK.size
              have hbz : w49.heap.size ≤ b74 := by omega
              have hult := hOu.lt
              have hiq : InB (fun z => w49.heap.size ≤ z) v80 := fun z hz => by
                rcases hb80 z hz with h | h
                · obtain rfl : b74 = z := Option.some.inj h; exact hbz
                · omega
              have hdis : ∀ z, v78.ownBlock = some z → v80.ownBlock ≠ some z := fun z hz e => by
                rcases hb80 z e with h | h
                · exact hvz z hz (Option.some.inj h).symm
                · have := hult z hz; omega
              have hOu := hOu.keep hk80 (fun z hz e => hvz z hz (Option.some.inj e))
              have hK := hK.own hk80 (fun z hz _ => by obtain rfl : b74 = z := Option.some.inj hz; exact hbz)
              refine ops_nil ⟨hk80.blk' hS (fun e => by have e : b14 = b74 := Option.some.inj e; omega), fun hS => ?_⟩
              refine any_one 10 (by kernel_rfl) (one_of rfl ?_)
              refine o_appS (v := v80) rfl rfl ((hC33.2.k hS49).2.1.keepN hK (hRcn.1.mono fun z h => hc49 z h.2)) rfl ti_bss3 rfl rfl hOq hC33.2.ones (by unfold maxLen; omega) (by omega) rfl ?_; intro v82 w82 hown82 hk82 hb82
              have hOq' : Own w82 53 1 v82 (E.length + (cOf x).events.length) (uks ++ vks') := hown82
              have hz82 := hK.size
              have hult := hOu.lt
              have hiq' : InB (fun z => w49.heap.size ≤ z) v82 := fun z hz => by
                rcases hb82 z hz with h | h
                · exact hiq z h
                · omega
              have hdis' : ∀ z, v78.ownBlock = some z → v82.ownBlock ≠ some z := fun z hz e => by
                rcases hb82 z e with h | h
                · exact hdis z hz h
                · have := hult z hz; omega
              have hOu := hOu.keep hk82 (fun z hz e => hdis z hz e.symm)
              have hK := hK.own hk82 (fun z hz _ => hiq z hz)
              refine ops_nil ⟨hk82.blk' hS (fun e => by have := hiq _ e.symm; omega), fun hS => ?_⟩
              refine any_ast 12 rfl (by kernel_rfl) (by kernel_rfl) (by kernel_rfl) rfl hS ?_
              refine any_ast 13 rfl (by kernel_rfl) (by kernel_rfl) (by kernel_rfl) rfl hS ?_
              refine any_ast 14 rfl (by kernel_rfl) (by kernel_rfl) (by kernel_rfl) rfl hS ?_
              refine any_done (by kernel_rfl) ?_
              refine W_ret ?_
              refine ret3 v78 v82 (.bool B) rfl ?_ ?_ ?_ ?_; rfl; rfl; rfl
              obtain ⟨j1, j2, j3⟩ := chk_join (lo := w.heap.size) hk033.size hK hSin husl hS49 hiv hiq' hOu hOq' hdis' hRE (hGE.mono fun z h => ⟨Nat.le_trans (Nat.le_trans hk033.size hSz) h.1, h.2⟩) hC33.2 ((hC33.2.gin hF13.1 hF13.2).mono fun z h => ⟨Nat.le_trans hk1.size h.1, h.2⟩)
              exact ⟨_, _, _, _, _, _, rfl, hB49.trans htell.symm, ⟨by rw [List.length_append]; exact hOu, j1.mono fun z h => Nat.le_trans hk033.size h, by rw [List.length_append]; show S.length + 1 ≤ xs'.length + 1; omega⟩, ⟨j2, j3, by rw [List.length_append]; show _ ≤ (xs'.length + 1) * 65536; omega⟩, fun h => by rw [storyS_c, storyE_c, (hSE h).1, (hSE h).2]; exact ⟨rfl, rfl⟩, (hk033.trans hS49).outA (B := fun z => some z = us.ownBlock) hK (fun z h => Nat.le_trans hk033.size (hSin z h.symm))⟩
end Go.Proofs.Ytigehkfdfecfoaa.B
