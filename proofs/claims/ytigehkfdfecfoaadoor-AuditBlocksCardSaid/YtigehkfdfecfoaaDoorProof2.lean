/-
  The document's Check: the walk.
-/
import Derived.Test.YtigehkfdfecfoaaDoorProof1
import Derived.Test.YtigehkfdfecfoaaDoorNode2
namespace Go.Proofs.YtigehkfdfecfoaaDoor.B
open Go
set_option linter.unusedVariables false
set_option maxHeartbeats 2000000
set_option maxRecDepth 100000
attribute [local irreducible] W OpsW OpsQ retP
attribute [local irreducible] numR kdR rnV
theorem rf08_Nibble (w : World) (key : Dig) (at_ : Nat) (x : UInt8) (hx : (nibs key.val)[at_]? = some x) : Ret Tryd.prog 15 [.agg (dgR key).toArray, .int .i64 at_].toArray w fun r w' => r = c8 x ∧ Keep All w w' := by
  have hat : at_ < 64 := by have := (List.getElem?_eq_some_iff.1 hx).1; rw [nibs_len, key.2] at this; omega
  obtain ⟨b, hb⟩ : ∃ b, key.val[at_ / 2]? = some b := ⟨_, List.getElem?_eq_getElem (by rw [key.2]; omega)⟩
  have hbl := b.toNat_lt
  refine enter (fn := Tryd.f15) (n := 18) Tryd.func15 rfl rfl (by simp) ?_
  refine W_seq ?_
  refine W_region ?_
  refine o_box rfl rfl rfl ?_; intro w1 b1 e1 hB1 hk1 hs1
  have hB1 : Blk w1 b1 (dgR key) 28 := hB1
  refine o_asc rfl ?_
  refine ops_nil ?_
  refine W_seq ?_
  refine W_seq ?_
  refine W_region ?_
  refine o_mvt rfl ?_
  refine op_run ((r_rem rfl rfl (by decide)).val (congrArg (Value.int .i64) (tm2 at_))) rfl ?_
  refine op_run (r_eql rfl rfl) rfl ?_
  refine ops_nil ?_
  refine W_cond_p rfl (fun h2 => ?_) (fun h2 => ?_)
  · refine W_seq ?_
    refine W_region ?_
    refine o_mvt rfl ?_
    refine op_run ((r_quo rfl rfl (by decide)).val (congrArg (Value.int .i64) (show IntKind.i64.wrap ((at_ : Int).tdiv 2) = ((at_ / 2 : Nat) : Int) from by rw [Int.tdiv_eq_ediv_of_nonneg (by omega), wrap_i64 (by omega) (by omega)]; omega))) rfl ?_
    refine op_run (r_idxA1 rfl rfl rfl rfl (by omega) (by omega)) rfl ?_
    refine op_run (r_load rfl rfl rfl (v := c8 b) (hB1.cell (show (dgR key)[0 + ((at_ / 2 : Nat) : Int).toNat]? = some (c8 b) by rw [Int.toNat_natCast, Nat.zero_add]; unfold dgR; rw [List.getElem?_map, hb]; rfl))) rfl ?_
    refine op_run ((r_quo rfl rfl (by decide)).val (congrArg (Value.int .u8) (show IntKind.u8.wrap (((b.toNat : Nat) : Int).tdiv 16) = (((hiN b).toNat : Nat) : Int) from by rw [Int.tdiv_eq_ediv_of_nonneg (by omega), hiN_nat]; exact (show IntKind.u8.wrap (((b.toNat : Nat) : Int) / 16) = (((b.toNat : Nat) : Int) / 16) % 256 from rfl).trans (by omega)))) rfl ?_
    refine o_ast rfl ?_
    refine ops_nil ?_
    refine W_ret ?_
    refine ret1 (c8 (hiN b)) rfl ?_ ?_; rfl
    have h := nibs_hi key.val (at_ / 2)
    rw [show 2 * (at_ / 2) = at_ by omega, hx, hb] at h
    injection h with h
    exact ⟨by rw [h], hk1⟩
  · refine W_skip ?_
    refine W_seq ?_
    refine W_region ?_
    refine o_mvt rfl ?_
    refine op_run ((r_quo rfl rfl (by decide)).val (congrArg (Value.int .i64) (show IntKind.i64.wrap ((at_ : Int).tdiv 2) = ((at_ / 2 : Nat) : Int) from by rw [Int.tdiv_eq_ediv_of_nonneg (by omega), wrap_i64 (by omega) (by omega)]; omega))) rfl ?_
    refine op_run (r_idxA1 rfl rfl rfl rfl (by omega) (by omega)) rfl ?_
    refine op_run (r_load rfl rfl rfl (v := c8 b) (hB1.cell (show (dgR key)[0 + ((at_ / 2 : Nat) : Int).toNat]? = some (c8 b) by rw [Int.toNat_natCast, Nat.zero_add]; unfold dgR; rw [List.getElem?_map, hb]; rfl))) rfl ?_
    refine op_run ((r_rem rfl rfl (by decide)).val (congrArg (Value.int .u8) (show ((b.toNat : Nat) : Int).tmod 16 = (((loN b).toNat : Nat) : Int) from by rw [Int.tmod_eq_emod_of_nonneg (by omega), loN_nat]; omega))) rfl ?_
    refine o_ast rfl ?_
    refine ops_nil ?_
    refine W_ret ?_
    refine ret1 (c8 (loN b)) rfl ?_ ?_; rfl
    have h := nibs_lo key.val (at_ / 2)
    rw [show 2 * (at_ / 2) + 1 = at_ by omega, hx, hb] at h
    injection h with h
    exact ⟨by rw [h], hk1⟩
theorem pre_snoc {l r : List UInt8} {x : UInt8} : (l ++ [x]) <+: r ↔ l <+: r ∧ r[l.length]? = some x := by
  constructor
  · rintro ⟨t, rfl⟩
    exact ⟨⟨x :: t, by simp⟩, by simp⟩
  · rintro ⟨⟨t, rfl⟩, h⟩
    rw [List.getElem?_append_right (Nat.le_refl _), Nat.sub_self] at h
    cases t with
    | nil => cases h
    | cons y t => injection h with h; subst h; exact ⟨t, by simp⟩
theorem nibs_16 : ∀ (l : List UInt8) (x : UInt8), x ∈ nibs l → x.toNat < 16 := fun l x h => by
  unfold nibs at h
  obtain ⟨b, _, hb⟩ := List.mem_flatMap.1 h
  rcases List.mem_cons.1 hb with rfl | hb
  · rw [hiN_nat]; have := b.toNat_lt; omega
  · obtain rfl := List.mem_singleton.1 hb; rw [loN_nat]; omega
theorem RowsV.tailP {w : World} {a : Option Addr} {c n : Nat} {vk : Value} {vks : List Value} {x : List UInt8} {xs : List (List UInt8)} (hn : n = xs.length + 1) (h : RowsV w (.slice a n c) (vk :: vks) (x :: xs)) (hc : n ≤ c) : RowsV w (subSl a 1 1 n c) vks xs := by
  subst hn
  refine ⟨by have := h.1; simpa using this, ?_, fun i u y hu hy => h.2.2 (i + 1) u y hu hy⟩
  have h2 := Sl.sub (l := 1) (h := xs.length + 1) (m := c) h.2.1 (by omega) (Nat.le_refl _) hc (Nat.le_refl _)
  have hl := h.1
  rw [List.length_cons, List.length_cons] at hl
  rw [Nat.mul_one, List.take_of_length_le (by rw [List.length_cons]; omega), List.drop_one, List.tail_cons, Nat.add_sub_cancel] at h2
  exact h2
/-- What nodes show, from a nibble on. -/
def chkF (root : Dig) (key : List UInt8) (nodes : List (List UInt8)) (fr : Nat) : Option (Bool × List UInt8) :=
  if nodes = [] then (if fr = 0 ∧ root = tagD 5 [] then some (false, []) else none) else chkR root ((nibs key).drop fr) nodes
theorem chkF_0 (root : Dig) (key : List UInt8) (nodes : List (List UInt8)) : chkF root key nodes 0 = chk root key nodes := by
  unfold chkF chk; simp
theorem chkF_s (root : Dig) (key : List UInt8) (nodes : List (List UInt8)) (fr : Nat) : chkF root key nodes (fr + 1) = chkR root ((nibs key).drop (fr + 1)) nodes := by
  unfold chkF
  by_cases h : nodes = []
  · rw [if_pos h, if_neg (by omega), h]; rfl
  · rw [if_neg h]
theorem rf09_Check (m : Nat) : ∀ (nodes : List (List UInt8)) (hm : nodes.length = m) (w : World) (root key : Dig) (v : Value) (vks : List Value) (fr : Nat) (hfr : fr ≤ 64) (hv : RowsV w v vks nodes) (h70 : nodes.length ≤ 70) (hl : ∀ b ∈ nodes, b.length ≤ 3000),
    Ret Tryd.prog 7 [.agg (dgR root).toArray, .agg (dgR key).toArray, v, .int .i64 fr].toArray w fun r w' => ∃ vv, r = chkO (chkF root key.val nodes fr) vv ∧ one vv = true ∧ By w' vv ((chkF root key.val nodes fr).getD (false, [])).2 ∧ Keep All w w' := by
  induction m using Nat.strongRecOn
  rename_i m ih
  intro nodes hm w root key v vks fr hfr hv h70 hl
  obtain ⟨a0, c0, rfl, hc0, hcm0⟩ := hv.2.1.form
  have hvl := hv.1
  obtain ⟨C, hC⟩ : ∃ C, C = chkF root key.val nodes fr := ⟨_, rfl⟩
  rw [← hC]
  have bad : ∀ wf, C = none → Keep All w wf → ∃ vv, Value.tuple #[.slice none 0 0, .bool false, .int .i64 3] = chkO C vv ∧ one vv = true ∧ By wf vv (C.getD (false, [])).2 ∧ Keep All w wf := fun wf h hk => by
    rw [h]; exact ⟨_, rfl, rfl, Sl.nil _ _, hk⟩
  have no : ∀ wf, C = some (false, []) → Keep All w wf → ∃ vv, Value.tuple #[.slice none 0 0, .bool false, .int .i64 0] = chkO C vv ∧ one vv = true ∧ By wf vv (C.getD (false, [])).2 ∧ Keep All w wf := fun wf h hk => by
    rw [h]; exact ⟨_, rfl, rfl, Sl.nil _ _, hk⟩
  refine enter (fn := Tryd.f7) (n := 113) Tryd.func7 rfl rfl (by simp) ?_
  refine W_seq ?_
  refine W_region ?_
  refine o_box rfl rfl rfl ?_; intro w1 b1 e1 hB1 hk1 hs1
  have hB1 : Blk w1 b1 (dgR root) 28 := hB1
  refine o_box rfl rfl rfl ?_; intro w2 b2 e2 hB2 hk2 hs2
  have hB2 : Blk w2 b2 (dgR key) 28 := hB2
  have hk02 := hk1.trans hk2
  have hB1 := hk2.blk' hB1 trivial
  refine o_asc rfl ?_
  refine o_asc rfl ?_
  refine o_asc rfl ?_
  refine ops_nil ?_
  refine W_seq ?_
  refine W_seq ?_
  refine W_region ?_
  refine o_mvt rfl ?_
  refine op_run (r_len rfl rfl rfl) rfl ?_
  refine op_run (r_eql rfl rfl) rfl ?_
  refine ops_nil ?_
  refine W_cond_p rfl (fun h3 => ?_) (fun h3 => ?_)
  · refine W_seq ?_
    refine W_cut [26] [20, 21, 22, 23, 24, 25, 26] (fun vs w4 => vs = [.bool (decide (fr = 0 ∧ root = tagD 5 []))] ∧ Keep All w2 w4) ?_ ?_
    · refine W_quiet (Keep All w2) (by kernel_rfl) (by kernel_rfl) (Keep.drawn _) ?_
      refine q_mvt rfl ?_
      refine q_run (fun _ _ => (r_eql rfl rfl)) rfl ?_
      refine q_mvt rfl ?_
      refine q_split rfl rfl rfl (fun g6 => ?_) (fun g6 => ?_)
      · refine q_run (fun _ hk => r_loadA (dgR root) rfl rfl rfl (by first | rfl | (rw [binV_len]; rfl) | (rw [dgR_len]; rfl) | (rw [refR_len]; rfl) | (rw [secR_len]; rfl) | (rw [List.length_map, tagF_len]; rfl) | (rw [rnV_len]; rfl)) ((hk.blk' hB1 trivial).all)) (g_yes rfl rfl rfl g6) ?_
        refine q_call rfl rfl (g_yes rfl rfl rfl g6) (fun _ hk => (rf_TagD _ _ 5 [] SlR.nil (tag_0 _)).mono fun e w'' ⟨u, he, h1, h2⟩ => ⟨u, he, h1, hk.trans h2⟩) ?_
        refine q_run (fun _ _ => (r_eqlC (p := root = tagD 5 []) rfl rfl rfl rfl (by kernel_rfl) (okC_dgR _) (okC_dgR _) rfl (dgR_inj))) (g_yes rfl rfl rfl g6) ?_
        refine q_pkTt rfl g6 rfl ?_
        refine q_nil ?_; intro w10 hk10
        exact ⟨by (repeat (first | with_reducible exact offM_refl _ _ | refine offM_updc rfl ?_ | refine offM_upd rfl ?_ | refine offM_updo rfl ?_ | refine offM_updo_none ?_ | refine offM_head rfl rfl ?_)), congrArg (fun b => [Value.bool b]) (by
          have g := of_decide_eq_true g6
          rw [decide_eq_decide]; exact ⟨fun h => ⟨by omega, h⟩, fun h => h.2⟩), hk10⟩
      · refine q_skip (g_no rfl rfl rfl g6) ?_
        refine q_skip (g_no rfl rfl rfl g6) ?_
        refine q_skip (g_no rfl rfl rfl g6) ?_
        refine q_pkFc rfl g6 rfl ?_
        refine q_nil ?_; intro w12 hk12
        exact ⟨by (repeat (first | with_reducible exact offM_refl _ _ | refine offM_updc rfl ?_ | refine offM_upd rfl ?_ | refine offM_updo rfl ?_ | refine offM_updo_none ?_ | refine offM_head rfl rfl ?_)), congrArg (fun b => [Value.bool b]) (by
          have g := of_decide_eq_false g6
          symm; exact decide_eq_false fun h => g (by rw [h.1]; rfl)), hk12⟩
    · rintro J14 vs w14 ⟨rfl, hk14⟩ -
      have hnil : nodes = [] := List.eq_nil_of_length_eq_zero (by omega)
      refine W_cond_p rfl (fun h15 => ?_) (fun h15 => ?_)
      · refine W_seq ?_
        refine W_region ?_
        refine o_asc rfl ?_
        refine o_asc rfl ?_
        refine o_asc rfl ?_
        refine ops_nil ?_
        refine W_ret ?_
        refine ret3 (.slice none 0 0) (.bool false) (.int .i64 0) rfl ?_ ?_ ?_ ?_; rfl; rfl; rfl
        exact no _ (by rw [hC]; unfold chkF; rw [if_pos hnil, if_pos h15]) (hk02.trans hk14)
      · refine W_skip ?_
        refine W_seq ?_
        refine W_region ?_
        refine o_asc rfl ?_
        refine o_asc rfl ?_
        refine o_asc rfl ?_
        refine ops_nil ?_
        refine W_ret ?_
        refine ret3 (.slice none 0 0) (.bool false) (.int .i64 3) rfl ?_ ?_ ?_ ?_; rfl; rfl; rfl
        exact bad _ (by rw [hC]; unfold chkF; rw [if_pos hnil, if_neg h15]) (hk02.trans hk14)
  · refine W_skip ?_
    refine W_seq ?_
    refine W_region ?_
    refine o_mvt rfl ?_
    obtain ⟨b, bs, rfl⟩ : ∃ b bs, nodes = b :: bs := by
      cases nodes with
      | nil => exact absurd rfl h3
      | cons b bs => exact ⟨b, bs, rfl⟩
    rw [List.length_cons] at hvl h70
    obtain ⟨vk, vkt, rfl⟩ : ∃ a b, vks = a :: b := by
      cases vks with
      | nil => simp at hvl
      | cons a b => exact ⟨a, b, rfl⟩
    obtain ⟨bp, op, cp, ep, hcell⟩ := hv.at (k := 0) rfl
    cases ep
    have hbk := hv.2.2 0 vk b rfl rfl
    obtain ⟨ak, ck, rfl, _, _⟩ := hbk.form
    have hb2 := hl b (List.mem_cons_self ..)
    obtain ⟨rest, hrest⟩ : ∃ rest, rest = (nibs key.val).drop fr := ⟨_, rfl⟩
    have hrl : rest.length = 64 - fr := by rw [hrest, List.length_drop, nibs_len, key.2]
    have hrg : ∀ j x, rest[j]? = some x → (nibs key.val)[fr + j]? = some x := fun j x h => by rw [hrest, List.getElem?_drop] at h; exact h
    have hCr : C = chkR root rest (b :: bs) := by rw [hC]; unfold chkF; rw [if_neg (by simp), hrest]
    obtain ⟨R, hR⟩ : ∃ R, R = ndR ndM b := ⟨_, rfl⟩
    refine op_run (r_idxS1 rfl rfl rfl rfl (by omega) (by (rw [List.length_cons]; omega))) rfl ?_
    refine op_run (r_load rfl rfl rfl (hk02.cell hcell trivial)) rfl ?_
    refine o_mvt rfl ?_
    refine op_run ((r_sub rfl rfl).val (congrArg (Value.int .i64) (show IntKind.i64.wrap (64 - (fr : Int)) = ((64 - fr : Nat) : Int) from (wrap_i64 (by omega) (by omega)).trans (by omega)))) rfl ?_
    refine op_call rfl rfl rfl (rf09_Read w2 (64 - fr) (by omega) _ b (hbk.k hk02) hb2) ?_; rintro v20 w20 ⟨lf, vb, vv, k, ok, rfl, hvb1, hvv1, hok, hRR, hk20⟩
    rw [← hR, ← hrl] at hok
    rw [← hR] at hRR
    refine o_mvt rfl ?_
    refine op_run (r_extract rfl rfl) rfl ?_
    refine op_run (r_extract rfl rfl) rfl ?_
    refine o_alloc rfl rfl rfl ?_; intro w21 b21 e21 hB21 hk21 hs21
    refine o_storeA (cs := rnV lf vb vv k k) rfl rfl (by first | rfl | exact binV_one _ | exact dgR_one _ | exact refR_one _ | exact secR_one _ | exact all_c8 _ | exact rnV_one _ _ _ (by assumption) (by assumption)) (by first | rfl | (rw [binV_len]; rfl) | (rw [dgR_len]; rfl) | (rw [refR_len]; rfl) | (rw [secR_len]; rfl) | (rw [List.length_map, tagF_len]; rfl) | (rw [rnV_len]; rfl)) hB21 (by (rw [rnV_len]; exact Nat.le_refl _)) rfl ?_; intro w22 hB22 hk22 hs22
    have hB22 : Blk w22 b21 (rnV lf vb vv k k) 48 := by
      have h := hB22
      rwa [splice_all (by rw [rnV_len]; rfl)] at h
    have hk2022 : Keep All w20 w22 := hk21.new hk22 (by omega)
    have hk222 := hk20.trans hk2022
    have hk022 := hk02.trans hk222
    have hB1w := hk222.blk' hB1 trivial
    have hB2w := hk222.blk' hB2 trivial
    refine o_ast rfl ?_
    refine ops_nil ?_
    refine W_seq ?_
    refine W_cut [46] [36, 37, 38, 39, 40, 41, 42, 43, 44, 45, 46] (fun vs w23 => vs = [.bool (decide (¬ (okN rest.length R ∧ tagD 4 [b] = root)))] ∧ Keep All w22 w23) ?_ ?_
    · refine W_held (fun w' => Keep All w22 w') (by kernel_rfl) (Keep.drawn w22) (fun hS => ?_)
      refine any_mvt 0 rfl (by kernel_rfl) (by kernel_rfl) (by kernel_rfl) rfl hS ?_
      refine any_run 1 (fun w' hS' => (r_not rfl)) rfl (by kernel_rfl) (by kernel_rfl) (by kernel_rfl) rfl hS ?_
      refine any_mvt 2 rfl (by kernel_rfl) (by kernel_rfl) (by kernel_rfl) rfl hS ?_
      refine a_split 38 false rfl (fun g25 => ?_) (fun g25 => ?_)
      · refine any_mvt 3 rfl (by kernel_rfl) (by kernel_rfl) (by kernel_rfl) (g_yes rfl rfl rfl (by rw [g25] <;> rfl)) hS ?_
        refine any_run 4 (fun w' hS' => (r_idxS1 rfl rfl rfl rfl (by omega) (by (rw [List.length_cons]; omega)))) rfl (by kernel_rfl) (by kernel_rfl) (by kernel_rfl) (g_yes rfl rfl rfl (by rw [g25] <;> rfl)) hS ?_
        refine any_run 5 (fun w' hS' => (r_load rfl rfl rfl ((hS'.cell (hk022.cell hcell trivial) trivial)))) rfl (by kernel_rfl) (by kernel_rfl) (by kernel_rfl) (g_yes rfl rfl rfl (by rw [g25] <;> rfl)) hS ?_
        refine any_run 8 (fun w' hS' => (r_loadA (dgR root) rfl rfl rfl (by first | rfl | (rw [binV_len]; rfl) | (rw [dgR_len]; rfl) | (rw [refR_len]; rfl) | (rw [secR_len]; rfl) | (rw [List.length_map, tagF_len]; rfl) | (rw [rnV_len]; rfl)) ((hS'.blk' hB1w trivial).all))) rfl (by kernel_rfl) (by kernel_rfl) (by kernel_rfl) (g_yes rfl rfl rfl (by rw [g25] <;> rfl)) hS ?_
        refine any_one 6 (by kernel_rfl) (one_of rfl ?_)
        refine o_bs1 (v := (.slice ak b.length ck)) rfl rfl rfl rfl rfl (g_yes rfl rfl rfl (by rw [g25] <;> rfl)) ?_; intro w29 b29 e29 hB29 hk29 hs29
        refine ops_nil ⟨hS.trans hk29, fun hS => ?_⟩
        refine any_one 7 (by kernel_rfl) (one_of rfl ?_)
        refine op_call rfl rfl (g_yes rfl rfl rfl (by rw [g25] <;> rfl)) (rf_TagD _ _ 4 [b] (rowsB_one hB29 ((hbk.k hk022).k hS)) (tag_1 _ (by omega))) ?_; rintro v31 w31 ⟨rfl, hk31⟩
        refine ops_nil ⟨hS.trans hk31, fun hS => ?_⟩
        refine any_run 9 (fun w' hS' => (r_neqC (p := tagD 4 [b] = root) rfl rfl rfl rfl (by kernel_rfl) (okC_dgR _) (okC_dgR _) rfl (dgR_inj))) rfl (by kernel_rfl) (by kernel_rfl) (by kernel_rfl) (g_yes rfl rfl rfl (by rw [g25] <;> rfl)) hS ?_
        refine any_run 10 (fun w' hS' => (r_pickF rfl (by rw [g25] <;> rfl))) rfl (by kernel_rfl) (by kernel_rfl) (by kernel_rfl) rfl hS ?_
        refine any_done (by kernel_rfl) ?_
        exact ⟨by (repeat (first | with_reducible exact offM_refl _ _ | refine offM_updc rfl ?_ | refine offM_upd rfl ?_ | refine offM_updo rfl ?_ | refine offM_updo_none ?_ | refine offM_head rfl rfl ?_)), congrArg (fun b => [Value.bool b]) (by
          have g : okN rest.length R := hok.1 (by simpa using g25)
          by_cases hd : tagD 4 [b] = root <;> simp [g, hd]), hS⟩
      · refine any_skip 3 rfl (by kernel_rfl) (by kernel_rfl) (by kernel_rfl) (g_no rfl rfl rfl (by rw [g25] <;> rfl)) hS ?_
        refine any_skip 4 rfl (by kernel_rfl) (by kernel_rfl) (by kernel_rfl) (g_no rfl rfl rfl (by rw [g25] <;> rfl)) hS ?_
        refine any_skip 5 rfl (by kernel_rfl) (by kernel_rfl) (by kernel_rfl) (g_no rfl rfl rfl (by rw [g25] <;> rfl)) hS ?_
        refine any_skip 8 rfl (by kernel_rfl) (by kernel_rfl) (by kernel_rfl) (g_no rfl rfl rfl (by rw [g25] <;> rfl)) hS ?_
        refine any_one 6 (by kernel_rfl) (one_of rfl ?_)
        refine op_skip (g_no rfl rfl rfl (by rw [g25] <;> rfl)) ?_
        refine ops_nil ⟨hS, fun hS => ?_⟩
        refine any_one 7 (by kernel_rfl) (one_of rfl ?_)
        refine op_skip (g_no rfl rfl rfl (by rw [g25] <;> rfl)) ?_
        refine ops_nil ⟨hS, fun hS => ?_⟩
        refine any_skip 9 rfl (by kernel_rfl) (by kernel_rfl) (by kernel_rfl) (g_no rfl rfl rfl (by rw [g25] <;> rfl)) hS ?_
        refine any_run 10 (fun w' hS' => (r_pickT rfl (by rw [g25] <;> rfl))) rfl (by kernel_rfl) (by kernel_rfl) (by kernel_rfl) rfl hS ?_
        refine any_done (by kernel_rfl) ?_
        exact ⟨by (repeat (first | with_reducible exact offM_refl _ _ | refine offM_updc rfl ?_ | refine offM_upd rfl ?_ | refine offM_updo rfl ?_ | refine offM_updo_none ?_ | refine offM_head rfl rfl ?_)), congrArg (fun b => [Value.bool b]) (by
          have g : ¬ okN rest.length R := fun h => (by have := hok.2 h; rw [this] at g25; simp at g25)
          simp [g]), hS⟩
    · rintro J38 vs w38 ⟨rfl, hk38⟩ -
      have hk038 := hk022.trans hk38
      have hB38 := hk38.blk' hB22 trivial
      have hB2x := hk38.blk' hB2w trivial
      refine W_cond_p rfl (fun h39 => ?_) (fun h39 => ?_)
      · refine W_seq ?_
        refine W_region ?_
        refine o_asc rfl ?_
        refine o_asc rfl ?_
        refine o_asc rfl ?_
        refine ops_nil ?_
        refine W_ret ?_
        refine ret3 (.slice none 0 0) (.bool false) (.int .i64 3) rfl ?_ ?_ ?_ ?_; rfl; rfl; rfl
        exact bad _ (hCr.trans (chkR_bad (by rw [← hR]; exact h39))) hk038
      · refine W_skip ?_
        refine W_seq ?_
        refine W_region ?_
        refine o_asc rfl ?_
        refine ops_nil ?_
        refine W_seq ?_
        refine W_seq ?_
        refine W_region ?_
        refine o_asc rfl ?_
        refine ops_nil ?_
        refine W_block ?_
        have hokR : okN rest.length (ndR ndM b) ∧ tagD 4 [b] = root := by rw [← hR]; exact Decidable.not_not.1 h39
        obtain ⟨hlf, hbb0, hbv0, hkk⟩ := hRR (hok.2 (by rw [hR]; exact hokR.1))
        subst hkk
        have hbb := Sl.k hbb0 (hk2022.trans hk38)
        have hbv := Sl.k hbv0 (hk2022.trans hk38)
        obtain ⟨ab, cb, rfl, hcb, hcbm⟩ := hbb.form
        have hbl : R.1.beg.length ≤ rest.length := by
          have h := hokR.1.1.1
          unfold okL at h
          rw [← hR] at h
          split at h
          · omega
          · have := h.1; omega
        have hr64 : rest.length ≤ 64 := by omega
        refine W_loop [13, 14] [13, 14, 47, 48, 49, 50, 51, 52, 53, 54, 55, 56, 57, 58, 59, 60, 61, 62, 63, 64, 65, 66, 67] (fun vs w' => ∃ i : Nat, vs = [.bool (decide (R.1.beg.take i <+: rest)), .int .i64 i] ∧ i ≤ R.1.beg.length ∧ Keep All w38 w') (fun vs _ => match vs with | [_, .int _ y] => R.1.beg.length - y.toNat | _ => 0) ⟨0, congrArg (fun b => [Value.bool b, Value.int .i64 0]) (by simp), Nat.zero_le _, Keep.refl _⟩ ?_
        rintro J41 vs w41 ⟨i, rfl, hi, hk41⟩ -
        have hB41 := hk41.blk' hB38 trivial
        have hB2y := hk41.blk' hB2x trivial
        refine W_seq ?_
        refine W_seq ?_
        refine W_region ?_
        refine o_mvt rfl ?_
        refine op_run (r_fieldAddr rfl rfl rfl rfl rfl) rfl ?_
        refine op_run (r_load rfl rfl rfl (hB41.cell (by unfold rnV; rfl))) rfl ?_
        refine op_run (r_len rfl rfl rfl) rfl ?_
        refine op_run (r_lss rfl rfl) rfl ?_
        refine ops_nil ?_
        refine W_cond_p rfl (fun h43 => ?_) (fun h43 => ?_)
        · refine W_skip ?_
          refine W_seq ?_
          refine W_block ?_
          have hil : i < R.1.beg.length := by omega
          obtain ⟨x, hx⟩ : ∃ x, R.1.beg[i]? = some x := ⟨_, List.getElem?_eq_getElem hil⟩
          obtain ⟨y, hy⟩ : ∃ y, rest[i]? = some y := ⟨_, List.getElem?_eq_getElem (by omega)⟩
          obtain ⟨bq, oq, cq, eq_, _, _, hcx⟩ := (Sl.k hbb hk41).at (by omega)
          cases eq_
          have htk : R.1.beg.take (i + 1) = R.1.beg.take i ++ [x] := by rw [List.take_succ_eq_append_getElem hil, (List.getElem?_eq_some_iff.1 hx).2]
          have htl : (R.1.beg.take i).length = i := by rw [List.length_take]; omega
          have hinc := inc64' i (by omega)
          refine W_quiet (Keep All w41) (by kernel_rfl) (by kernel_rfl) (Keep.drawn _) ?_
          refine q_mvt rfl ?_
          refine q_mvt rfl ?_
          refine q_split rfl rfl rfl (fun g45 => ?_) (fun g45 => ?_)
          · refine q_run (fun _ _ => (r_fieldAddr rfl rfl rfl rfl rfl)) (g_yes rfl rfl rfl g45) ?_
            refine q_run (fun _ hk => r_load rfl rfl rfl (hk.cell (hB41.cell (by unfold rnV; rfl)) trivial)) (g_yes rfl rfl rfl g45) ?_
            refine q_mvt (g_yes rfl rfl rfl g45) ?_
            refine q_run (fun _ _ => r_idxS1 rfl rfl rfl rfl (by omega) (by omega)) (g_yes rfl rfl rfl g45) ?_
            refine q_run (fun _ hk => r_load (v := c8 x) rfl rfl rfl (hk.cell (by rw [Int.toNat_natCast]; exact hcx i _ (by rw [List.getElem?_map, hx]; rfl)) trivial)) (g_yes rfl rfl rfl g45) ?_
            refine q_run (fun _ hk => r_loadA (dgR key) rfl rfl rfl (by first | rfl | (rw [binV_len]; rfl) | (rw [dgR_len]; rfl) | (rw [refR_len]; rfl) | (rw [secR_len]; rfl) | (rw [List.length_map, tagF_len]; rfl) | (rw [rnV_len]; rfl)) ((hk.blk' hB2y trivial).all)) (g_yes rfl rfl rfl g45) ?_
            refine q_mvt (g_yes rfl rfl rfl g45) ?_
            refine q_mvt (g_yes rfl rfl rfl g45) ?_
            refine q_run (fun _ _ => ((r_add rfl rfl).val (congrArg (Value.int .i64) (show IntKind.i64.wrap ((fr : Int) + (i : Int)) = ((fr + i : Nat) : Int) from (wrap_i64 (by omega) (by omega)).trans (by omega))))) (g_yes rfl rfl rfl g45) ?_
            refine q_call rfl rfl (g_yes rfl rfl rfl g45) (fun _ hk => (rf08_Nibble _ key (fr + i) y (hrg _ _ hy)).mono fun e w'' ⟨u, he, h1, h2⟩ => ⟨u, he, h1, hk.trans h2⟩) ?_
            refine q_run (fun _ _ => (r_eql rfl rfl)) (g_yes rfl rfl rfl g45) ?_
            refine q_pkTt rfl g45 rfl ?_
            refine q_ast rfl ?_
            refine q_nil ?_; intro w51 hk51
            refine W_region ?_
            refine o_mvt rfl ?_
            refine op_run (r_add rfl rfl) rfl ?_
            refine o_ast rfl ?_
            refine ops_nil ?_
            refine ⟨by (repeat (first | with_reducible exact offM_refl _ _ | refine offM_updc rfl ?_ | refine offM_upd rfl ?_ | refine offM_updo rfl ?_ | refine offM_updo_none ?_ | refine offM_head rfl rfl ?_)), ⟨i + 1, ?_, by omega, hk41.trans hk51⟩, ?_⟩
            · have g : R.1.beg.take i <+: rest := by simpa using g45
              refine congr (congrArg (fun (b : Bool) (z : Int) => [Value.bool b, Value.int .i64 z]) ?_) hinc
              rw [decide_eq_decide, htk, pre_snoc, htl, hy]
              constructor
              · intro h; exact ⟨g, by rw [show y = x from UInt8.toNat_inj.1 (by omega)]⟩
              · intro h; injection h.2 with h; rw [h]
            · show R.1.beg.length - (IntKind.i64.wrap ((i : Int) + 1)).toNat < R.1.beg.length - (i : Int).toNat
              rw [hinc]; omega
          · refine q_skip (g_no rfl rfl rfl g45) ?_
            refine q_skip (g_no rfl rfl rfl g45) ?_
            refine q_skip (g_no rfl rfl rfl g45) ?_
            refine q_skip (g_no rfl rfl rfl g45) ?_
            refine q_skip (g_no rfl rfl rfl g45) ?_
            refine q_skip (g_no rfl rfl rfl g45) ?_
            refine q_skip (g_no rfl rfl rfl g45) ?_
            refine q_skip (g_no rfl rfl rfl g45) ?_
            refine q_skip (g_no rfl rfl rfl g45) ?_
            refine q_skip (g_no rfl rfl rfl g45) ?_
            refine q_skip (g_no rfl rfl rfl g45) ?_
            refine q_pkFc rfl g45 rfl ?_
            refine q_ast rfl ?_
            refine q_nil ?_; intro w53 hk53
            refine W_region ?_
            refine o_mvt rfl ?_
            refine op_run (r_add rfl rfl) rfl ?_
            refine o_ast rfl ?_
            refine ops_nil ?_
            refine ⟨by (repeat (first | with_reducible exact offM_refl _ _ | refine offM_updc rfl ?_ | refine offM_upd rfl ?_ | refine offM_updo rfl ?_ | refine offM_updo_none ?_ | refine offM_head rfl rfl ?_)), ⟨i + 1, ?_, by omega, hk41.trans hk53⟩, ?_⟩
            · have g : ¬ R.1.beg.take i <+: rest := by simpa using g45
              refine congr (congrArg (fun (b : Bool) (z : Int) => [Value.bool b, Value.int .i64 z]) ?_) hinc
              symm; apply decide_eq_false; rw [htk, pre_snoc]; exact fun h => g h.1
            · show R.1.beg.length - (IntKind.i64.wrap ((i : Int) + 1)).toNat < R.1.beg.length - (i : Int).toNat
              rw [hinc]; omega
        · refine W_exit ?_
          refine W_seq ?_
          have hie : i = R.1.beg.length := by omega
          rw [hie, List.take_length]
          have hk041 := hk038.trans hk41
          have hbsl : ((b :: bs).length : Int) > 1 ↔ bs ≠ [] := by
            rw [List.length_cons]
            constructor
            · intro h e; rw [e] at h; simp at h
            · intro h; have := List.length_pos_iff.2 h; omega
          refine W_cut [73] [68, 69, 70, 71, 72, 73] (fun vs w55 => vs = [.bool (decide (R.1.leaf = true ∨ ¬ R.1.beg <+: rest))] ∧ w55 = w41) ?_ ?_
          · refine W_region ?_
            refine op_run (r_fieldAddr rfl rfl rfl rfl rfl) rfl ?_
            refine op_run (r_load rfl rfl rfl (hB41.cell (by unfold rnV; rfl))) rfl ?_
            refine o_mvt rfl ?_
            refine g_split rfl rfl rfl (fun g57 => ?_) (fun g57 => ?_)
            · refine o_mvt (g_yes rfl rfl rfl g57) ?_
              refine op_run (r_not rfl) (g_yes rfl rfl rfl g57) ?_
              refine o_pkFt rfl g57 rfl ?_
              refine ops_nil ?_
              exact ⟨by (repeat (first | with_reducible exact offM_refl _ _ | refine offM_updc rfl ?_ | refine offM_upd rfl ?_ | refine offM_updo rfl ?_ | refine offM_updo_none ?_ | refine offM_head rfl rfl ?_)), congrArg (fun b => [Value.bool b]) (by
                have g : R.1.leaf = false := (by rw [← hlf]; simpa using g57)
                by_cases hp : R.1.beg <+: rest <;> simp [g, hp]), rfl⟩
            · refine op_skip (g_no rfl rfl rfl g57) ?_
              refine op_skip (g_no rfl rfl rfl g57) ?_
              refine o_pkTc rfl g57 rfl ?_
              refine ops_nil ?_
              exact ⟨by (repeat (first | with_reducible exact offM_refl _ _ | refine offM_updc rfl ?_ | refine offM_upd rfl ?_ | refine offM_updo rfl ?_ | refine offM_updo_none ?_ | refine offM_head rfl rfl ?_)), congrArg (fun b => [Value.bool b]) (by
                have g : R.1.leaf = true := (by rw [← hlf]; simpa using g57)
                simp [g]), rfl⟩
          · rintro J60 vs w60 ⟨rfl, rfl⟩ -
            refine W_cond_p rfl (fun h61 => ?_) (fun h61 => ?_)
            · refine W_seq ?_
              refine W_seq ?_
              refine W_region ?_
              refine o_mvt rfl ?_
              refine op_run (r_len rfl rfl rfl) rfl ?_
              refine op_run (r_gtr rfl rfl) rfl ?_
              refine ops_nil ?_
              refine W_cond_p rfl (fun h62 => ?_) (fun h62 => ?_)
              · refine W_seq ?_
                refine W_region ?_
                refine o_asc rfl ?_
                refine o_asc rfl ?_
                refine o_asc rfl ?_
                refine ops_nil ?_
                refine W_ret ?_
                refine ret3 (.slice none 0 0) (.bool false) (.int .i64 3) rfl ?_ ?_ ?_ ?_; rfl; rfl; rfl
                refine bad _ (hCr.trans ?_) hk041
                have hne := hbsl.1 h62
                by_cases hleaf : (ndR ndM b).1.leaf = true
                · rw [chkR_leaf hokR hleaf, if_pos hne]
                · have hp : ¬ R.1.beg <+: rest := h61.resolve_left (by rw [hR]; exact hleaf)
                  rw [chkR_none hokR (by simpa using hleaf) (by rw [← hR]; unfold nextD; rw [if_neg hp]), if_neg hne]
              · refine W_skip ?_
                refine W_seq ?_
                have hnil : bs = [] := Classical.byContradiction fun h => h62 (hbsl.2 h)
                refine W_cut [81] [77, 78, 79, 80, 81] (fun vs w64 => vs = [.bool (decide (R.1.leaf = true ∧ R.1.beg <+: rest))] ∧ w64 = w60) ?_ ?_
                · refine W_region ?_
                  refine op_run (r_fieldAddr rfl rfl rfl rfl rfl) rfl ?_
                  refine op_run (r_load rfl rfl rfl (hB41.cell (by unfold rnV; rfl))) rfl ?_
                  refine o_mvt rfl ?_
                  refine g_split rfl rfl rfl (fun g66 => ?_) (fun g66 => ?_)
                  · refine o_mvt (g_yes rfl rfl rfl g66) ?_
                    refine o_pkTt rfl g66 rfl ?_
                    refine ops_nil ?_
                    exact ⟨by (repeat (first | with_reducible exact offM_refl _ _ | refine offM_updc rfl ?_ | refine offM_upd rfl ?_ | refine offM_updo rfl ?_ | refine offM_updo_none ?_ | refine offM_head rfl rfl ?_)), congrArg (fun b => [Value.bool b]) (by
                      have g : R.1.leaf = true := (by rw [← hlf]; simpa using g66)
                      simp [g]), rfl⟩
                  · refine op_skip (g_no rfl rfl rfl g66) ?_
                    refine o_pkFc rfl g66 rfl ?_
                    refine ops_nil ?_
                    exact ⟨by (repeat (first | with_reducible exact offM_refl _ _ | refine offM_updc rfl ?_ | refine offM_upd rfl ?_ | refine offM_updo rfl ?_ | refine offM_updo_none ?_ | refine offM_head rfl rfl ?_)), congrArg (fun b => [Value.bool b]) (by
                      have g : R.1.leaf = false := (by rw [← hlf]; simpa using g66)
                      simp [g]), rfl⟩
                · rintro J69 vs w69 ⟨rfl, rfl⟩ -
                  refine W_cond_p rfl (fun h70b => ?_) (fun h70b => ?_)
                  · refine W_seq ?_
                    refine W_region ?_
                    refine op_run (r_fieldAddr rfl rfl rfl rfl rfl) rfl ?_
                    refine op_run (r_load rfl rfl rfl (hB41.cell (by unfold rnV; rfl))) rfl ?_
                    refine o_ast rfl ?_
                    refine o_asc rfl ?_
                    refine o_asc rfl ?_
                    refine ops_nil ?_
                    refine W_ret ?_
                    refine ret3 vv (.bool true) (.int .i64 0) rfl ?_ ?_ ?_ ?_; rfl; rfl; rfl
                    have hCt : C = some (true, R.1.val) := by
                      rw [hCr, chkR_leaf hokR (by rw [← hR]; exact h70b.1), if_neg (fun h => h hnil), ← hR, if_pos h70b.2]
                    rw [hCt]
                    exact ⟨vv, rfl, hvv1, Sl.k hbv hk41, hk041⟩
                  · refine W_skip ?_
                    refine W_seq ?_
                    refine W_region ?_
                    refine o_asc rfl ?_
                    refine o_asc rfl ?_
                    refine o_asc rfl ?_
                    refine ops_nil ?_
                    refine W_ret ?_
                    refine ret3 (.slice none 0 0) (.bool false) (.int .i64 0) rfl ?_ ?_ ?_ ?_; rfl; rfl; rfl
                    refine no _ (hCr.trans ?_) hk041
                    by_cases hleaf : (ndR ndM b).1.leaf = true
                    · rw [chkR_leaf hokR hleaf, if_neg (fun h => h hnil), ← hR, if_neg (fun h => h70b ⟨by rw [hR]; exact hleaf, h⟩)]
                    · have hp : ¬ R.1.beg <+: rest := h61.resolve_left (by rw [hR]; exact hleaf)
                      rw [chkR_none hokR (by simpa using hleaf) (by rw [← hR]; unfold nextD; rw [if_neg hp]), if_pos hnil]
            · refine W_skip ?_
              refine W_seq ?_
              refine W_region ?_
              refine o_mvt rfl ?_
              refine op_run (r_fieldAddr rfl rfl rfl rfl rfl) rfl ?_
              have hleaf : (ndR ndM b).1.leaf = false := by rw [← hR]; cases h : R.1.leaf with | true => exact absurd (.inl h) h61 | false => rfl
              have hp : R.1.beg <+: rest := Classical.byContradiction fun h => h61 (.inr h)
              have hlt : R.1.beg.length < rest.length := by
                have h := hokR.1.1.1
                unfold okL at h
                rw [hleaf, if_neg (by simp), ← hR] at h
                exact h.1
              obtain ⟨x, hx⟩ : ∃ x, rest[R.1.beg.length]? = some x := ⟨_, List.getElem?_eq_getElem hlt⟩
              have hnx : nextD rest R.1 = R.1.kids x.toNat := by unfold nextD; rw [if_pos hp, hx]
              have hx16 : x.toNat < 16 := nibs_16 _ _ (List.mem_of_getElem? (hrg _ _ hx))
              refine op_run (r_load rfl rfl rfl (hB41.cell (by unfold rnV; rfl))) rfl ?_
              refine op_run (r_len rfl rfl rfl) rfl ?_
              refine op_run ((r_add rfl rfl).val (congrArg (Value.int .i64) (show IntKind.i64.wrap ((fr : Int) + (R.1.beg.length : Int)) = ((fr + R.1.beg.length : Nat) : Int) from (wrap_i64 (by omega) (by omega)).trans (by omega)))) rfl ?_
              refine o_ast rfl ?_
              refine ops_nil ?_
              refine W_seq ?_
              refine W_region ?_
              refine op_run (r_loadA (dgR key) rfl rfl rfl (by first | rfl | (rw [binV_len]; rfl) | (rw [dgR_len]; rfl) | (rw [refR_len]; rfl) | (rw [secR_len]; rfl) | (rw [List.length_map, tagF_len]; rfl) | (rw [rnV_len]; rfl)) (hB2y.all)) rfl ?_
              refine o_mvt rfl ?_
              refine op_call rfl rfl rfl (rf08_Nibble _ key (fr + R.1.beg.length) x (hrg _ _ hx)) ?_; rintro v76 w76 ⟨rfl, hk76⟩
              have hB76 := hk76.blk' hB41 trivial
              have hk076 := hk041.trans hk76
              refine o_ast rfl ?_
              refine ops_nil ?_
              refine W_seq ?_
              refine W_seq ?_
              refine W_region ?_
              refine o_mvt rfl ?_
              refine op_run (r_fieldAddr rfl rfl rfl rfl rfl) rfl ?_
              refine op_run (r_idxA1 rfl rfl rfl rfl (by omega) (by omega)) rfl ?_
              refine op_run (r_load rfl rfl rfl (hB76.cell (show (rnV lf (.slice ab R.1.beg.length cb) vv R.1.kids R.1.kids)[3 + ((x.toNat : Nat) : Int).toNat]? = some _ by rw [Int.toNat_natCast]; exact rnV_has _ _ _ _ _ hx16))) rfl ?_
              refine op_run (r_not rfl) rfl ?_
              refine ops_nil ?_
              refine W_cond rfl (fun h79 => ?_) (fun h79 => ?_)
              · refine W_seq ?_
                refine W_seq ?_
                refine W_region ?_
                refine o_mvt rfl ?_
                refine op_run (r_len rfl rfl rfl) rfl ?_
                refine op_run (r_gtr rfl rfl) rfl ?_
                refine ops_nil ?_
                have hnn : nextD rest R.1 = none := by rw [hnx]; cases h : R.1.kids x.toNat with | none => rfl | some d => rw [h] at h79; simp at h79
                have hCn := hCr.trans (chkR_none hokR hleaf (by rw [← hR]; exact hnn))
                refine W_cond_p rfl (fun h80 => ?_) (fun h80 => ?_)
                · refine W_seq ?_
                  refine W_region ?_
                  refine o_asc rfl ?_
                  refine o_asc rfl ?_
                  refine o_asc rfl ?_
                  refine ops_nil ?_
                  refine W_ret ?_
                  refine ret3 (.slice none 0 0) (.bool false) (.int .i64 3) rfl ?_ ?_ ?_ ?_; rfl; rfl; rfl
                  exact bad _ (hCn.trans (if_neg (hbsl.1 h80))) hk076
                · refine W_skip ?_
                  refine W_seq ?_
                  refine W_region ?_
                  refine o_asc rfl ?_
                  refine o_asc rfl ?_
                  refine o_asc rfl ?_
                  refine ops_nil ?_
                  refine W_ret ?_
                  refine ret3 (.slice none 0 0) (.bool false) (.int .i64 0) rfl ?_ ?_ ?_ ?_; rfl; rfl; rfl
                  exact no _ (hCn.trans (if_pos (Classical.byContradiction fun h => h80 (hbsl.2 h)))) hk076
              · refine W_skip ?_
                refine W_seq ?_
                obtain ⟨d, hd⟩ : ∃ d, R.1.kids x.toNat = some d := by
                  cases h : R.1.kids x.toNat with
                  | none => rw [h] at h79; simp at h79
                  | some d => exact ⟨d, rfl⟩
                have hCs := hCr.trans (chkR_some hokR hleaf (by rw [← hR, hnx]; exact hd))
                rw [← hR, hrest, List.drop_drop, show fr + (R.1.beg.length + 1) = fr + R.1.beg.length + 1 by omega, ← chkF_s] at hCs
                refine W_held (fun w' => Keep All w76 w') (by kernel_rfl) (Keep.drawn w76) (fun hS => ?_)
                refine any_mvt 0 rfl (by kernel_rfl) (by kernel_rfl) (by kernel_rfl) rfl hS ?_
                refine any_run 1 (fun w' hS' => (r_fieldAddr rfl rfl rfl rfl rfl)) rfl (by kernel_rfl) (by kernel_rfl) (by kernel_rfl) rfl hS ?_
                refine any_run 2 (fun w' hS' => (r_idxA rfl rfl rfl rfl (by omega) (by omega))) rfl (by kernel_rfl) (by kernel_rfl) (by kernel_rfl) rfl hS ?_
                refine any_run 3 (fun w' hS' => (r_loadA (dgR d) rfl rfl rfl (by first | rfl | (rw [binV_len]; rfl) | (rw [dgR_len]; rfl) | (rw [refR_len]; rfl) | (rw [secR_len]; rfl) | (rw [List.length_map, tagF_len]; rfl) | (rw [rnV_len]; rfl)) ((fun j u hj => by rw [Addr.add_lit, Int.toNat_natCast]; exact (hS'.blk' hB76 trivial).cell (rnV_kid _ _ _ _ _ hx16 (by rw [hd]; exact hj)))))) rfl (by kernel_rfl) (by kernel_rfl) (by kernel_rfl) rfl hS ?_
                refine any_run 4 (fun w' hS' => (r_loadA (dgR key) rfl rfl rfl (by first | rfl | (rw [binV_len]; rfl) | (rw [dgR_len]; rfl) | (rw [refR_len]; rfl) | (rw [secR_len]; rfl) | (rw [List.length_map, tagF_len]; rfl) | (rw [rnV_len]; rfl)) ((hS'.blk' (hk76.blk' hB2y trivial) trivial).all))) rfl (by kernel_rfl) (by kernel_rfl) (by kernel_rfl) rfl hS ?_
                refine any_mvt 5 rfl (by kernel_rfl) (by kernel_rfl) (by kernel_rfl) rfl hS ?_
                refine any_run 6 (fun w' hS' => (r_sliceS_lo rfl rfl rfl rfl (by omega) (by (rw [List.length_cons]; omega)))) rfl (by kernel_rfl) (by kernel_rfl) (by kernel_rfl) rfl hS ?_
                refine any_mvt 7 rfl (by kernel_rfl) (by kernel_rfl) (by kernel_rfl) rfl hS ?_
                refine any_run 8 (fun w' hS' => ((r_add rfl rfl).val (congrArg (Value.int .i64) (show IntKind.i64.wrap (((fr + R.1.beg.length : Nat) : Int) + 1) = ((fr + R.1.beg.length + 1 : Nat) : Int) from inc64' _ (by omega))))) rfl (by kernel_rfl) (by kernel_rfl) (by kernel_rfl) rfl hS ?_
                refine any_one 9 (by kernel_rfl) (one_of rfl ?_)
                refine op_call rfl rfl rfl (ih bs.length (by rw [← hm, List.length_cons]; omega) bs rfl _ d key _ _ (fr + R.1.beg.length + 1) (by omega) (RowsV.tailP (List.length_cons ..) (hv.k (hk076.trans hS)) hc0) (by omega) (fun y hy => hl y (List.mem_cons_of_mem _ hy))) ?_; rintro v88 w88 ⟨vr, rfl, hvr1, hbr, hk88⟩
                refine ops_nil ⟨hS.trans hk88, fun hS => ?_⟩
                refine any_run 10 (fun w' hS' => (r_extract rfl rfl)) rfl (by kernel_rfl) (by kernel_rfl) (by kernel_rfl) rfl hS ?_
                refine any_run 11 (fun w' hS' => (r_extract rfl rfl)) rfl (by kernel_rfl) (by kernel_rfl) (by kernel_rfl) rfl hS ?_
                refine any_run 12 (fun w' hS' => (r_extract rfl rfl)) rfl (by kernel_rfl) (by kernel_rfl) (by kernel_rfl) rfl hS ?_
                refine any_ast 13 rfl (by kernel_rfl) (by kernel_rfl) (by kernel_rfl) rfl hS ?_
                refine any_ast 14 rfl (by kernel_rfl) (by kernel_rfl) (by kernel_rfl) rfl hS ?_
                refine any_ast 15 rfl (by kernel_rfl) (by kernel_rfl) (by kernel_rfl) rfl hS ?_
                refine any_done (by kernel_rfl) ?_
                refine W_ret ?_
                refine ret3 vr (.bool ((chkF d key.val bs (fr + R.1.beg.length + 1)).getD (false, [])).1) (.int .i64 (if (chkF d key.val bs (fr + R.1.beg.length + 1)).isSome then 0 else 3)) rfl ?_ ?_ ?_ ?_; rfl; rfl; rfl
                rw [hCs]
                exact ⟨vr, rfl, hvr1, hbr, hk076.trans hS⟩
end Go.Proofs.YtigehkfdfecfoaaDoor.B
