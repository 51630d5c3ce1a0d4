/-
  sporranref11.Decode.
-/
import Derived.Test.YtkmciohghhffnaaIdx7
namespace Go.Proofs.Ytkmciohghhffnaa.B
open Go
set_option linter.unusedVariables false
set_option maxHeartbeats 2000000
set_option maxRecDepth 100000
attribute [local irreducible] W OpsW OpsQ retP
theorem itR_setU (d : Dig) (u : UV) (k : Nat) (v : Value) : (itR (d, u)).set (32 + k) v = dgR d ++ (useR u).set k v := by
  unfold itR
  rw [List.set_append_right _ _ (by rw [dgR_len]; omega), dgR_len, show 32 + k - 32 = k by omega]
theorem fill_itm0 {pl : List (Nat × Nat)} {zl : List Value} {d : Dig} (hp : pl[0]? = some (0, 32)) (hz : zl = List.replicate 32 (c8 0) ++ useR ⟨0, 0, 0⟩) :
    fillV (fun i => pl[i]?) zl [(0, .agg (dgR d).toArray)] = some (itR (d, ⟨0, 0, 0⟩)) := by
  have s0 : (Value.agg (dgR d).toArray).cells.size = 32 := by show (dgR d).toArray.size = 32; simp [dgR_len d]
  have ha : (Value.agg (dgR d).toArray).cells.toList = dgR d := rfl
  simp only [fillV, hp]
  rw [if_pos ⟨s0, by rw [hz]; decide⟩, ha, hz]
  unfold splice
  rw [List.take_zero, List.nil_append, Nat.zero_add, dgR_len, List.drop_left' (by simp)]
  rfl
/-- What the document's Decode tells. -/
def RdX (w : World) (xs : List UInt8) (r : Value) (w' : World) : Prop :=
  ((idxR xs = none ∧ r = .tuple #[.slice none 0 0, .int .i64 3]) ∨ ∃ l v, idxR xs = some l ∧ r = .tuple #[v, .int .i64 0] ∧ Own w' 89 35 v l.length (rows itR l)) ∧ Keep All w w'
theorem idx_raw {xs : List UInt8} {m : Nat} {bs2 rest : List UInt8} {bad2 bd : Bool} {acc : List Itm} (hN : numR xs.length xs false = (m, bs2, bad2)) (h : rawR m bs2 bad2 = (acc, rest, bd)) : idxR xs = if bd = false ∧ rest = [] ∧ okL none acc then some acc else none := by
  cases hb : bad2 with
  | true =>
    rw [hb] at hN h
    rw [rawR_bad] at h
    have h3 : bd = true := (congrArg (fun p => p.2.2) h).symm
    rw [if_neg (fun hh => by rw [h3] at hh; cases hh.1)]
    exact idx_none hN (.inl rfl)
  | false =>
    rw [hb] at hN h
    have hr := raw_itms m none bs2
    rw [h] at hr
    by_cases hc : bd = false ∧ okL none acc
    · rw [if_pos hc] at hr
      rw [idx_some hN hr]
      by_cases hrest : rest = []
      · rw [if_pos hrest, if_pos ⟨hc.1, hrest, hc.2⟩]
      · rw [if_neg hrest, if_neg (fun hh => hrest hh.2.1)]
    · rw [if_neg hc] at hr
      rw [if_neg (fun hh => hc ⟨hh.1, hh.2.2⟩)]
      exact idx_none hN (.inr hr)
theorem rf11_Decode (w : World) (v : Value) (xs : List UInt8) (hx : By w v xs) (hl : xs.length ≤ 1000000) : Ret Try.prog 10 [v].toArray w (RdX w xs) := by
  obtain ⟨a0, c0, rfl, hc0, hcm0⟩ := hx.form
  obtain ⟨N2, hN2⟩ : ∃ N, numR xs.length xs false = N := ⟨_, rfl⟩
  obtain ⟨m, bs2, bad2⟩ := N2
  have hm : m ≤ xs.length := by have := numR_le xs.length xs false; rw [hN2] at this; exact this
  refine enter (fn := Try.f10) (n := 61) Try.func10 rfl rfl (by simp) ?_
  refine W_seq ?_
  refine W_region ?_
  refine o_asc rfl ?_
  refine o_asc rfl ?_
  refine ops_nil ?_
  refine W_seq ?_
  refine W_region ?_
  refine o_mvt rfl ?_
  refine op_run (r_build ([.slice a0 xs.length c0, .int .i64 0, .bool false]) (_) ([(0, .slice a0 xs.length c0)]) rfl rfl rfl rfl rfl (rfl)) rfl ?_
  refine o_box (cs := [.slice a0 xs.length c0, .int .i64 0, .bool false]) rfl rfl rfl ?_; intro w2 b2 e2 hB2 hk2 hs2
  obtain ⟨A, hA⟩ : ∃ A : Nat → Prop, A = fun k => k < w.heap.size := ⟨_, rfl⟩
  have hR2 : RIn w2 b2 A xs false := RIn.new hB2 (hx.keep hk2 (fun _ _ => trivial)) (by rw [hA]; exact hx.ltE) (by omega)
  have hAlt : ∀ k, A k → k < w.heap.size := by rw [hA]; exact fun k h => h
  have hAb : ¬ A b2 := fun h => by have := hAlt _ h; omega
  have hl2 := hR2.lt
  refine o_ast rfl ?_
  refine ops_nil ?_
  refine W_seq ?_
  refine W_region ?_
  refine o_mvt rfl ?_
  refine o_mvt rfl ?_
  refine op_run (r_len rfl rfl rfl) rfl ?_
  refine op_run ((r_conv rfl rfl rfl).val (conv_len xs.length (by omega))) rfl ?_
  refine op_call rfl rfl rfl (rn_Number w2 b2 A xs false xs.length hAb hR2) ?_; rintro v3 w3 ⟨rfl, hR3, hk3⟩
  rw [hN2] at hR3 ⊢
  have hR3 : RIn w3 b2 A bs2 bad2 := hR3
  have hk03 : Keep All w w3 := hk2.new hk3 (by omega)
  have hz3 := hk3.size
  refine o_ast rfl ?_
  refine ops_nil ?_
  refine W_seq ?_
  refine W_region ?_
  refine o_bs0 rfl rfl rfl ?_; intro w4 b4 e4 hB4 hk4 hs4
  have hI4 : Own w4 89 35 (.slice (some ⟨b4, 0, none⟩) 0 0) 0 (rows itR []) := Own.blk hB4 rfl (Nat.zero_le _)
  refine o_ast rfl ?_
  refine ops_nil ?_
  refine W_seq ?_
  refine W_seq ?_
  refine W_region ?_
  refine o_asc rfl ?_
  refine ops_nil ?_
  refine W_block ?_
  refine W_loop [6, 7] [6, 7, 8, 18, 19, 20, 21, 22, 23, 24, 25, 26, 27, 28, 29, 30, 31, 32, 33, 34, 35, 36, 37, 38, 39, 40, 41, 42, 43, 44, 45, 46, 47, 48, 49, 50, 51] (fun vs w' => ∃ (u : Value) (i : Nat) (acc : List Itm) (rest : List UInt8) (bd : Bool), vs = [u, .int .u64 i] ∧ i ≤ m ∧ acc.length = i ∧ Own w' 89 35 u acc.length (rows itR acc) ∧ RIn w' b2 A rest bd ∧ Keep All w w' ∧ w3.heap.size ≤ w'.heap.size ∧ InB (fun z => w3.heap.size ≤ z) u ∧ (∀ x ∈ acc, inI x) ∧ rawR m bs2 bad2 = (acc ++ (rawR (m - i) rest bd).1, (rawR (m - i) rest bd).2)) (fun vs _ => match vs with | [_, .int _ y] => m - y.toNat | _ => 0) ⟨_, 0, [], bs2, bad2, rfl, Nat.zero_le _, rfl, hI4, hR3.k hk4, hk03.trans hk4, by have := hk4.size; omega, (fun z hz => by have hz : some b4 = some z := hz; injection hz with hz; omega), (fun x hx => by cases hx), rfl⟩ ?_
  rintro J5 vs w5 ⟨u, i, acc, rest, bd, rfl, hi, hal, hI5, hR5, hk5, hz5, hIu, hin, hraw⟩ -
  refine W_seq ?_
  refine W_cut [27] [18, 19, 20, 21, 22, 23, 24, 25, 26, 27] (fun vs w6 => vs = [.bool (decide (i < m ∧ bd = false))] ∧ w6 = w5) ?_ ?_
  · refine W_region ?_
    refine o_mvt rfl ?_
    refine o_mvt rfl ?_
    refine op_run (r_lss rfl rfl) rfl ?_
    refine o_mvt rfl ?_
    refine g_split rfl rfl rfl (fun g7 => ?_) (fun g7 => ?_)
    · refine o_mvt (g_yes rfl rfl rfl g7) ?_
      refine op_run (r_nilCheck rfl) (g_yes rfl rfl rfl g7) ?_
      refine op_run (r_fieldAddr rfl rfl rfl rfl rfl) (g_yes rfl rfl rfl g7) ?_
      refine op_run (r_load rfl rfl rfl (by obtain ⟨_, _, _, hB, _⟩ := hR5; exact hB.cell rfl)) (g_yes rfl rfl rfl g7) ?_
      refine op_run (r_not rfl) (g_yes rfl rfl rfl g7) ?_
      refine o_pkTt rfl g7 rfl ?_
      refine ops_nil ?_
      exact ⟨by (repeat (first | with_reducible exact offM_refl _ _ | refine offM_updc rfl ?_ | refine offM_upd rfl ?_ | refine offM_updo rfl ?_ | refine offM_updo_none ?_ | refine offM_head rfl rfl ?_)), congrArg (fun b => [Value.bool b]) (by have g := of_decide_eq_true g7; rw [show decide (i < m ∧ bd = false) = decide (bd = false) by rw [decide_eq_decide]; exact ⟨fun h => h.2, fun h => ⟨by omega, h⟩⟩]; cases bd <;> rfl), rfl⟩
    · refine op_skip (g_no rfl rfl rfl g7) ?_
      refine op_skip (g_no rfl rfl rfl g7) ?_
      refine op_skip (g_no rfl rfl rfl g7) ?_
      refine op_skip (g_no rfl rfl rfl g7) ?_
      refine op_skip (g_no rfl rfl rfl g7) ?_
      refine o_pkFc rfl g7 rfl ?_
      refine ops_nil ?_
      exact ⟨by (repeat (first | with_reducible exact offM_refl _ _ | refine offM_updc rfl ?_ | refine offM_upd rfl ?_ | refine offM_updo rfl ?_ | refine offM_updo_none ?_ | refine offM_head rfl rfl ?_)), congrArg (fun b => [Value.bool b]) (by have g := of_decide_eq_false g7; symm; apply decide_eq_false; rintro ⟨h, _⟩; omega), rfl⟩
  · rintro J11 vs w11 ⟨rfl, rfl⟩ -
    refine W_cond rfl (fun h12 => ?_) (fun h12 => ?_)
    · refine W_skip ?_
      refine W_seq ?_
      refine W_block ?_
      refine W_seq ?_
      refine W_region ?_
      refine o_mvt rfl ?_
      obtain ⟨him, hbd⟩ := of_decide_eq_true h12
      subst hbd
      obtain ⟨k, hk⟩ : ∃ k, m - i = k + 1 := ⟨m - i - 1, by omega⟩
      have hinc : IntKind.u64.wrap ((i : Int) + 1) = ((i + 1 : Nat) : Int) := by rw [wrap_u64]; omega
      have hlu := hI5.lt
      refine op_call rfl rfl rfl (rn_Digest w11 b2 A rest false hAb (fun k hk => by have := hAlt _ hk; have := hk5.size; omega) hR5) ?_; rintro v13 w13 ⟨rfl, hR13, hk13⟩
      obtain ⟨D, hD⟩ : ∃ D, digR rest false = D := ⟨_, rfl⟩
      rw [hD] at hR13 ⊢
      have hz13 := hk13.size
      refine op_run (r_build (itR (D.1, ⟨0, 0, 0⟩)) (_) ([(0, .agg (dgR D.1).toArray)]) rfl rfl rfl rfl rfl (fill_itm0 (by kernel_rfl) (by rfl))) rfl ?_
      refine o_alloc rfl rfl rfl ?_; intro w15 b15 e15 hB15 hk15 hs15
      have hB15' : Blk w15 b15 (List.replicate 32 (c8 0) ++ useR ⟨0, 0, 0⟩) 89 := hB15
      refine o_storeA (cs := itR (D.1, ⟨0, 0, 0⟩)) rfl rfl (by first | rfl | exact binV_one _ | exact dgR_one _ | exact refR_one _ | exact secR_one _ | exact all_c8 _ | exact itR_one _) (by first | rfl | (rw [binV_len]; rfl) | (rw [dgR_len]; rfl) | (rw [refR_len]; rfl) | (rw [secR_len]; rfl) | (rw [List.length_map, tagF_len]; rfl) | (rw [itR_len]; rfl)) hB15' (by exact Nat.le_of_eq (by simp [itR_len]; rfl)) rfl ?_; intro w16 hB16 hk16 hs16
      have hB16' : Blk w16 b15 (itR (D.1, ⟨0, 0, 0⟩)) 89 := by
        have h := hB16
        rwa [splice_all (by rw [itR_len]; rfl)] at h
      have hk16' : Keep All w13 w16 := hk15.new hk16 (by omega)
      have hz16 := hk16'.size
      have hl15 := hB16'.lt
      have hA15 : ∀ k, A k → k ≠ b15 := fun k hk => by have := hAlt _ hk; have := hk5.size; omega
      refine ops_nil ?_
      refine W_seq ?_
      refine W_region ?_
      refine o_mvt rfl ?_
      refine op_call rfl rfl rfl (rn_Number w16 b2 A D.2.1 D.2.2 2147483648 hAb (hR13.k hk16')) ?_; rintro v17 w17 ⟨rfl, hR17, hk17⟩
      obtain ⟨a, ha⟩ : ∃ a, numR 2147483648 D.2.1 D.2.2 = a := ⟨_, rfl⟩
      rw [ha] at hR17 ⊢
      have ham : a.1 ≤ 2147483648 := by rw [← ha]; exact numR_le _ _ _
      have hB17 := hk17.blk' hB16' (show b15 ≠ b2 by omega)
      refine op_run ((r_conv rfl rfl rfl).val (congrArg (Value.int .i64) (conv_i64 a.1 (by omega)))) rfl ?_
      refine op_run ((r_sub rfl rfl).val (congrArg (Value.int .i64) (show IntKind.i64.wrap (((a.1 : Nat) : Int) - 1) = ((a.1 : Nat) : Int) - 1 from wrap_i64 (by omega) (by omega)))) rfl ?_
      refine op_run (r_fieldAddr rfl rfl rfl rfl rfl) rfl ?_
      refine op_run (r_fieldAddr rfl rfl rfl rfl rfl) rfl ?_
      refine o_store (v := (.int .i64 (((a.1 : Nat) : Int) - 1))) rfl rfl rfl rfl hB17 (by rw [itR_len]; decide) rfl ?_; intro w18 hB18 hk18 hs18
      have hB18' : Blk w18 b15 (itR (D.1, ⟨((a.1 : Nat) : Int) - 1, 0, 0⟩)) 89 := by
        have h : Blk w18 b15 ((itR (D.1, ⟨0, 0, 0⟩)).set (32 + 0) (.int .i64 (((a.1 : Nat) : Int) - 1))) 89 := hB18
        rw [itR_setU] at h; exact h
      have hR18 := hR17.keep hk18 (show b2 ≠ b15 by omega) hA15
      refine ops_nil ?_
      refine W_seq ?_
      refine W_region ?_
      refine o_mvt rfl ?_
      refine op_call rfl rfl rfl (rn_Number w18 b2 A a.2.1 a.2.2 65535 hAb hR18) ?_; rintro v19 w19 ⟨rfl, hR19, hk19⟩
      obtain ⟨s, hs⟩ : ∃ s, numR 65535 a.2.1 a.2.2 = s := ⟨_, rfl⟩
      rw [hs] at hR19 ⊢
      have hsm : s.1 ≤ 65535 := by rw [← hs]; exact numR_le _ _ _
      have hB19 := hk19.blk' hB18' (show b15 ≠ b2 by omega)
      refine op_run ((r_conv rfl rfl rfl).val (congrArg (Value.int .i64) (conv_i64 s.1 (by omega)))) rfl ?_
      refine op_run (r_fieldAddr rfl rfl rfl rfl rfl) rfl ?_
      refine op_run (r_fieldAddr rfl rfl rfl rfl rfl) rfl ?_
      refine o_store (v := (.int .i64 ((s.1 : Nat) : Int))) rfl rfl rfl rfl hB19 (by rw [itR_len]; decide) rfl ?_; intro w20 hB20 hk20 hs20
      have hB20' : Blk w20 b15 (itR (D.1, ⟨((a.1 : Nat) : Int) - 1, ((s.1 : Nat) : Int), 0⟩)) 89 := by
        have h : Blk w20 b15 ((itR (D.1, ⟨((a.1 : Nat) : Int) - 1, 0, 0⟩)).set (32 + 1) (.int .i64 ((s.1 : Nat) : Int))) 89 := hB20
        rw [itR_setU] at h; exact h
      have hR20 := hR19.keep hk20 (show b2 ≠ b15 by omega) hA15
      refine ops_nil ?_
      refine W_seq ?_
      refine W_region ?_
      refine o_mvt rfl ?_
      refine op_call rfl rfl rfl (rn_Number w20 b2 A s.2.1 s.2.2 2147483647 hAb hR20) ?_; rintro v21 w21 ⟨rfl, hR21, hk21⟩
      obtain ⟨n, hn⟩ : ∃ n, numR 2147483647 s.2.1 s.2.2 = n := ⟨_, rfl⟩
      rw [hn] at hR21 ⊢
      have hnm : n.1 ≤ 2147483647 := by rw [← hn]; exact numR_le _ _ _
      have hB21 := hk21.blk' hB20' (show b15 ≠ b2 by omega)
      refine op_run ((r_conv rfl rfl rfl).val (congrArg (Value.int .i64) (conv_i64 n.1 (by omega)))) rfl ?_
      refine op_run (r_fieldAddr rfl rfl rfl rfl rfl) rfl ?_
      refine o_store (v := (.int .i64 ((n.1 : Nat) : Int))) rfl rfl rfl rfl hB21 (by rw [itR_len]; decide) rfl ?_; intro w22 hB22 hk22 hs22
      obtain ⟨X, hXe⟩ : ∃ X : Itm, ((D.1, ⟨((a.1 : Nat) : Int) - 1, ((s.1 : Nat) : Int), ((n.1 : Nat) : Int)⟩) : Itm) = X := ⟨_, rfl⟩
      have hB22' : Blk w22 b15 (itR X) 89 := by
        have h : Blk w22 b15 ((itR (D.1, ⟨((a.1 : Nat) : Int) - 1, ((s.1 : Nat) : Int), 0⟩)).set (32 + 2) (.int .i64 ((n.1 : Nat) : Int))) 89 := hB22
        rw [itR_setU] at h
        rw [← hXe]; exact h
      have hR22 := hR21.keep hk22 (show b2 ≠ b15 by omega) hA15
      have hX : itmR rest false = (X, n.2) := by
        unfold itmR
        simp only
        rw [hD, ha, hs, hn, hXe]
      have hXin : inI X := by have := itmR_in rest false; rw [hX] at this; exact this
      have hkb1 : Keep (fun z => z ≠ b2 ∧ z < w11.heap.size) w11 w22 := by
        have e13 := hk13.mono (A' := fun z => z ≠ b2 ∧ z < w11.heap.size) fun z _ hz => hz.1
        have e16 := hk16'.mono (A' := fun z => z ≠ b2 ∧ z < w11.heap.size) fun z _ hz => trivial
        have e17 := hk17.mono (A' := fun z => z ≠ b2 ∧ z < w11.heap.size) fun z _ hz => hz.1
        have e18 := hk18.mono (A' := fun z => z ≠ b2 ∧ z < w11.heap.size) fun z _ hz => by omega
        have e19 := hk19.mono (A' := fun z => z ≠ b2 ∧ z < w11.heap.size) fun z _ hz => hz.1
        have e20 := hk20.mono (A' := fun z => z ≠ b2 ∧ z < w11.heap.size) fun z _ hz => by omega
        have e21 := hk21.mono (A' := fun z => z ≠ b2 ∧ z < w11.heap.size) fun z _ hz => hz.1
        have e22 := hk22.mono (A' := fun z => z ≠ b2 ∧ z < w11.heap.size) fun z _ hz => by omega
        exact ((((((e13.trans e16).trans e17).trans e18).trans e19).trans e20).trans e21).trans e22
      have hzw5 := hk5.size
      have hkw22 : Keep All w w22 := hk5.low hkb1 (fun z hz => by omega)
      have hI22 := hI5.keep hkb1 (fun z hz => by have h1 := hIu z hz; have h2 := hlu z hz; exact ⟨by omega, h2⟩)
      refine ops_nil ?_
      refine W_region ?_
      refine o_mvt rfl ?_
      refine op_run (r_loadA (itR X) rfl rfl rfl (by first | rfl | (rw [binV_len]; rfl) | (rw [dgR_len]; rfl) | (rw [refR_len]; rfl) | (rw [secR_len]; rfl) | (rw [List.length_map, tagF_len]; rfl) | (rw [itR_len]; rfl)) ((Blk.all hB22'))) rfl ?_
      refine o_bsR itR itR_len [X] rfl ti_itm rfl rfl rfl rfl rfl rfl ?_; intro w24 b24 e24 hB24 hk24 hs24
      have hO24 := hI22.keep hk24 (fun _ _ => trivial)
      refine o_app (v := u) (c := 1) (m := acc.length) (k := 1) (rows itR [X]) rfl rfl rfl ti_itm rfl (by decide) hO24 (by rw [rows_len itR_len]; rfl) hB24.all (rows_one itR_one _) (by unfold maxLen; omega) (by omega) rfl ?_; intro v25 w25 hown25 hk25 hb25
      refine o_ast rfl ?_
      refine ops_nil ?_
      refine W_region ?_
      refine o_mvt rfl ?_
      refine op_run (r_add rfl rfl) rfl ?_
      refine o_ast rfl ?_
      refine ops_nil ?_
      have hz22 := hkb1.size
      refine ⟨by (repeat (first | with_reducible exact offM_refl _ _ | refine offM_updc rfl ?_ | refine offM_upd rfl ?_ | refine offM_updo rfl ?_ | refine offM_updo_none ?_ | refine offM_head rfl rfl ?_)), ⟨v25, i + 1, acc ++ [X], n.2.1, n.2.2, congrArg (fun z : Int => [v25, Value.int .u64 z]) hinc, by omega, by rw [List.length_append, hal]; rfl, ?_, ?_, ?_, ?_, ?_, ?_, ?_⟩, ?_⟩
      · rw [List.length_append, rows_app]; exact hown25
      · exact (hR22.k hk24).keep hk25 (fun e => by have := hIu b2 e.symm; omega) (fun k hk e => by have := hIu k e.symm; have := hAlt _ hk; have := hk03.size; omega)
      · exact (hkw22.trans hk24).low hk25 (fun z hz e => by have := hIu z e.symm; have := hk03.size; omega)
      · have := hk24.size; have := hk25.size; omega
      · intro z hz
        rcases hb25 z hz with h | h
        · exact hIu z h
        · have := hk24.size; omega
      · intro x hx
        rcases List.mem_append.1 hx with hx | hx
        · exact hin x hx
        · rw [List.mem_singleton.1 hx]; exact hXin
      · rw [hraw, hk, show m - (i + 1) = k by omega]
        have e : rawR (k + 1) rest false = (X :: (rawR k n.2.1 n.2.2).1, (rawR k n.2.1 n.2.2).2) := by
          conv => lhs; unfold rawR
          rw [if_neg (by decide), hX]
        rw [e, List.append_assoc]; rfl
      · show m - (IntKind.u64.wrap ((i : Int) + 1)).toNat < m - (i : Int).toNat
        rw [hinc]; omega
    · refine W_exit ?_
      refine W_seq ?_
      have hraw' : rawR m bs2 bad2 = (acc, rest, bd) := by
        rw [hraw]
        cases hbd : bd with
        | true => rw [rawR_bad, List.append_nil]
        | false =>
          have hie : i = m := by
            have := of_decide_eq_false h12
            exact Classical.byContradiction fun hh => this ⟨by omega, hbd⟩
          rw [hie, Nat.sub_self]
          show (acc ++ [], rest, false) = _
          rw [List.append_nil]
      have hidx := idx_raw hN2 hraw'
      refine W_cut [59] [52, 53, 54, 55, 56, 57, 58, 59] (fun vs w27 => vs = [.bool (decide (¬ (bd = false ∧ rest = [] ∧ okL none acc)))] ∧ Keep All w11 w27) ?_ ?_
      · refine W_region ?_
        refine o_mvt rfl ?_
        refine op_call rfl rfl rfl (rn_Done w11 b2 A rest bd hR5) ?_; rintro v28 w28 ⟨rfl, hk28⟩
        refine op_run (r_neq rfl rfl) rfl ?_
        refine o_mvt rfl ?_
        refine g_split rfl rfl rfl (fun g29 => ?_) (fun g29 => ?_)
        · refine o_mvt (g_yes rfl rfl rfl g29) ?_
          refine op_call rfl rfl (g_yes rfl rfl rfl g29) (rf11_Right w28 u acc (hI5.keep hk28 (fun _ _ => trivial)).sl hin) ?_; rintro v30 w30 ⟨rfl, hk30⟩
          refine op_run (r_not rfl) (g_yes rfl rfl rfl g29) ?_
          refine o_pkFt rfl g29 rfl ?_
          refine ops_nil ?_
          exact ⟨by (repeat (first | with_reducible exact offM_refl _ _ | refine offM_updc rfl ?_ | refine offM_upd rfl ?_ | refine offM_updo rfl ?_ | refine offM_updo_none ?_ | refine offM_head rfl rfl ?_)), congrArg (fun b => [Value.bool b]) (by
            have q : ¬ (bd = true ∨ 0 < rest.length) := fun hh => by rw [if_pos hh] at g29; simp at g29
            have q1 : bd = false := by
              cases hb : bd with
              | false => rfl
              | true => exact absurd (.inl hb) q
            have q2 : rest = [] := by
              cases hr : rest with
              | nil => rfl
              | cons a b => rw [hr] at q; exact absurd (.inr (Nat.succ_pos _)) q
            by_cases ho : okL none acc
            · have e1 : decide (¬ (bd = false ∧ rest = [] ∧ okL none acc)) = false := decide_eq_false (fun hh => hh ⟨q1, q2, ho⟩)
              rw [decide_eq_true ho, e1]; rfl
            · have e1 : decide (¬ (bd = false ∧ rest = [] ∧ okL none acc)) = true := decide_eq_true (fun hh => ho hh.2.2)
              rw [decide_eq_false ho, e1]; rfl), hk28.trans hk30⟩
        · refine op_skip (g_no rfl rfl rfl g29) ?_
          refine op_skip (g_no rfl rfl rfl g29) ?_
          refine op_skip (g_no rfl rfl rfl g29) ?_
          refine o_pkTc rfl g29 rfl ?_
          refine ops_nil ?_
          exact ⟨by (repeat (first | with_reducible exact offM_refl _ _ | refine offM_updc rfl ?_ | refine offM_upd rfl ?_ | refine offM_updo rfl ?_ | refine offM_updo_none ?_ | refine offM_head rfl rfl ?_)), congrArg (fun b => [Value.bool b]) (by
            have q : bd = true ∨ 0 < rest.length := Classical.byContradiction fun hh => by rw [if_neg hh] at g29; simp at g29
            symm
            apply decide_eq_true
            rintro ⟨h1, h2, _⟩
            rcases q with q | q
            · rw [h1] at q; cases q
            · rw [h2] at q; exact absurd q (by decide)), hk28⟩
      · rintro J33 vs w33 ⟨rfl, hk33⟩ -
        refine W_cond rfl (fun h34 => ?_) (fun h34 => ?_)
        · refine W_seq ?_
          refine W_region ?_
          refine o_asc rfl ?_
          refine o_asc rfl ?_
          refine ops_nil ?_
          refine W_ret ?_
          refine ret2 (.slice none 0 0) (.int .i64 3) rfl ?_ ?_ ?_; rfl; rfl
          have h34 := of_decide_eq_true h34
          rw [if_neg h34] at hidx
          exact ⟨.inl ⟨hidx, rfl⟩, hk5.trans hk33⟩
        · refine W_skip ?_
          refine W_seq ?_
          refine W_region ?_
          refine o_mvt rfl ?_
          refine o_ast rfl ?_
          refine o_asc rfl ?_
          refine ops_nil ?_
          refine W_ret ?_
          refine ret2 u (.int .i64 0) rfl ?_ ?_ ?_; rfl; rfl
          have h34 : bd = false ∧ rest = [] ∧ okL none acc := Classical.byContradiction fun hh => of_decide_eq_false h34 hh
          rw [if_pos h34] at hidx
          exact ⟨.inr ⟨acc, u, hidx, rfl, hI5.keep hk33 (fun _ _ => trivial)⟩, hk5.trans hk33⟩
end Go.Proofs.Ytkmciohghhffnaa.B
