/-
  MerkleBound: the walk.
-/
import Derived.Test.YtnjepmdgbkhoaaaMerk7
namespace Go.Proofs.Ytnjepmdgbkhoaaa.B
open Go
set_option linter.unusedVariables false
set_option maxHeartbeats 2000000
set_option maxRecDepth 100000
attribute [local irreducible] W OpsW OpsQ retP
theorem walk_MerkleBound (w : World) (v vr vp : Value) (pss : List (List UInt8)) (pos : Int) (row : List UInt8) (proof : List Dig) (hv : SlR w v 1 (RowB w) pss) (hr : By w vr row) (hp : Sl w vp proof.length 32 (rows dgR proof)) :
    Ret Try.prog 4 [v, .int .i64 pos, vr, vp].toArray w fun r w' => r = .bool true ∧ Keep All w w' := by
  obtain ⟨a0, c0, rfl, hc0, hcm0⟩ := hv.form
  obtain ⟨ar, cr, rfl, _, _⟩ := hr.form
  obtain ⟨ap, cp, rfl, hcp, hcmp⟩ := hp.form
  refine enter (fn := Try.f4) (n := 55) Try.func4 rfl rfl (by simp) ?_
  refine W_seq ?_
  refine W_region ?_
  refine o_asc rfl ?_
  refine ops_nil ?_
  refine W_seq ?_
  refine W_seq ?_
  refine W_region ?_
  refine op_call rfl rfl rfl (speaks03 w) ?_; rintro v1 w1 ⟨rfl, hk1⟩
  refine op_run (r_not rfl) rfl ?_
  refine ops_nil ?_
  refine W_no rfl (rfl) ?_
  refine W_skip ?_
  refine W_seq ?_
  refine W_cut [32] [11, 12, 13, 14, 15, 16, 17, 18, 19, 20, 21, 22, 23, 24, 25, 26, 27, 28, 29, 30, 31, 32] (fun vs w4 => vs = [.bool (decide ((60 < pss.length ∨ ∃ p ∈ pss, 300 < p.length) ∨ 300 < row.length ∨ 70 < proof.length ∨ pos < 0 ∨ (pss.length : Int) ≤ pos))] ∧ Keep All w1 w4) ?_ ?_
  · refine W_region ?_
    refine o_mvt rfl ?_
    refine op_call rfl rfl rfl (great03 _ _ pss (rowsB_keep hv hk1)) ?_; rintro v5 w5 ⟨rfl, hk5⟩
    refine o_mvt rfl ?_
    refine g_split rfl rfl rfl (fun g6 => ?_) (fun g6 => ?_)
    · refine o_mvt (g_yes rfl rfl rfl g6) ?_
      refine op_run (r_len rfl rfl rfl) (g_yes rfl rfl rfl g6) ?_
      refine op_run (r_gtr rfl rfl) (g_yes rfl rfl rfl g6) ?_
      refine o_pkFt rfl g6 rfl ?_
      refine o_mvt rfl ?_
      refine g_split rfl rfl rfl (fun g7 => ?_) (fun g7 => ?_)
      · refine o_mvt (g_yes rfl rfl rfl g7) ?_
        refine op_run (r_len rfl rfl rfl) (g_yes rfl rfl rfl g7) ?_
        refine op_run (r_gtr rfl rfl) (g_yes rfl rfl rfl g7) ?_
        refine o_pkFt rfl g7 rfl ?_
        refine o_mvt rfl ?_
        refine g_split rfl rfl rfl (fun g8 => ?_) (fun g8 => ?_)
        · refine o_mvt (g_yes rfl rfl rfl g8) ?_
          refine op_run (r_lss rfl rfl) (g_yes rfl rfl rfl g8) ?_
          refine o_pkFt rfl g8 rfl ?_
          refine o_mvt rfl ?_
          refine g_split rfl rfl rfl (fun g9 => ?_) (fun g9 => ?_)
          · refine o_mvt (g_yes rfl rfl rfl g9) ?_
            refine o_mvt (g_yes rfl rfl rfl g9) ?_
            refine op_run (r_len rfl rfl rfl) (g_yes rfl rfl rfl g9) ?_
            refine op_run (r_geq rfl rfl) (g_yes rfl rfl rfl g9) ?_
            refine o_pkFt rfl g9 rfl ?_
            refine ops_nil ?_
            exact ⟨by (repeat (first | with_reducible exact offM_refl _ _ | refine offM_updc rfl ?_ | refine offM_upd rfl ?_ | refine offM_updo rfl ?_ | refine offM_updo_none ?_ | refine offM_head rfl rfl ?_)), congrArg (fun b => [Value.bool b]) (by have g6 := of_decide_eq_false g6; have g7 := of_decide_eq_false g7; have g8 := of_decide_eq_false g8; have g9 := of_decide_eq_false g9; rw [decide_eq_decide]; simp only [g6, false_or]; omega), hk5⟩
          · refine op_skip (g_no rfl rfl rfl g9) ?_
            refine op_skip (g_no rfl rfl rfl g9) ?_
            refine op_skip (g_no rfl rfl rfl g9) ?_
            refine op_skip (g_no rfl rfl rfl g9) ?_
            refine o_pkTc rfl g9 rfl ?_
            refine ops_nil ?_
            exact ⟨by (repeat (first | with_reducible exact offM_refl _ _ | refine offM_updc rfl ?_ | refine offM_upd rfl ?_ | refine offM_updo rfl ?_ | refine offM_updo_none ?_ | refine offM_head rfl rfl ?_)), congrArg (fun b => [Value.bool b]) (by have g9 := of_decide_eq_true g9; symm; apply decide_eq_true; right; omega), hk5⟩
        · refine op_skip (g_no rfl rfl rfl g8) ?_
          refine op_skip (g_no rfl rfl rfl g8) ?_
          refine o_pkTc rfl g8 rfl ?_
          refine o_mvt rfl ?_
          refine op_skip (g_no rfl rfl rfl rfl) ?_
          refine op_skip (g_no rfl rfl rfl rfl) ?_
          refine op_skip (g_no rfl rfl rfl rfl) ?_
          refine op_skip (g_no rfl rfl rfl rfl) ?_
          refine o_pkTc rfl rfl rfl ?_
          refine ops_nil ?_
          exact ⟨by (repeat (first | with_reducible exact offM_refl _ _ | refine offM_updc rfl ?_ | refine offM_upd rfl ?_ | refine offM_updo rfl ?_ | refine offM_updo_none ?_ | refine offM_head rfl rfl ?_)), congrArg (fun b => [Value.bool b]) (by have g8 := of_decide_eq_true g8; symm; apply decide_eq_true; right; omega), hk5⟩
      · refine op_skip (g_no rfl rfl rfl g7) ?_
        refine op_skip (g_no rfl rfl rfl g7) ?_
        refine op_skip (g_no rfl rfl rfl g7) ?_
        refine o_pkTc rfl g7 rfl ?_
        refine o_mvt rfl ?_
        refine op_skip (g_no rfl rfl rfl rfl) ?_
        refine op_skip (g_no rfl rfl rfl rfl) ?_
        refine o_pkTc rfl rfl rfl ?_
        refine o_mvt rfl ?_
        refine op_skip (g_no rfl rfl rfl rfl) ?_
        refine op_skip (g_no rfl rfl rfl rfl) ?_
        refine op_skip (g_no rfl rfl rfl rfl) ?_
        refine op_skip (g_no rfl rfl rfl rfl) ?_
        refine o_pkTc rfl rfl rfl ?_
        refine ops_nil ?_
        exact ⟨by (repeat (first | with_reducible exact offM_refl _ _ | refine offM_updc rfl ?_ | refine offM_upd rfl ?_ | refine offM_updo rfl ?_ | refine offM_updo_none ?_ | refine offM_head rfl rfl ?_)), congrArg (fun b => [Value.bool b]) (by have g7 := of_decide_eq_true g7; symm; apply decide_eq_true; right; omega), hk5⟩
    · refine op_skip (g_no rfl rfl rfl g6) ?_
      refine op_skip (g_no rfl rfl rfl g6) ?_
      refine op_skip (g_no rfl rfl rfl g6) ?_
      refine o_pkTc rfl g6 rfl ?_
      refine o_mvt rfl ?_
      refine op_skip (g_no rfl rfl rfl rfl) ?_
      refine op_skip (g_no rfl rfl rfl rfl) ?_
      refine op_skip (g_no rfl rfl rfl rfl) ?_
      refine o_pkTc rfl rfl rfl ?_
      refine o_mvt rfl ?_
      refine op_skip (g_no rfl rfl rfl rfl) ?_
      refine op_skip (g_no rfl rfl rfl rfl) ?_
      refine o_pkTc rfl rfl rfl ?_
      refine o_mvt rfl ?_
      refine op_skip (g_no rfl rfl rfl rfl) ?_
      refine op_skip (g_no rfl rfl rfl rfl) ?_
      refine op_skip (g_no rfl rfl rfl rfl) ?_
      refine op_skip (g_no rfl rfl rfl rfl) ?_
      refine o_pkTc rfl rfl rfl ?_
      refine ops_nil ?_
      exact ⟨by (repeat (first | with_reducible exact offM_refl _ _ | refine offM_updc rfl ?_ | refine offM_upd rfl ?_ | refine offM_updo rfl ?_ | refine offM_updo_none ?_ | refine offM_head rfl rfl ?_)), congrArg (fun b => [Value.bool b]) (by have g6 := of_decide_eq_true g6; symm; apply decide_eq_true; exact .inl g6), hk5⟩
  · rintro J15 vs w15 ⟨rfl, hk15⟩ -
    refine W_cond_p rfl (fun h16 => ?_) (fun h16 => ?_)
    · refine W_seq ?_
      refine W_region ?_
      refine o_asc rfl ?_
      refine ops_nil ?_
      refine W_ret ?_
      refine ret1 (.bool true) rfl ?_ ?_; rfl
      exact ⟨rfl, hk1.trans hk15⟩
    · refine W_skip ?_
      refine W_seq ?_
      have hkw := hk1.trans hk15
      have hng : ¬ (60 < pss.length ∨ ∃ p ∈ pss, 300 < p.length) := fun h => h16 (.inl h)
      have hl : ∀ p ∈ pss, p.length ≤ 100000 := fun p hp => by
        have : ¬ 300 < p.length := fun h => hng (.inr ⟨p, hp, h⟩)
        omega
      have hrl : row.length ≤ 100000 := by
        have : ¬ 300 < row.length := fun h => h16 (.inr (.inl h))
        omega
      have hp0 : ¬ pos < 0 := fun h => h16 (.inr (.inr (.inr (.inl h))))
      have hp1 : ¬ (pss.length : Int) ≤ pos := fun h => h16 (.inr (.inr (.inr (.inr h))))
      obtain ⟨k, rfl⟩ := Int.eq_ofNat_of_zero_le (show 0 ≤ pos by omega)
      have hkl : k < pss.length := by omega
      refine W_cut [49] [33, 34, 35, 36, 37, 38, 39, 40, 41, 42, 43, 44, 45, 46, 47, 48, 49] (fun vs w18 => vs = [.bool (decide (¬ leadD tagD pss.length k row proof = (rootD tagD pss, true) ∨ row = pss[k]))] ∧ Keep All w15 w18) ?_ ?_
      · refine W_region ?_
        refine o_mvt rfl ?_
        refine op_call rfl rfl rfl (mk_Root pss.length _ _ pss rfl (rowsB_keep hv hkw) hl) ?_; rintro v19 w19 ⟨rfl, hk19⟩
        refine o_mvt rfl ?_
        refine op_run (r_len rfl rfl rfl) rfl ?_
        refine o_mvt rfl ?_
        refine o_mvt rfl ?_
        refine o_mvt rfl ?_
        refine op_call rfl rfl rfl (mk_Verify _ (rootD tagD pss) pss.length k _ _ row proof (by unfold maxLen at hcm0; omega) (hr.k (hkw.trans hk19)) hrl (hp.k (hkw.trans hk19))) ?_; rintro v20 w20 ⟨rfl, hk20⟩
        refine op_run (r_not rfl) rfl ?_
        refine o_mvt rfl ?_
        refine g_split rfl rfl rfl (fun g21 => ?_) (fun g21 => ?_)
        · refine o_mvt (g_yes rfl rfl rfl (by rw [g21] <;> rfl)) ?_
          refine o_mvt (g_yes rfl rfl rfl (by rw [g21] <;> rfl)) ?_
          refine o_mvt (g_yes rfl rfl rfl (by rw [g21] <;> rfl)) ?_
          obtain ⟨bp, op, cp', vk, ep, hck, hby⟩ := rowsB_get (k := k) (rowsB_keep hv (hkw.trans (hk19.trans hk20))) hkl
          injection ep with ep1 ep2 ep3
          subst ep1; subst ep3
          obtain ⟨ak, ck, rfl, hak, hakm⟩ := hby.form
          refine op_run (r_idxS1 rfl rfl rfl rfl (by omega) (by omega)) (g_yes rfl rfl rfl (by rw [g21] <;> rfl)) ?_
          refine op_run (r_load rfl rfl rfl (by rw [Int.toNat_natCast]; exact hck)) (g_yes rfl rfl rfl (by rw [g21] <;> rfl)) ?_
          refine op_call rfl rfl (g_yes rfl rfl rfl (by rw [g21] <;> rfl)) (ref01_Same _ _ _ row pss[k] (hr.k (hkw.trans (hk19.trans hk20))) hby) ?_; rintro v24 w24 ⟨rfl, hk24⟩
          refine o_pkFt rfl (by rw [g21] <;> rfl) rfl ?_
          refine ops_nil ?_
          exact ⟨by (repeat (first | with_reducible exact offM_refl _ _ | refine offM_updc rfl ?_ | refine offM_upd rfl ?_ | refine offM_updo rfl ?_ | refine offM_updo_none ?_ | refine offM_head rfl rfl ?_)), congrArg (fun b => [Value.bool b]) (by
            have g21 : ((0 : Int) ≤ (k : Int) ∧ (k : Int) < (pss.length : Int)) ∧ leadD tagD pss.length k row proof = (rootD tagD pss, true) := by simpa using g21
            rw [decide_eq_decide]; simp [g21.2]), (hk19.trans hk20).trans hk24⟩
        · refine op_skip (g_no rfl rfl rfl (by rw [g21] <;> rfl)) ?_
          refine op_skip (g_no rfl rfl rfl (by rw [g21] <;> rfl)) ?_
          refine op_skip (g_no rfl rfl rfl (by rw [g21] <;> rfl)) ?_
          refine op_skip (g_no rfl rfl rfl (by rw [g21] <;> rfl)) ?_
          refine op_skip (g_no rfl rfl rfl (by rw [g21] <;> rfl)) ?_
          refine op_skip (g_no rfl rfl rfl (by rw [g21] <;> rfl)) ?_
          refine o_pkTc rfl (by rw [g21] <;> rfl) rfl ?_
          refine ops_nil ?_
          exact ⟨by (repeat (first | with_reducible exact offM_refl _ _ | refine offM_updc rfl ?_ | refine offM_upd rfl ?_ | refine offM_updo rfl ?_ | refine offM_updo_none ?_ | refine offM_head rfl rfl ?_)), congrArg (fun b => [Value.bool b]) (by
            have g21 : ¬ leadD tagD pss.length k row proof = (rootD tagD pss, true) := by
              intro h
              have g21 : pss.length ≤ k ∨ ¬ leadD tagD pss.length k row proof = (rootD tagD pss, true) := by simpa using g21
              rcases g21 with g | g
              · omega
              · exact g h
            simp [g21]), (hk19.trans hk20)⟩
      · rintro J27 vs w27 ⟨rfl, hk27⟩ -
        refine W_cond_p rfl (fun h28 => ?_) (fun h28 => ?_)
        · refine W_seq ?_
          refine W_region ?_
          refine o_asc rfl ?_
          refine ops_nil ?_
          refine W_ret ?_
          refine ret1 (.bool true) rfl ?_ ?_; rfl
          exact ⟨rfl, hkw.trans hk27⟩
        · refine W_skip ?_
          refine W_seq ?_
          refine W_region ?_
          refine o_mvt rfl ?_
          refine o_mvt rfl ?_
          refine o_mvt rfl ?_
          refine o_mvt rfl ?_
          have hkw2 := hkw.trans hk27
          have hne : leadD tagD pss.length k row proof = (rootD tagD pss, true) := Decidable.byContradiction fun h => h28 (.inl h)
          have hrow : pss[k]? ≠ some row := fun h => h28 (.inr (by rw [List.getElem?_eq_getElem hkl] at h; injection h with h; exact h.symm))
          refine op_call rfl rfl rfl (law_clash pss.length _ _ _ _ pss k row proof rfl hkl (rowsB_keep hv hkw2) hl (hr.k hkw2) hrl (hp.k hkw2)) ?_; rintro v30 w30 ⟨rfl, hk30⟩
          refine o_ast rfl ?_
          refine ops_nil ?_
          refine W_ret ?_
          refine ret1 (.bool (clashD tagD pss k row proof)) rfl ?_ ?_; rfl
          exact ⟨congrArg Value.bool (clash_found tagD pss.length pss k row proof (Nat.le_refl _) hkl hne (.inl hrow)), hkw2.trans hk30⟩
end Go.Proofs.Ytnjepmdgbkhoaaa.B
