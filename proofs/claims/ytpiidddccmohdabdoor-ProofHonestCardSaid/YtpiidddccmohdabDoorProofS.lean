/-
  sporranlaw09: speaks, great.
-/
import Derived.Test.YtpiidddccmohdabDoorProof1
namespace Go.Proofs.YtpiidddccmohdabDoor.B
open Go
set_option linter.unusedVariables false
set_option maxHeartbeats 2000000
set_option maxRecDepth 100000
attribute [local irreducible] W OpsW OpsQ retP
attribute [local irreducible] numR kdR
def greatP (xs : List (List UInt8)) : Prop := 70 < xs.length ∨ ∃ x ∈ xs, 2000 < x.length
instance (xs : List (List UInt8)) : Decidable (greatP xs) := inferInstanceAs (Decidable (_ ∨ _))
theorem greatP_not {xs : List (List UInt8)} (h : ¬ greatP xs) : xs.length ≤ 70 ∧ ∀ x ∈ xs, x.length ≤ 2000 := by
  refine ⟨?_, fun x hx => ?_⟩
  · have : ¬ 70 < xs.length := fun g => h (.inl g)
    omega
  · have : ¬ 2000 < x.length := fun g => h (.inr ⟨x, hx, g⟩)
    omega
theorem rowsV_nilP (w : World) : RowsV w (.slice none 0 0) [] [] := ⟨rfl, Sl.nil _ _, fun i u x h => by cases h⟩
def digO : Dig := ⟨1 :: List.replicate 31 0, rfl⟩
theorem dgR_zeroP : dgR Dig.zero = List.replicate 32 (c8 0) := by unfold dgR Dig.zero; rw [List.map_replicate]
theorem speaks09 (w : World) (hT : TabB w) (hne : ¬ Dig.zero = tagD 5 []) : Ret Tryd.prog 5 [].toArray w fun r w' => r = .bool true ∧ Keep All w w' := by
  refine enter (fn := Tryd.f5) (n := 31) Tryd.func5 rfl rfl (by simp) ?_
  refine W_seq ?_
  refine W_region ?_
  refine o_asc rfl ?_
  refine ops_nil ?_
  refine W_seq ?_
  refine W_region ?_
  refine op_call rfl rfl rfl (rf_TagD _ _ 5 [] SlR.nil (tag_0 _)) ?_; rintro v1 w1 ⟨rfl, hk1⟩
  refine op_run (r_buildA ((dgR digO)) (_) ([(0, c8 1)]) rfl rfl rfl rfl rfl (rfl)) rfl ?_
  refine op_call rfl rfl rfl (p_Check w1 (tagD 5 []) digO _ [] [] (rowsV_nilP _) (by decide) (fun b hb => by cases hb) (hT.k hk1)) ?_; rintro v3 w3 ⟨v3', hr3, hb3, hk3⟩
  have e3 : chk (tagD 5 []) digO.val [] = some (false, []) := by unfold chk; rw [if_pos rfl, if_pos rfl]
  rw [e3] at hr3
  subst hr3
  refine o_mvt rfl ?_
  refine op_run (r_extract rfl rfl) rfl ?_
  refine op_run (r_extract rfl rfl) rfl ?_
  refine op_run (r_extract rfl rfl) rfl ?_
  refine o_ast rfl ?_
  refine o_ast rfl ?_
  refine o_ast rfl ?_
  refine ops_nil ?_
  refine W_seq ?_
  refine W_region ?_
  refine op_run (r_buildA ((dgR Dig.zero)) (_) ([]) rfl rfl rfl rfl rfl (by rw [dgR_zeroP]; rfl)) rfl ?_
  refine op_run (r_buildA ((dgR digO)) (_) ([(0, c8 1)]) rfl rfl rfl rfl rfl (rfl)) rfl ?_
  refine op_call rfl rfl rfl (p_Check w3 Dig.zero digO _ [] [] (rowsV_nilP _) (by decide) (fun b hb => by cases hb) ((hT.k hk1).k hk3)) ?_; rintro v6 w6 ⟨v6', hr6, hb6, hk6⟩
  have e6 : chk Dig.zero digO.val [] = none := by unfold chk; rw [if_pos rfl, if_neg hne]
  rw [e6] at hr6
  subst hr6
  refine o_mvt rfl ?_
  refine op_run (r_extract rfl rfl) rfl ?_
  refine op_run (r_extract rfl rfl) rfl ?_
  refine op_run (r_extract rfl rfl) rfl ?_
  refine o_ast rfl ?_
  refine o_ast rfl ?_
  refine o_ast rfl ?_
  refine ops_nil ?_
  refine W_seq ?_
  refine W_region ?_
  refine o_mvt rfl ?_
  refine op_run (r_not rfl) rfl ?_
  refine o_mvt rfl ?_
  refine g_split rfl rfl rfl (fun g7 => ?_) (fun g => absurd g (by simp))
  refine o_mvt (g_yes rfl rfl rfl (by rw [g7] <;> rfl)) ?_
  refine op_run (r_eql rfl rfl) (g_yes rfl rfl rfl (by rw [g7] <;> rfl)) ?_
  refine o_pkTt rfl (by rw [g7] <;> rfl) rfl ?_
  refine o_mvt rfl ?_
  refine g_split rfl rfl rfl (fun g8 => ?_) (fun g => absurd g (by simp))
  refine o_mvt (g_yes rfl rfl rfl g8) ?_
  refine op_run (r_eql rfl rfl) (g_yes rfl rfl rfl g8) ?_
  refine o_pkTt rfl g8 rfl ?_
  refine o_ast rfl ?_
  refine ops_nil ?_
  refine W_ret ?_
  refine ret1 (.bool true) rfl ?_ ?_; rfl
  exact ⟨rfl, (hk1.trans hk3).trans hk6⟩
end Go.Proofs.YtpiidddccmohdabDoor.B
