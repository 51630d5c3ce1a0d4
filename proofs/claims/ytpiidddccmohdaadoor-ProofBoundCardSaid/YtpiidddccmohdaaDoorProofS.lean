/-
  sporranlaw09: speaks, great.
-/
import Derived.Test.YtpiidddccmohdaaDoorProof1
namespace Go.Proofs.YtpiidddccmohdaaDoor.B
open Go
set_option linter.unusedVariables false
set_option maxHeartbeats 2000000
set_option maxRecDepth 100000
attribute [local irreducible] W OpsW OpsQ retP
attribute [local irreducible] numR kdR
def greatP (xs : List (List UInt8)) : Prop := 70 < xs.length ∨ ∃ x ∈ xs, 2000 < x.length
instance (xs : List (List UInt8)) : Decidable (greatP xs) := inferInstanceAs (Decidable (_ ∨ _))
theorem greatP_not {xs : List (List UInt8)} (h : ¬ greatP xs) : xs.length ≤ 70 ∧ ∀ x ∈ xs, x.length ≤ 2000 := by
  refine ⟨?_, fun x hx => ?_⟩
  · have : ¬ 70 < xs.length := fun g => h (.inl g)
    omega
  · have : ¬ 2000 < x.length := fun g => h (.inr ⟨x, hx, g⟩)
    omega
theorem rowsV_nilP (w : World) : RowsV w (.slice none 0 0) [] [] := ⟨rfl, Sl.nil _ _, fun i u x h => by cases h⟩
theorem great09 (w : World) (v : Value) (vks : List Value) (xs : List (List UInt8)) (hv : RowsV w v vks xs) : Ret Tryd.prog 6 [v].toArray w fun r w' => r = .bool (decide (greatP xs)) ∧ Keep All w w' := by
  obtain ⟨a0, c0, rfl, hc0, hcm0⟩ := hv.2.1.form
  have hvl := hv.1
  refine enter (fn := Tryd.f6) (n := 18) Tryd.func6 rfl rfl (by simp) ?_
  refine W_seq ?_
  refine W_region ?_
  refine o_asc rfl ?_
  refine ops_nil ?_
  refine W_seq ?_
  refine W_seq ?_
  refine W_region ?_
  refine o_mvt rfl ?_
  refine op_run (r_len rfl rfl rfl) rfl ?_
  refine op_run (r_gtr rfl rfl) rfl ?_
  refine ops_nil ?_
  refine W_cond_p rfl (fun h1 => ?_) (fun h1 => ?_)
  · refine W_seq ?_
    refine W_region ?_
    refine o_asc rfl ?_
    refine ops_nil ?_
    refine W_ret ?_
    refine ret1 (.bool true) rfl ?_ ?_; rfl
    exact ⟨congrArg Value.bool (decide_eq_true (.inl (by omega))).symm, Keep.refl _⟩
  · refine W_skip ?_
    refine W_seq ?_
    refine W_seq ?_
    refine W_region ?_
    refine o_mvt rfl ?_
    refine op_run (r_len rfl rfl rfl) rfl ?_
    refine o_mvc rfl ?_
    refine ops_nil ?_
    refine W_block ?_
    refine W_loop [10] [2, 4, 10, 11, 12, 13, 14, 15, 16, 17] (fun vs w' => ∃ k : Nat, vs = [.int .i64 k] ∧ k ≤ xs.length ∧ (∀ x ∈ xs.take k, ¬ 2000 < x.length) ∧ w' = w) (fun vs _ => match vs with | [.int _ y] => xs.length - y.toNat | _ => 0) ⟨0, rfl, Nat.zero_le _, fun x hx => by simp at hx, rfl⟩ ?_
    rintro J3 vs w3 ⟨k, rfl, hk, hle, rfl⟩ -
    refine W_seq ?_
    refine W_region ?_
    refine op_run (r_lss rfl rfl) rfl ?_
    refine ops_nil ?_
    refine W_seq ?_
    refine W_cond_p rfl (fun h4 => ?_) (fun h4 => ?_)
    · refine W_skip ?_
      refine W_seq ?_
      refine W_block ?_
      refine W_seq ?_
      refine W_region ?_
      have hkl : k < xs.length := by omega
      obtain ⟨vk, hvk⟩ : ∃ vk, vks[k]? = some vk := ⟨_, List.getElem?_eq_getElem (by omega)⟩
      obtain ⟨bp, op, cp, ep, hcell⟩ := hv.at hvk
      cases ep
      obtain ⟨x, hx⟩ : ∃ x, xs[k]? = some x := ⟨_, List.getElem?_eq_getElem hkl⟩
      have hbx := hv.2.2 k vk x hvk hx
      obtain ⟨ax, cx, rfl, _, _⟩ := hbx.form
      refine op_run (r_idxS1 rfl rfl rfl rfl (by omega) (by omega)) rfl ?_
      refine op_run (r_load rfl rfl rfl (by rw [Int.toNat_natCast]; exact hcell)) rfl ?_
      refine o_ast rfl ?_
      refine ops_nil ?_
      refine W_seq ?_
      refine W_region ?_
      refine o_mvt rfl ?_
      refine op_run (r_len rfl rfl rfl) rfl ?_
      refine op_run (r_gtr rfl rfl) rfl ?_
      refine ops_nil ?_
      refine W_cond_p rfl (fun h7 => ?_) (fun h7 => ?_)
      · refine W_seq ?_
        refine W_region ?_
        refine o_asc rfl ?_
        refine ops_nil ?_
        refine W_ret ?_
        refine ret1 (.bool true) rfl ?_ ?_; rfl
        exact ⟨congrArg Value.bool (decide_eq_true (.inr ⟨x, List.mem_of_getElem? hx, by omega⟩)).symm, Keep.refl _⟩
      · refine W_skip ?_
        refine W_region ?_
        refine op_run (r_add rfl rfl) rfl ?_
        refine o_mvt rfl ?_
        refine ops_nil ?_
        have hinc := inc64' k (by unfold maxLen at hcm0; omega)
        refine ⟨by (repeat (first | with_reducible exact offM_refl _ _ | refine offM_updc rfl ?_ | refine offM_upd rfl ?_ | refine offM_updo rfl ?_ | refine offM_updo_none ?_ | refine offM_head rfl rfl ?_)), ⟨k + 1, congrArg (fun z : Int => [Value.int .i64 z]) hinc, by omega, fun y hy => ?_, rfl⟩, ?_⟩
        · rw [List.take_succ_eq_append_getElem hkl] at hy
          rcases List.mem_append.1 hy with hy | hy
          · exact hle y hy
          · obtain rfl := List.mem_singleton.1 hy
            rw [List.getElem?_eq_getElem hkl] at hx
            injection hx with hx
            rw [hx]; omega
        · show xs.length - (IntKind.i64.wrap ((k : Int) + 1)).toNat < xs.length - (k : Int).toNat
          rw [hinc]; omega
    · refine W_exit ?_
      refine W_seq ?_
      refine W_region ?_
      refine o_asc rfl ?_
      refine ops_nil ?_
      refine W_ret ?_
      refine ret1 (.bool false) rfl ?_ ?_; rfl
      have hke : k = xs.length := by omega
      subst hke
      rw [List.take_length] at hle
      refine ⟨congrArg Value.bool (decide_eq_false ?_).symm, Keep.refl _⟩
      rintro (h | ⟨x, hx, h⟩)
      · omega
      · exact hle x hx h
def digO : Dig := ⟨1 :: List.replicate 31 0, rfl⟩
theorem dgR_zeroP : dgR Dig.zero = List.replicate 32 (c8 0) := by unfold dgR Dig.zero; rw [List.map_replicate]
theorem speaks09 (w : World) (hT : TabB w) (hne : ¬ Dig.zero = tagD 5 []) : Ret Tryd.prog 5 [].toArray w fun r w' => r = .bool true ∧ Keep All w w' := by
  refine enter (fn := Tryd.f5) (n := 31) Tryd.func5 rfl rfl (by simp) ?_
  refine W_seq ?_
  refine W_region ?_
  refine o_asc rfl ?_
  refine ops_nil ?_
  refine W_seq ?_
  refine W_region ?_
  refine op_call rfl rfl rfl (rf_TagD _ _ 5 [] SlR.nil (tag_0 _)) ?_; rintro v1 w1 ⟨rfl, hk1⟩
  refine op_run (r_buildA ((dgR digO)) (_) ([(0, c8 1)]) rfl rfl rfl rfl rfl (rfl)) rfl ?_
  refine op_call rfl rfl rfl (p_Check w1 (tagD 5 []) digO _ [] [] (rowsV_nilP _) (by decide) (fun b hb => by cases hb) (hT.k hk1)) ?_; rintro v3 w3 ⟨v3', hr3, hb3, hk3⟩
  have e3 : chk (tagD 5 []) digO.val [] = some (false, []) := by unfold chk; rw [if_pos rfl, if_pos rfl]
  rw [e3] at hr3
  subst hr3
  refine o_mvt rfl ?_
  refine op_run (r_extract rfl rfl) rfl ?_
  refine op_run (r_extract rfl rfl) rfl ?_
  refine op_run (r_extract rfl rfl) rfl ?_
  refine o_ast rfl ?_
  refine o_ast rfl ?_
  refine o_ast rfl ?_
  refine ops_nil ?_
  refine W_seq ?_
  refine W_region ?_
  refine op_run (r_buildA ((dgR Dig.zero)) (_) ([]) rfl rfl rfl rfl rfl (by rw [dgR_zeroP]; rfl)) rfl ?_
  refine op_run (r_buildA ((dgR digO)) (_) ([(0, c8 1)]) rfl rfl rfl rfl rfl (rfl)) rfl ?_
  refine op_call rfl rfl rfl (p_Check w3 Dig.zero digO _ [] [] (rowsV_nilP _) (by decide) (fun b hb => by cases hb) ((hT.k hk1).k hk3)) ?_; rintro v6 w6 ⟨v6', hr6, hb6, hk6⟩
  have e6 : chk Dig.zero digO.val [] = none := by unfold chk; rw [if_pos rfl, if_neg hne]
  rw [e6] at hr6
  subst hr6
  refine o_mvt rfl ?_
  refine op_run (r_extract rfl rfl) rfl ?_
  refine op_run (r_extract rfl rfl) rfl ?_
  refine op_run (r_extract rfl rfl) rfl ?_
  refine o_ast rfl ?_
  refine o_ast rfl ?_
  refine o_ast rfl ?_
  refine ops_nil ?_
  refine W_seq ?_
  refine W_region ?_
  refine o_mvt rfl ?_
  refine op_run (r_not rfl) rfl ?_
  refine o_mvt rfl ?_
  refine g_split rfl rfl rfl (fun g7 => ?_) (fun g => absurd g (by simp))
  refine o_mvt (g_yes rfl rfl rfl (by rw [g7] <;> rfl)) ?_
  refine op_run (r_eql rfl rfl) (g_yes rfl rfl rfl (by rw [g7] <;> rfl)) ?_
  refine o_pkTt rfl (by rw [g7] <;> rfl) rfl ?_
  refine o_mvt rfl ?_
  refine g_split rfl rfl rfl (fun g8 => ?_) (fun g => absurd g (by simp))
  refine o_mvt (g_yes rfl rfl rfl g8) ?_
  refine op_run (r_eql rfl rfl) (g_yes rfl rfl rfl g8) ?_
  refine o_pkTt rfl g8 rfl ?_
  refine o_ast rfl ?_
  refine ops_nil ?_
  refine W_ret ?_
  refine ret1 (.bool true) rfl ?_ ?_; rfl
  exact ⟨rfl, (hk1.trans hk3).trans hk6⟩
end Go.Proofs.YtpiidddccmohdaaDoor.B
