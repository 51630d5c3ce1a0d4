/-
  space: marks, releases, counts, takes, twins.
-/
import Derived.Test.YtcmkfembphakiaaSpace
namespace Go.Proofs.Ytcmkfembphakiaa.B
open Go
set_option linter.unusedVariables false
attribute [local irreducible] W OpsW OpsQ retP
theorem cnt_zero {f : Nat → Bool} : ∀ n, (∀ i, i < n → f i = false) → cnt f n = 0
  | 0, _ => rfl
  | n + 1, h => by rw [cnt_s, cnt_zero n (fun i hi => h i (by omega)), h n (by omega)]; rfl

theorem sp_Mark (w : World) (b : Nat) (A : Nat → Prop) (sz : Nat) (f : Nat → Bool) (at_ n : Int) (h : SpC w b A sz f) :
    Ret Try.prog 14 [.pointer (some ⟨b, 0, none⟩), .int .i64 at_, .int .i64 n].toArray w fun r w' =>
      if n < 0 ∨ at_ < 0 ∨ (sz : Int) < at_ ∨ (sz : Int) - at_ < n then r = .int .i64 2 ∧ w' = w
      else r = .int .i64 0 ∧ SpC w' b A sz (turnF f at_.toNat n.toNat true) ∧ Keep (fun k => ¬ A k) w w' := by
  refine enter (fn := Try.f14) (n := 11) Try.func14 rfl rfl (by simp) ?_
  refine W_seq ?_
  refine W_region ?_
  refine o_asc rfl ?_
  refine ops_nil ?_
  refine W_seq ?_
  refine W_region ?_
  refine o_mvt rfl ?_
  refine o_mvt rfl ?_
  refine o_mvt rfl ?_
  refine op_call rfl rfl rfl (sp_turn w b A sz f at_ n true h) ?_; rintro v1 w1 h1
  refine o_ast rfl ?_
  refine ops_nil ?_
  refine W_ret ?_
  refine ret1 v1 rfl ?_ ?_; rfl
  exact h1

theorem sp_Release (w : World) (b : Nat) (A : Nat → Prop) (sz : Nat) (f : Nat → Bool) (at_ n : Int) (h : SpC w b A sz f) :
    Ret Try.prog 10 [.pointer (some ⟨b, 0, none⟩), .int .i64 at_, .int .i64 n].toArray w fun r w' =>
      if n < 0 ∨ at_ < 0 ∨ (sz : Int) < at_ ∨ (sz : Int) - at_ < n then r = .int .i64 2 ∧ w' = w
      else r = .int .i64 0 ∧ SpC w' b A sz (turnF f at_.toNat n.toNat false) ∧ Keep (fun k => ¬ A k) w w' := by
  refine enter (fn := Try.f10) (n := 11) Try.func10 rfl rfl (by simp) ?_
  refine W_seq ?_
  refine W_region ?_
  refine o_asc rfl ?_
  refine ops_nil ?_
  refine W_seq ?_
  refine W_region ?_
  refine o_mvt rfl ?_
  refine o_mvt rfl ?_
  refine o_mvt rfl ?_
  refine op_call rfl rfl rfl (sp_turn w b A sz f at_ n false h) ?_; rintro v1 w1 h1
  refine o_ast rfl ?_
  refine ops_nil ?_
  refine W_ret ?_
  refine ret1 v1 rfl ?_ ?_; rfl
  exact h1

theorem sp_Free (w : World) (b : Nat) (A : Nat → Prop) (sz : Nat) (f : Nat → Bool) (h : SpC w b A sz f) :
    Ret Try.prog 9 [.pointer (some ⟨b, 0, none⟩)].toArray w fun r w' => r = .int .i64 ((sz : Int) - (cnt f sz : Int)) ∧ w' = w := by
  obtain ⟨g, c, ws, ex, hB, hwc, hcm, hG, hgb, hAb, hAg, hwl, hs1, hs2, hws, hbits, hout⟩ := h
  refine enter (fn := Try.f9) (n := 25) Try.func9 rfl rfl (by simp) ?_
  refine W_seq ?_
  refine W_region ?_
  refine o_asc rfl ?_
  refine ops_nil ?_
  refine W_seq ?_
  refine W_region ?_
  refine o_mvt rfl ?_
  refine op_run (r_nilCheck rfl) rfl ?_
  refine op_run (r_fieldAddr rfl rfl rfl rfl rfl) rfl ?_
  refine op_run (r_load rfl rfl rfl (hB.cell rfl)) rfl ?_
  refine o_ast rfl ?_
  refine ops_nil ?_
  refine W_seq ?_
  refine W_seq ?_
  refine W_region ?_
  refine o_mvt rfl ?_
  refine op_run (r_nilCheck rfl) rfl ?_
  refine op_run (r_fieldAddr rfl rfl rfl rfl rfl) rfl ?_
  refine op_run (r_load rfl rfl rfl (hB.cell rfl)) rfl ?_
  refine op_run (r_len rfl rfl rfl) rfl ?_
  refine o_mvc rfl ?_
  refine ops_nil ?_
  refine W_block ?_
  refine W_loop [3, 15] [3, 5, 15, 16, 17, 18, 19, 20, 21, 22, 23] (fun vs w' => ∃ k : Nat, vs = [.int .i64 ((sz : Int) - (cnt f (64 * k) : Int)), .int .i64 k] ∧ k ≤ ws.length ∧ w = w') (fun vs _ => match vs with | [_, .int _ k] => ws.length - k.toNat | _ => 0) ⟨0, by rw [show cnt f (64 * 0) = 0 from rfl, Int.natCast_zero, Int.sub_zero]; rfl, by omega, rfl⟩ ?_
  rintro J vs w2 ⟨k, rfl, hk, rfl⟩ -
  refine W_seq ?_
  refine W_region ?_
  refine op_run (r_lss rfl rfl) rfl ?_
  refine ops_nil ?_
  refine W_seq ?_
  refine W_cond_p rfl (fun h4 => ?_) (fun h4 => ?_)
  · refine W_skip ?_
    refine W_seq ?_
    refine W_block ?_
    refine W_seq ?_
    refine W_region ?_
    have hkl : k < ws.length := by omega
    have hc1 := cnt_le f (64 * k)
    have hc2 := cnt_le (ws[k].testBit) 64
    have hinc := inc64' k (by omega)
    have hstep : cnt f (64 * (k + 1)) = cnt f (64 * k) + cnt (ws[k].testBit) 64 := by
      rw [show 64 * (k + 1) = 64 * k + 64 by omega, cnt_add]
      congr 1
      exact cnt_congr _ fun j hj => (hbits k _ (List.getElem?_eq_getElem hkl) j hj).symm
    have hsub : IntKind.i64.wrap (((sz : Int) - (cnt f (64 * k) : Int)) - (cnt (ws[k].testBit) 64 : Int)) = (sz : Int) - (cnt f (64 * (k + 1)) : Int) := by
      rw [wrap_i64 (by omega) (by omega), hstep]; omega
    refine op_run (r_idxS1 rfl rfl rfl rfl (by omega) (by omega)) rfl ?_
    refine op_run (r_load rfl rfl rfl (hG.cell (get0 hkl))) rfl ?_
    refine o_ast rfl ?_
    refine ops_nil ?_
    refine W_region ?_
    refine o_mvt rfl ?_
    refine o_mvt rfl ?_
    refine op_call rfl rfl rfl (ones64 w _ (hws _ (List.getElem_mem hkl))) ?_; rintro v7 w7 ⟨rfl, rfl⟩
    refine op_run ((r_sub rfl rfl).val (congrArg (Value.int .i64) hsub)) rfl ?_
    refine o_ast rfl ?_
    refine ops_nil ?_
    refine W_region ?_
    refine op_run (r_add rfl rfl) rfl ?_
    refine o_mvt rfl ?_
    refine ops_nil ?_
    refine ⟨by (repeat (first | with_reducible exact offM_refl _ _ | refine offM_updc rfl ?_ | refine offM_upd rfl ?_ | refine offM_updo rfl ?_ | refine offM_updo_none ?_ | refine offM_head rfl rfl ?_)), ⟨k + 1, ?_, by omega, rfl⟩, ?_⟩
    · rw [← hinc]; rfl
    · show ws.length - (IntKind.i64.wrap ((k : Int) + 1)).toNat < ws.length - (k : Int).toNat
      rw [hinc]; omega
  · refine W_exit ?_
    refine W_seq ?_
    refine W_region ?_
    refine o_mvt rfl ?_
    refine o_ast rfl ?_
    refine ops_nil ?_
    refine W_ret ?_
    refine ret1 (.int .i64 ((sz : Int) - (cnt f (64 * k) : Int))) rfl ?_ ?_; rfl
    have e : k = ws.length := by omega
    subst e
    refine ⟨?_, rfl⟩
    obtain ⟨d, hd⟩ : ∃ d, 64 * ws.length = sz + d := ⟨64 * ws.length - sz, by omega⟩
    rw [hd, cnt_add, cnt_zero d (fun i _ => hout _ (by omega))]
    rfl
end Go.Proofs.Ytcmkfembphakiaa.B
