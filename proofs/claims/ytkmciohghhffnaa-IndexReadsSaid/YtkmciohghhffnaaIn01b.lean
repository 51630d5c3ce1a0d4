/-
  sporranref01.In: bytes.
-/
import Derived.Test.YtkmciohghhffnaaIn01
namespace Go.Proofs.Ytkmciohghhffnaa.B
open Go
set_option linter.unusedVariables false
set_option maxHeartbeats 2000000
set_option maxRecDepth 100000
attribute [local irreducible] W OpsW OpsQ retP
attribute [local irreducible] numR
theorem rn_Bytes (w : World) (b : Nat) (A : Nat → Prop) (rest : List UInt8) (bad : Bool) (most : Nat) (hAb : ¬ A b) (h : RIn w b A rest bad) (hm : most < 2 ^ 62) :
    Ret Try.prog 62 [.pointer (some ⟨b, 0, none⟩), .int .i64 most].toArray w fun r w' =>
      By w' r (bytsR most rest bad).1 ∧ InB (fun k => w.heap.size ≤ k ∧ k < w'.heap.size) r ∧ RIn w' b A (bytsR most rest bad).2.1 (bytsR most rest bad).2.2 ∧ Keep (· ≠ b) w w' := by
  have hle := numR_le most rest bad
  refine enter (fn := Try.f62) (n := 20) Try.func62 rfl rfl (by simp) ?_
  refine W_seq ?_
  refine W_region ?_
  refine o_asc rfl ?_
  refine ops_nil ?_
  refine W_seq ?_
  refine W_seq ?_
  refine W_region ?_
  refine o_mvt rfl ?_
  refine op_run (r_lss rfl rfl) rfl ?_
  refine ops_nil ?_
  refine W_no rfl ((decide_eq_false (by omega))) ?_
  refine W_skip ?_
  refine W_seq ?_
  refine W_region ?_
  refine o_mvt rfl ?_
  refine o_mvt rfl ?_
  refine op_run ((r_conv rfl rfl rfl).val (congrArg (Value.int .u64) (show IntKind.u64.wrap ((most : Nat) : Int) = ((most : Nat) : Int) from by rw [wrap_u64]; omega))) rfl ?_
  refine op_call rfl rfl rfl (rn_Number w b A rest bad most hAb h) ?_; rintro v5 w5 ⟨rfl, hR5, hk5⟩
  refine o_ast rfl ?_
  refine ops_nil ?_
  refine W_seq ?_
  refine W_region ?_
  refine o_mvt rfl ?_
  refine o_mvt rfl ?_
  refine op_run ((r_conv rfl rfl rfl).val (congrArg (Value.int .i64) (show IntKind.i64.wrap (((numR most rest bad).1 : Nat) : Int) = (((numR most rest bad).1 : Nat) : Int) from wrap_i64 (by omega) (by omega)))) rfl ?_
  refine op_call rfl rfl rfl (rn_take w5 b A _ _ (numR most rest bad).1 hAb hR5 (by omega)) ?_; rintro v6 w6 ⟨hby6, hin6, hR6, hk6⟩
  refine o_ast rfl ?_
  refine ops_nil ?_
  refine W_ret ?_
  refine ret1 v6 rfl ?_ ?_; rfl
  have hz5 := hk5.size
  exact ⟨hby6, fun z hz => ⟨by have := hin6 z hz; omega, (hin6 z hz).2⟩, hR6, hk5.trans hk6⟩
end Go.Proofs.Ytkmciohghhffnaa.B
