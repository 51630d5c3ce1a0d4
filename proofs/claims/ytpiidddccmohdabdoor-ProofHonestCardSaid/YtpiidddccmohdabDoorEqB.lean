/-
  bytes.Equal.
-/
import Derived.Test.YtpiidddccmohdabDoorMSha
import Derived.Test.YtpiidddccmohdabDoorRowsK
namespace Go.Proofs.YtpiidddccmohdabDoor.B
open Go
set_option linter.unusedVariables false
set_option maxHeartbeats 2000000
set_option maxRecDepth 100000
attribute [local irreducible] W OpsW OpsQ retP
theorem by_Equal (w : World) (va vb : Value) (a b : List UInt8) (ha : By w va a) (hb : By w vb b) : Ret Tryd.prog 42 [va, vb].toArray w fun r w' => r = .bool (decide (a = b)) ∧ w' = w := by
  refine enter (fn := Tryd.f42) (n := 10) Tryd.func42 rfl rfl (by simp) ?_
  refine W_seq ?_
  refine W_region ?_
  refine o_asc rfl ?_
  refine ops_nil ?_
  refine W_seq ?_
  refine W_region ?_
  refine o_mvt rfl ?_
  refine op_run (r_bytesStr rfl (ha) rfl rfl rfl) rfl ?_
  refine o_mvt rfl ?_
  refine op_run (r_bytesStr rfl (hb) rfl rfl rfl) rfl ?_
  refine op_run (r_eqlStr rfl rfl) rfl ?_
  refine o_ast rfl ?_
  refine ops_nil ?_
  refine W_ret ?_
  refine ret1 (.bool (decide (a = b))) rfl ?_ ?_; rfl
  exact ⟨rfl, rfl⟩
end Go.Proofs.YtpiidddccmohdabDoor.B
