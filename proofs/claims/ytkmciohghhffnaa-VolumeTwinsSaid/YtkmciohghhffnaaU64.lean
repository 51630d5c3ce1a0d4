/-
  Ints as 64 bits.
-/
import Derived.Test.YtkmciohghhffnaaMBase
namespace Go.Proofs.Ytkmciohghhffnaa.B
open Go
set_option linter.unusedVariables false
set_option maxHeartbeats 2000000
set_option maxRecDepth 100000
attribute [local irreducible] W OpsW OpsQ retP
/-- An int as 64 bits. -/
def u64 (z : Int) : Nat := (z % 18446744073709551616).toNat
theorem u64_lt (z : Int) : u64 z < 2 ^ 64 := by unfold u64; omega
theorem u64_nat {n : Nat} (h : n < 2 ^ 64) : u64 (n : Int) = n := by unfold u64; omega
theorem conv_u64 (z : Int) : Value.int .u64 (IntKind.u64.wrap z) = .int .u64 (u64 z : Nat) := by rw [wrap_u64]; unfold u64; congr 1; omega
end Go.Proofs.Ytkmciohghhffnaa.B
