/-
  What the seat's table of types tells of uint64.
-/
import Derived.Test.YtkmciohghhffnaaTys
namespace Go.Proofs.Ytkmciohghhffnaa.B
open Go
theorem ti_u64 : tinfo Try.prog 73 = some (some (.int .u64 0), 1, 8) := by kernel_rfl
def c64 (n : Nat) : Value := .int .u64 (n : Int)
theorem one_c64 (n : Nat) : one (c64 n) = true := rfl
theorem all_c64 (ws : List Nat) : (ws.map c64).all one = true := by simp [one_c64]
end Go.Proofs.Ytkmciohghhffnaa.B
