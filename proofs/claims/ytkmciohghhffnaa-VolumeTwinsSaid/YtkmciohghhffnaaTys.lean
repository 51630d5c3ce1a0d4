/-
  What the seat's table of types tells of the types that these texts use.
-/
import Derived.Test.YtkmciohghhffnaaChecked
import Derived.Test.YtkmciohghhffnaaDraw
namespace Go.Proofs.Ytkmciohghhffnaa.B
open Go
theorem ti_u8 : tinfo Try.prog 5 = some (some (.int .u8 0), 1, 1) := by kernel_rfl
theorem ti_bool : tinfo Try.prog 4 = some (some (.bool false), 1, 1) := by kernel_rfl
theorem ti_int : tinfo Try.prog 3 = some (some (.int .i64 0), 1, 8) := by kernel_rfl
end Go.Proofs.Ytkmciohghhffnaa.B
