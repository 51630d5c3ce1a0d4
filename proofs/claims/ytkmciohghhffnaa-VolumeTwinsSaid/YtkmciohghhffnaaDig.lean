/-
  Digests.
-/
import Derived.Test.YtkmciohghhffnaaFlat
namespace Go.Proofs.Ytkmciohghhffnaa.B
open Go
set_option linter.unusedVariables false
/-- A digest. -/
abbrev Dig := {l : List UInt8 // l.length = 32}
def Dig.zero : Dig := ⟨List.replicate 32 0, by simp⟩
/-- A digest's cells. -/
def dgR (d : Dig) : List Value := d.val.map c8
theorem dgR_len (d : Dig) : (dgR d).length = 32 := by unfold dgR; rw [List.length_map, d.2]
theorem dgR_one (d : Dig) : (dgR d).all one = true := all_c8 _
set_option maxRecDepth 20000 in
theorem okC_dgR (d : Dig) : okC Try.prog 2 41 (dgR d) := okC_bytes (by kernel_rfl) (by kernel_rfl) (show tinfo Try.prog 5 = some (some (.int .u8 0), 1, 1) from by kernel_rfl) d.val d.2
theorem dgR_inj {a b : Dig} : dgR a = dgR b ↔ a = b := ⟨fun h => Subtype.ext (c8_inj.1 h), fun h => by rw [h]⟩
end Go.Proofs.Ytkmciohghhffnaa.B
