/-
  A byte of a sector, changed.
-/
import Derived.Test.YtigehkfdfecfoaaMDisk
namespace Go.Proofs.Ytigehkfdfecfoaa.B
open Go
set_option linter.unusedVariables false
set_option maxHeartbeats 2000000
set_option maxRecDepth 100000
attribute [local irreducible] W OpsW OpsQ retP
/-- A byte of a sector, changed. -/
def turnS (s : Sec) (j : Nat) (t : UInt8) : Sec := ⟨s.val.set j (s.val.getD j 0 ^^^ t), by rw [List.length_set]; exact s.2⟩
theorem secR_turn (s : Sec) (j : Nat) (t : UInt8) : (secR s).set j (c8 (s.val.getD j 0 ^^^ t)) = secR (turnS s j t) := by unfold secR turnS; rw [List.map_set]
theorem turnS_other (s : Sec) (j : Nat) (t : UInt8) : ∀ i, i ≠ j → (turnS s j t).val[i]? = s.val[i]? := fun i hi => by unfold turnS; exact List.getElem?_set_ne (Ne.symm hi)
end Go.Proofs.Ytigehkfdfecfoaa.B
