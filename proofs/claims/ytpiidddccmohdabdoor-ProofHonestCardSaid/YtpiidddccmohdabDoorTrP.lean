/-
  Arguments that are digests, or rows of bytes; the table that start-up lays.
-/
import Derived.Test.YtpiidddccmohdabDoorBits
import Derived.Test.YtpiidddccmohdabDoorTrod
import Derived.Test.YtpiidddccmohdabDoorRowsK
import Derived.Test.YtpiidddccmohdabDoorRows
import Derived.Lib.LaidTab
import Derived.LaidMore
import Derived.OpenShut
import Derived.Stop.Joined
namespace Go.Proofs.YtpiidddccmohdabDoor.B
open Go
set_option linter.unusedVariables false
set_option maxHeartbeats 2000000
set_option maxRecDepth 100000
attribute [local irreducible] W OpsW OpsQ retP
theorem Tr.dig {W : World} {cs : List Value} (h : Tr Tryd.prog W 24 cs) : ∃ d : Dig, cs = dgR d := by
  obtain ⟨ss, hsl, hss⟩ := h.bytesA Tryd.underlying24 Tryd.underlying5 (by kernel_rfl) (by kernel_rfl)
  exact ⟨⟨ss, hsl⟩, hss⟩
theorem trRowsBP {W : World} {cs : List Value} (h : Tr Tryd.prog W 33 cs) : ∃ v xs, cs = [v] ∧ SlR W v 1 (RowB W) xs := by
  obtain ⟨v, xs, e, hx⟩ := h.rows (R := RowB W) Tryd.underlying33 (fun cs' hl h' => by
    obtain ⟨v, ps, e, hv⟩ := h'.bytes Tryd.underlying25 Tryd.underlying5 (by kernel_rfl)
    exact ⟨ps, v, e, hv⟩)
  have hc : Tryd.prog.cellsOf 25 = 1 := by kernel_rfl
  rw [hc] at hx; exact ⟨v, xs, e, hx⟩
def laidTabB : List (String × DataW Unit) := [("math/bits.deBruijn32tab", Rows.laid_math_bits_deBruijn32tab)]
theorem gTab : Tryd.prog.globalNamed "math/bits.deBruijn32tab" = some 0 := by kernel_rfl
theorem tTab : (Tryd.prog.globals[0]?).map (·.type) = some 23 := by kernel_rfl
theorem tab_of {W : World} (h : laidMetH Tryd.prog laidTabB W) : TabB W := by
  rw [MakeChecks.laidMetH_plain _ _ _ (by kernel_rfl)] at h
  have hI := Lib.tabIs_of_head (k := .u8) (zs := deB) (rest := []) gTab tTab Tryd.underlying23 Tryd.underlying5 (by kernel_rfl) (by kernel_rfl) h
  exact fun i hi => hI.cell gTab i hi
/-- The door's own heap meets the condition. -/
theorem door_met (os : Os) (args : Array Value) : laidMetH Tryd.prog laidTabB ((World.doorLaid Tryd.prog 14 os).forCall (fun _ _ => 0) ⟨#[], args, []⟩).memory :=
  laidMetH_of_parts3 (fuel := 8) (laidMet_of_run' 8 (by kernel_rfl) (by kernel_rfl)) (by kernel_rfl) (by kernel_rfl)
end Go.Proofs.YtpiidddccmohdabDoor.B
