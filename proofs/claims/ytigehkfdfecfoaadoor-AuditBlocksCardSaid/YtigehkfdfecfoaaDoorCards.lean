/-
  DERIVED. GIVEN WITH THE SEED: THE CARDS: each row of YtigehkfdfecfoaaDoorRows.lean that lists a variable, with what it lists TIED to the program's text (the seventh form; the later family's looks); each row that meets fmt, with fmt's text TOLD by the authors' own Lean function (tested against real Go, not proved from fmt's source: count such statements apart). THE CARD IS WHAT COUNTS. Prove the row's statement (the work); the ties are given (YtigehkfdfecfoaaDoorTie.lean); close each card by the builder's one call (the guide's Derived/Test/ToyasCard.lean, 'card_holds'). Laid BY PROGRAM, IN A SANDBOX (cutbox-door.mjs). By AI agents, Wed Nov 11 2026. No macro, syntax, notation, axiom, sorry.
-/
import Derived.Test.YtigehkfdfecfoaaDoorRows
import GoSem.ClaimSeven
namespace Go.Proofs.YtigehkfdfecfoaaDoor
namespace Rows

/-- THE TIED CARD OF 'sporranlaw17.AuditBlocks'. -/
def auditBlocksCard : Claim7 := { stood := { row := auditBlocksRow, standIns := [], harness := (true, "c79719f20a5ff0bbeebe6ed3975f6895b08fdc42c30cc01f2236c45af2f847f1"), looks := false }, kinds := [], alts := [], laidByText := true, laidKinds := [.data], laidTests := true, laidLooks := .later }
def AuditBlocksCardSaid : Prop := Claim7.holds Tryd.pinned (.plain (OpenSpec.ofChange auditBlocksSpec)) auditBlocksCard

/-- THE SECOND FORM's CARD OF 'sporranlaw17.AuditBlocks'. -/
def auditBlocksUptoCard : Claim7 := { stood := { row := auditBlocksUptoRow, standIns := [], harness := (true, "c79719f20a5ff0bbeebe6ed3975f6895b08fdc42c30cc01f2236c45af2f847f1"), looks := false }, kinds := [], alts := [], laidByText := true, laidKinds := [.data], laidTests := true, laidLooks := .later }
def AuditBlocksUptoCardSaid : Prop := Claim7.holds Tryd.pinned (.plain (OpenSpec.upto auditBlocksSpec)) auditBlocksUptoCard
end Rows
end Go.Proofs.YtigehkfdfecfoaaDoor
