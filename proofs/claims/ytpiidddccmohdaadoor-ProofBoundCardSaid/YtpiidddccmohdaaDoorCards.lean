/-
  DERIVED. GIVEN WITH THE SEED: THE CARDS: each row of YtpiidddccmohdaaDoorRows.lean that lists a variable, with what it lists TIED to the program's text (the seventh form; the later family's looks); each row that meets fmt, with fmt's text TOLD by the authors' own Lean function (tested against real Go, not proved from fmt's source: count such statements apart). THE CARD IS WHAT COUNTS. Prove the row's statement (the work); the ties are given (YtpiidddccmohdaaDoorTie.lean); close each card by the builder's one call (the guide's Derived/Test/ToyasCard.lean, 'card_holds'). Laid BY PROGRAM, IN A SANDBOX (cutbox-door.mjs). By AI agents, Wed Nov 11 2026. No macro, syntax, notation, axiom, sorry.
-/
import Derived.Test.YtpiidddccmohdaaDoorRows
import GoSem.ClaimSeven
namespace Go.Proofs.YtpiidddccmohdaaDoor
namespace Rows

/-- THE TIED CARD OF 'sporranlaw09.ProofChecks'. -/
def proofChecksCard : Claim7 := { stood := { row := proofChecksRow, standIns := [], harness := (true, "2fff77046e7fe93de67aa89eb861f0ee65c13474e721eb3a3c1f03e6bf0febb6"), looks := false }, kinds := [], alts := [], laidByText := true, laidKinds := [.data], laidTests := true, laidLooks := .later }
def ProofChecksCardSaid : Prop := Claim7.holds Tryd.pinned (.plain (OpenSpec.ofChange proofChecksSpec)) proofChecksCard

/-- THE TIED CARD OF 'sporranlaw09.ProofBound'. -/
def proofBoundCard : Claim7 := { stood := { row := proofBoundRow, standIns := [], harness := (true, "2fff77046e7fe93de67aa89eb861f0ee65c13474e721eb3a3c1f03e6bf0febb6"), looks := false }, kinds := [], alts := [], laidByText := true, laidKinds := [.data], laidTests := true, laidLooks := .later }
def ProofBoundCardSaid : Prop := Claim7.holds Tryd.pinned (.plain (OpenSpec.ofChange proofBoundSpec)) proofBoundCard

/-- THE SECOND FORM's CARD OF 'sporranlaw09.ProofChecks'. -/
def proofChecksUptoCard : Claim7 := { stood := { row := proofChecksUptoRow, standIns := [], harness := (true, "2fff77046e7fe93de67aa89eb861f0ee65c13474e721eb3a3c1f03e6bf0febb6"), looks := false }, kinds := [], alts := [], laidByText := true, laidKinds := [.data], laidTests := true, laidLooks := .later }
def ProofChecksUptoCardSaid : Prop := Claim7.holds Tryd.pinned (.plain (OpenSpec.upto proofChecksSpec)) proofChecksUptoCard

/-- THE SECOND FORM's CARD OF 'sporranlaw09.ProofBound'. -/
def proofBoundUptoCard : Claim7 := { stood := { row := proofBoundUptoRow, standIns := [], harness := (true, "2fff77046e7fe93de67aa89eb861f0ee65c13474e721eb3a3c1f03e6bf0febb6"), looks := false }, kinds := [], alts := [], laidByText := true, laidKinds := [.data], laidTests := true, laidLooks := .later }
def ProofBoundUptoCardSaid : Prop := Claim7.holds Tryd.pinned (.plain (OpenSpec.upto proofBoundSpec)) proofBoundUptoCard
end Rows
end Go.Proofs.YtpiidddccmohdaaDoor
