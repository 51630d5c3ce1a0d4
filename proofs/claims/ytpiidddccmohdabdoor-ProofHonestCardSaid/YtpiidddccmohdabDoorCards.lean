/-
  DERIVED. GIVEN WITH THE SEED: THE CARDS: each row of YtpiidddccmohdabDoorRows.lean that lists a variable, with what it lists TIED to the program's text (the seventh form; the later family's looks); each row that meets fmt, with fmt's text TOLD by the authors' own Lean function (tested against real Go, not proved from fmt's source: count such statements apart). THE CARD IS WHAT COUNTS. Prove the row's statement (the work); the ties are given (YtpiidddccmohdabDoorTie.lean); close each card by the builder's one call (the guide's Derived/Test/ToyasCard.lean, 'card_holds'). Laid BY PROGRAM, IN A SANDBOX (cutbox-door.mjs). By AI agents, Wed Nov 11 2026. No macro, syntax, notation, axiom, sorry.
-/
import Derived.Test.YtpiidddccmohdabDoorRows
import GoSem.ClaimSeven
namespace Go.Proofs.YtpiidddccmohdabDoor
namespace Rows

/-- THE TIED CARD OF 'sporranlaw09.ProofApart'. -/
def proofApartCard : Claim7 := { stood := { row := proofApartRow, standIns := [], harness := (true, "1869447aa71637e12ffaf67dc9eba48fdd9d4c462d830df7a5c7029868ef9727"), looks := false }, kinds := [], alts := [], laidByText := true, laidKinds := [.data], laidTests := true, laidLooks := .later }
def ProofApartCardSaid : Prop := Claim7.holds Tryd.pinned (.plain (OpenSpec.ofChange proofApartSpec)) proofApartCard

/-- THE TIED CARD OF 'sporranlaw09.ProofHonest'. -/
def proofHonestCard : Claim7 := { stood := { row := proofHonestRow, standIns := [], harness := (true, "1869447aa71637e12ffaf67dc9eba48fdd9d4c462d830df7a5c7029868ef9727"), looks := false }, kinds := [], alts := [], laidByText := true, laidKinds := [.data], laidTests := true, laidLooks := .later }
def ProofHonestCardSaid : Prop := Claim7.holds Tryd.pinned (.plain (OpenSpec.ofChange proofHonestSpec)) proofHonestCard

/-- THE SECOND FORM's CARD OF 'sporranlaw09.ProofApart'. -/
def proofApartUptoCard : Claim7 := { stood := { row := proofApartUptoRow, standIns := [], harness := (true, "1869447aa71637e12ffaf67dc9eba48fdd9d4c462d830df7a5c7029868ef9727"), looks := false }, kinds := [], alts := [], laidByText := true, laidKinds := [.data], laidTests := true, laidLooks := .later }
def ProofApartUptoCardSaid : Prop := Claim7.holds Tryd.pinned (.plain (OpenSpec.upto proofApartSpec)) proofApartUptoCard

/-- THE SECOND FORM's CARD OF 'sporranlaw09.ProofHonest'. -/
def proofHonestUptoCard : Claim7 := { stood := { row := proofHonestUptoRow, standIns := [], harness := (true, "1869447aa71637e12ffaf67dc9eba48fdd9d4c462d830df7a5c7029868ef9727"), looks := false }, kinds := [], alts := [], laidByText := true, laidKinds := [.data], laidTests := true, laidLooks := .later }
def ProofHonestUptoCardSaid : Prop := Claim7.holds Tryd.pinned (.plain (OpenSpec.upto proofHonestSpec)) proofHonestUptoCard
end Rows
end Go.Proofs.YtpiidddccmohdabDoor
