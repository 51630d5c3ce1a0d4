/-
  No cell of these rows narrows 'for every input' (looked for: loops, veiled, ifaces, maps, wideKeys, modest, calm, conditions, laid).
  DERIVED. THE GIVEN ROWS OF THIS SEAT. 5 by the template 'for every input the law returns true; each argument reads behind the call as it read before'; 0 by the template 'total and deterministic' (their statements: YtigehkfdfecfoaaTotals.lean).
  GIVEN WITH THE SEED: the statements are not yours to turn. If you find one false, say at which input.
  Laid BY PROGRAM, IN A SANDBOX (cutbox-rows.mjs): the forced cells as the released guide's own fill.sh prints them over the translation 0851ed3128378762… (all of the seat's roots in one cut). By AI agents, Wed Nov 11 2026. No macro, syntax, notation, axiom, sorry.
-/
import Derived.Test.YtigehkfdfecfoaaChecked
import GoSem.Claim
import GoSem.ClaimJoined
import GoSem.ClaimMapViews
import Derived.JoinedTies
import Derived.KernelRfl
namespace Go.Proofs.Ytigehkfdfecfoaa
/- THE CELL 'sum', in the pinned program and in every row, IS THE sha256 OF THE DUMP (.gsa) THAT YtigehkfdfecfoaaProg.lean LOADS. Nothing in Lean hashes anything: it is a label: what it is worth is what the hold of that sum in a sandbox is worth. -/
noncomputable def Try.pinned : Pinned := { name := "ytigehkfdfecfoaa", sum := "0851ed3128378762e32dbc74295fed028add0dfaa722285ab8e06680324d0195", checked := Try.checked }
namespace Rows
def none {H : Type} : Left H := { results := [], args := [] }

/-- 'sporranlaw10.BinWrites': WHATEVER THE INPUT: true; the input reads as it did. -/
def binWritesSpec : ChangeSpec := { name := "binWrites", fn := fun _ => fun
  | [d1, d2, d3, d4] => { results := [.lit (.bool true)], args := [d1, d2, d3, d4] }
  | _ => none }
def binWritesRow : OpenClaim := { program := "ytigehkfdfecfoaa", sum := "0851ed3128378762e32dbc74295fed028add0dfaa722285ab8e06680324d0195", func := "sporran/sporranlaw10.BinWrites", spec := "binWrites", unfollowed := true, recurses := true, apart := false }
def BinWritesSaid : Prop := binWritesRow.holds Try.pinned (OpenSpec.ofChange binWritesSpec)

/-- ITS FALSE NEIGHBOUR: 'it returns false'. Refute it at one input. -/
def binWritesWrong : ChangeSpec := { name := "binWrites", fn := fun _ => fun
  | [d1, d2, d3, d4] => { results := [.lit (.bool false)], args := [d1, d2, d3, d4] }
  | _ => none }
def BinWritesWrongFalsely : Prop := binWritesRow.holds Try.pinned (OpenSpec.ofChange binWritesWrong)

/-- 'sporranlaw10.BinTurned': WHATEVER THE INPUT: true; the input reads as it did. -/
def binTurnedSpec : ChangeSpec := { name := "binTurned", fn := fun _ => fun
  | [d1, d2, d3, d4] => { results := [.lit (.bool true)], args := [d1, d2, d3, d4] }
  | _ => none }
def binTurnedRow : OpenClaim := { program := "ytigehkfdfecfoaa", sum := "0851ed3128378762e32dbc74295fed028add0dfaa722285ab8e06680324d0195", func := "sporran/sporranlaw10.BinTurned", spec := "binTurned", unfollowed := true, recurses := true, apart := false }
def BinTurnedSaid : Prop := binTurnedRow.holds Try.pinned (OpenSpec.ofChange binTurnedSpec)

/-- ITS FALSE NEIGHBOUR: 'it returns false'. Refute it at one input. -/
def binTurnedWrong : ChangeSpec := { name := "binTurned", fn := fun _ => fun
  | [d1, d2, d3, d4] => { results := [.lit (.bool false)], args := [d1, d2, d3, d4] }
  | _ => none }
def BinTurnedWrongFalsely : Prop := binTurnedRow.holds Try.pinned (OpenSpec.ofChange binTurnedWrong)

/-- 'sporranlaw10.BinCodes': WHATEVER THE INPUT: true; the input reads as it did. -/
def binCodesSpec : ChangeSpec := { name := "binCodes", fn := fun _ => fun
  | [d1, d2] => { results := [.lit (.bool true)], args := [d1, d2] }
  | _ => none }
def binCodesRow : OpenClaim := { program := "ytigehkfdfecfoaa", sum := "0851ed3128378762e32dbc74295fed028add0dfaa722285ab8e06680324d0195", func := "sporran/sporranlaw10.BinCodes", spec := "binCodes", unfollowed := true, recurses := true, apart := false }
def BinCodesSaid : Prop := binCodesRow.holds Try.pinned (OpenSpec.ofChange binCodesSpec)

/-- ITS FALSE NEIGHBOUR: 'it returns false'. Refute it at one input. -/
def binCodesWrong : ChangeSpec := { name := "binCodes", fn := fun _ => fun
  | [d1, d2] => { results := [.lit (.bool false)], args := [d1, d2] }
  | _ => none }
def BinCodesWrongFalsely : Prop := binCodesRow.holds Try.pinned (OpenSpec.ofChange binCodesWrong)

/-- 'sporranlaw17.AuditChecks': WHATEVER THE INPUT: true; the input reads as it did. -/
def auditChecksSpec : ChangeSpec := { name := "auditChecks", fn := fun _ => fun
  | [d1, d2, d3] => { results := [.lit (.bool true)], args := [d1, d2, d3] }
  | _ => none }
def auditChecksRow : OpenClaim := { program := "ytigehkfdfecfoaa", sum := "0851ed3128378762e32dbc74295fed028add0dfaa722285ab8e06680324d0195", func := "sporran/sporranlaw17.AuditChecks", spec := "auditChecks", unfollowed := true, recurses := true, apart := false }
def AuditChecksSaid : Prop := auditChecksRow.holds Try.pinned (OpenSpec.ofChange auditChecksSpec)

/-- ITS FALSE NEIGHBOUR: 'it returns false'. Refute it at one input. -/
def auditChecksWrong : ChangeSpec := { name := "auditChecks", fn := fun _ => fun
  | [d1, d2, d3] => { results := [.lit (.bool false)], args := [d1, d2, d3] }
  | _ => none }
def AuditChecksWrongFalsely : Prop := auditChecksRow.holds Try.pinned (OpenSpec.ofChange auditChecksWrong)

/-- 'sporranlaw17.AuditFork': WHATEVER THE INPUT: true; the input reads as it did. -/
def auditForkSpec : ChangeSpec := { name := "auditFork", fn := fun _ => fun
  | [d1, d2, d3, d4] => { results := [.lit (.bool true)], args := [d1, d2, d3, d4] }
  | _ => none }
def auditForkRow : OpenClaim := { program := "ytigehkfdfecfoaa", sum := "0851ed3128378762e32dbc74295fed028add0dfaa722285ab8e06680324d0195", func := "sporran/sporranlaw17.AuditFork", spec := "auditFork", unfollowed := true, recurses := true, apart := false }
def AuditForkSaid : Prop := auditForkRow.holds Try.pinned (OpenSpec.ofChange auditForkSpec)

/-- ITS FALSE NEIGHBOUR: 'it returns false'. Refute it at one input. -/
def auditForkWrong : ChangeSpec := { name := "auditFork", fn := fun _ => fun
  | [d1, d2, d3, d4] => { results := [.lit (.bool false)], args := [d1, d2, d3, d4] }
  | _ => none }
def AuditForkWrongFalsely : Prop := auditForkRow.holds Try.pinned (OpenSpec.ofChange auditForkWrong)

/- THE SECOND FORM. 'bulk': how many values and letters a reading holds, each counted each time it is reached (what is shared counts as often as it is met; a slice's spare places count too). A statement '..UptoSaid' is the law's where the arguments, and the package variables that the reading takes, are together of bulk at most 1048576: NARROWER than '..Said'. Prove '..Said' where nothing that the law and all that it calls make is longer than what came in: it says more and counts as full. Else prove '..UptoSaid'. A law counts once. -/
mutual
def uptoBulk {H : Type} : DataW H → Nat
  | .lit (.string bytes) => bytes.length + 1
  | .lit _ => 1
  | .nil => 1
  | .ptr d => uptoBulk d + 1
  | .slice elems spare => uptoBulkAll elems + uptoBulkAll spare + 1
  | .agg parts => uptoBulkAll parts + 1
  | .iface _ d => uptoBulk d + 1
  | .map entries => uptoBulkEntries entries + 1
  | .held _ => 1
def uptoBulkAll {H : Type} : List (DataW H) → Nat
  | [] => 0
  | d :: r => uptoBulk d + uptoBulkAll r
def uptoBulkEntries {H : Type} : List (Lit × DataW H) → Nat
  | [] => 0
  | x :: r => uptoBulkEntry x + uptoBulkEntries r
def uptoBulkEntry {H : Type} : Lit × DataW H → Nat
  | (.string bytes, d) => bytes.length + uptoBulk d + 1
  | (_, d) => uptoBulk d + 1
 end
def uptoSmall : (H : Type) → List (DataW H) → Bool := fun _ ds => decide (uptoBulkAll ds ≤ 1048576)
def OpenSpec.upto (s : _root_.Go.ChangeSpec) : _root_.Go.OpenSpec := { _root_.Go.OpenSpec.ofChange s with cond := some uptoSmall }

/-- 'sporranlaw10.BinWrites', WHERE WHAT IT READS IS OF BULK AT MOST 1048576: true; the input reads as it did. -/
def binWritesUptoRow : OpenClaim := { program := "ytigehkfdfecfoaa", sum := "0851ed3128378762e32dbc74295fed028add0dfaa722285ab8e06680324d0195", func := "sporran/sporranlaw10.BinWrites", spec := "binWrites", unfollowed := true, recurses := true, apart := false, narrowed := true }
def BinWritesUptoSaid : Prop := binWritesUptoRow.holds Try.pinned (OpenSpec.upto binWritesSpec)

/-- 'sporranlaw10.BinTurned', WHERE WHAT IT READS IS OF BULK AT MOST 1048576: true; the input reads as it did. -/
def binTurnedUptoRow : OpenClaim := { program := "ytigehkfdfecfoaa", sum := "0851ed3128378762e32dbc74295fed028add0dfaa722285ab8e06680324d0195", func := "sporran/sporranlaw10.BinTurned", spec := "binTurned", unfollowed := true, recurses := true, apart := false, narrowed := true }
def BinTurnedUptoSaid : Prop := binTurnedUptoRow.holds Try.pinned (OpenSpec.upto binTurnedSpec)

/-- 'sporranlaw10.BinCodes', WHERE WHAT IT READS IS OF BULK AT MOST 1048576: true; the input reads as it did. -/
def binCodesUptoRow : OpenClaim := { program := "ytigehkfdfecfoaa", sum := "0851ed3128378762e32dbc74295fed028add0dfaa722285ab8e06680324d0195", func := "sporran/sporranlaw10.BinCodes", spec := "binCodes", unfollowed := true, recurses := true, apart := false, narrowed := true }
def BinCodesUptoSaid : Prop := binCodesUptoRow.holds Try.pinned (OpenSpec.upto binCodesSpec)

/-- 'sporranlaw17.AuditChecks', WHERE WHAT IT READS IS OF BULK AT MOST 1048576: true; the input reads as it did. -/
def auditChecksUptoRow : OpenClaim := { program := "ytigehkfdfecfoaa", sum := "0851ed3128378762e32dbc74295fed028add0dfaa722285ab8e06680324d0195", func := "sporran/sporranlaw17.AuditChecks", spec := "auditChecks", unfollowed := true, recurses := true, apart := false, narrowed := true }
def AuditChecksUptoSaid : Prop := auditChecksUptoRow.holds Try.pinned (OpenSpec.upto auditChecksSpec)

/-- 'sporranlaw17.AuditFork', WHERE WHAT IT READS IS OF BULK AT MOST 1048576: true; the input reads as it did. -/
def auditForkUptoRow : OpenClaim := { program := "ytigehkfdfecfoaa", sum := "0851ed3128378762e32dbc74295fed028add0dfaa722285ab8e06680324d0195", func := "sporran/sporranlaw17.AuditFork", spec := "auditFork", unfollowed := true, recurses := true, apart := false, narrowed := true }
def AuditForkUptoSaid : Prop := auditForkUptoRow.holds Try.pinned (OpenSpec.upto auditForkSpec)

end Rows
end Go.Proofs.Ytigehkfdfecfoaa
