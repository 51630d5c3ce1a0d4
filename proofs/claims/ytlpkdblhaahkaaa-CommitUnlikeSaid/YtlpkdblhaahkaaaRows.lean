/-
  No cell of these rows narrows 'for every input' (looked for: loops, veiled, ifaces, maps, wideKeys, modest, calm, conditions, laid).
  DERIVED. THE GIVEN ROWS OF THIS SEAT. 4 by the template 'for every input the law returns true; each argument reads behind the call as it read before'; 0 by the template 'total and deterministic' (their statements: YtlpkdblhaahkaaaTotals.lean).
  GIVEN WITH THE SEED: the statements are not yours to turn. If you find one false, say at which input.
  Laid BY PROGRAM, IN A SANDBOX (cutbox-rows.mjs): the forced cells as the released guide's own fill.sh prints them over the translation 4804b2ad9ff017db… (all of the seat's roots in one cut). By AI agents, Wed Nov 11 2026. No macro, syntax, notation, axiom, sorry.
-/
import Derived.Test.YtlpkdblhaahkaaaChecked
import GoSem.Claim
import GoSem.ClaimJoined
import GoSem.ClaimMapViews
import Derived.JoinedTies
import Derived.KernelRfl
namespace Go.Proofs.Ytlpkdblhaahkaaa
/- THE CELL 'sum', in the pinned program and in every row, IS THE sha256 OF THE DUMP (.gsa) THAT YtlpkdblhaahkaaaProg.lean LOADS. Nothing in Lean hashes anything: it is a label: what it is worth is what the hold of that sum in a sandbox is worth. -/
noncomputable def Try.pinned : Pinned := { name := "ytlpkdblhaahkaaa", sum := "4804b2ad9ff017db296c561fd0db651a853b53e22564bef2b0dad8bebc9f3764", checked := Try.checked }
namespace Rows
def none {H : Type} : Left H := { results := [], args := [] }

/-- 'sporranlaw13.CommitReads': WHATEVER THE INPUT: true; the input reads as it did. -/
def commitReadsSpec : ChangeSpec := { name := "commitReads", fn := fun _ => fun
  | [d] => { results := [.lit (.bool true)], args := [d] }
  | _ => none }
def commitReadsRow : OpenClaim := { program := "ytlpkdblhaahkaaa", sum := "4804b2ad9ff017db296c561fd0db651a853b53e22564bef2b0dad8bebc9f3764", func := "sporran/sporranlaw13.CommitReads", spec := "commitReads", unfollowed := true, recurses := true, apart := false }
def CommitReadsSaid : Prop := commitReadsRow.holds Try.pinned (OpenSpec.ofChange commitReadsSpec)

/-- ITS FALSE NEIGHBOUR: 'it returns false'. Refute it at one input. -/
def commitReadsWrong : ChangeSpec := { name := "commitReads", fn := fun _ => fun
  | [d] => { results := [.lit (.bool false)], args := [d] }
  | _ => none }
def CommitReadsWrongFalsely : Prop := commitReadsRow.holds Try.pinned (OpenSpec.ofChange commitReadsWrong)

/-- 'sporranlaw13.CommitUnlike': WHATEVER THE INPUT: true; the input reads as it did. -/
def commitUnlikeSpec : ChangeSpec := { name := "commitUnlike", fn := fun _ => fun
  | [d1, d2, d3] => { results := [.lit (.bool true)], args := [d1, d2, d3] }
  | _ => none }
def commitUnlikeRow : OpenClaim := { program := "ytlpkdblhaahkaaa", sum := "4804b2ad9ff017db296c561fd0db651a853b53e22564bef2b0dad8bebc9f3764", func := "sporran/sporranlaw13.CommitUnlike", spec := "commitUnlike", unfollowed := true, recurses := true, apart := false }
def CommitUnlikeSaid : Prop := commitUnlikeRow.holds Try.pinned (OpenSpec.ofChange commitUnlikeSpec)

/-- ITS FALSE NEIGHBOUR: 'it returns false'. Refute it at one input. -/
def commitUnlikeWrong : ChangeSpec := { name := "commitUnlike", fn := fun _ => fun
  | [d1, d2, d3] => { results := [.lit (.bool false)], args := [d1, d2, d3] }
  | _ => none }
def CommitUnlikeWrongFalsely : Prop := commitUnlikeRow.holds Try.pinned (OpenSpec.ofChange commitUnlikeWrong)

/-- 'sporranlaw13.CommitCodes': WHATEVER THE INPUT: true; the input reads as it did. -/
def commitCodesSpec : ChangeSpec := { name := "commitCodes", fn := fun _ => fun
  | [d] => { results := [.lit (.bool true)], args := [d] }
  | _ => none }
def commitCodesRow : OpenClaim := { program := "ytlpkdblhaahkaaa", sum := "4804b2ad9ff017db296c561fd0db651a853b53e22564bef2b0dad8bebc9f3764", func := "sporran/sporranlaw13.CommitCodes", spec := "commitCodes", unfollowed := true, recurses := true, apart := false }
def CommitCodesSaid : Prop := commitCodesRow.holds Try.pinned (OpenSpec.ofChange commitCodesSpec)

/-- ITS FALSE NEIGHBOUR: 'it returns false'. Refute it at one input. -/
def commitCodesWrong : ChangeSpec := { name := "commitCodes", fn := fun _ => fun
  | [d] => { results := [.lit (.bool false)], args := [d] }
  | _ => none }
def CommitCodesWrongFalsely : Prop := commitCodesRow.holds Try.pinned (OpenSpec.ofChange commitCodesWrong)

/-- 'sporranlaw13.CommitTurned': WHATEVER THE INPUT: true; the input reads as it did. -/
def commitTurnedSpec : ChangeSpec := { name := "commitTurned", fn := fun _ => fun
  | [d1, d2, d3] => { results := [.lit (.bool true)], args := [d1, d2, d3] }
  | _ => none }
def commitTurnedRow : OpenClaim := { program := "ytlpkdblhaahkaaa", sum := "4804b2ad9ff017db296c561fd0db651a853b53e22564bef2b0dad8bebc9f3764", func := "sporran/sporranlaw13.CommitTurned", spec := "commitTurned", unfollowed := true, recurses := true, apart := false }
def CommitTurnedSaid : Prop := commitTurnedRow.holds Try.pinned (OpenSpec.ofChange commitTurnedSpec)

/-- ITS FALSE NEIGHBOUR: 'it returns false'. Refute it at one input. -/
def commitTurnedWrong : ChangeSpec := { name := "commitTurned", fn := fun _ => fun
  | [d1, d2, d3] => { results := [.lit (.bool false)], args := [d1, d2, d3] }
  | _ => none }
def CommitTurnedWrongFalsely : Prop := commitTurnedRow.holds Try.pinned (OpenSpec.ofChange commitTurnedWrong)

/- THE SECOND FORM. 'bulk': how many values and letters a reading holds, each counted each time it is reached (what is shared counts as often as it is met; a slice's spare places count too). A statement '..UptoSaid' is the law's where the arguments, and the package variables that the reading takes, are together of bulk at most 1048576: NARROWER than '..Said'. Prove '..Said' where nothing that the law and all that it calls make is longer than what came in: it says more and counts as full. Else prove '..UptoSaid'. A law counts once. -/
mutual
def uptoBulk {H : Type} : DataW H → Nat
  | .lit (.string bytes) => bytes.length + 1
  | .lit _ => 1
  | .nil => 1
  | .ptr d => uptoBulk d + 1
  | .slice elems spare => uptoBulkAll elems + uptoBulkAll spare + 1
  | .agg parts => uptoBulkAll parts + 1
  | .iface _ d => uptoBulk d + 1
  | .map entries => uptoBulkEntries entries + 1
  | .held _ => 1
def uptoBulkAll {H : Type} : List (DataW H) → Nat
  | [] => 0
  | d :: r => uptoBulk d + uptoBulkAll r
def uptoBulkEntries {H : Type} : List (Lit × DataW H) → Nat
  | [] => 0
  | x :: r => uptoBulkEntry x + uptoBulkEntries r
def uptoBulkEntry {H : Type} : Lit × DataW H → Nat
  | (.string bytes, d) => bytes.length + uptoBulk d + 1
  | (_, d) => uptoBulk d + 1
 end
def uptoSmall : (H : Type) → List (DataW H) → Bool := fun _ ds => decide (uptoBulkAll ds ≤ 1048576)
def OpenSpec.upto (s : _root_.Go.ChangeSpec) : _root_.Go.OpenSpec := { _root_.Go.OpenSpec.ofChange s with cond := some uptoSmall }

/-- 'sporranlaw13.CommitReads', WHERE WHAT IT READS IS OF BULK AT MOST 1048576: true; the input reads as it did. -/
def commitReadsUptoRow : OpenClaim := { program := "ytlpkdblhaahkaaa", sum := "4804b2ad9ff017db296c561fd0db651a853b53e22564bef2b0dad8bebc9f3764", func := "sporran/sporranlaw13.CommitReads", spec := "commitReads", unfollowed := true, recurses := true, apart := false, narrowed := true }
def CommitReadsUptoSaid : Prop := commitReadsUptoRow.holds Try.pinned (OpenSpec.upto commitReadsSpec)

/-- 'sporranlaw13.CommitUnlike', WHERE WHAT IT READS IS OF BULK AT MOST 1048576: true; the input reads as it did. -/
def commitUnlikeUptoRow : OpenClaim := { program := "ytlpkdblhaahkaaa", sum := "4804b2ad9ff017db296c561fd0db651a853b53e22564bef2b0dad8bebc9f3764", func := "sporran/sporranlaw13.CommitUnlike", spec := "commitUnlike", unfollowed := true, recurses := true, apart := false, narrowed := true }
def CommitUnlikeUptoSaid : Prop := commitUnlikeUptoRow.holds Try.pinned (OpenSpec.upto commitUnlikeSpec)

/-- 'sporranlaw13.CommitCodes', WHERE WHAT IT READS IS OF BULK AT MOST 1048576: true; the input reads as it did. -/
def commitCodesUptoRow : OpenClaim := { program := "ytlpkdblhaahkaaa", sum := "4804b2ad9ff017db296c561fd0db651a853b53e22564bef2b0dad8bebc9f3764", func := "sporran/sporranlaw13.CommitCodes", spec := "commitCodes", unfollowed := true, recurses := true, apart := false, narrowed := true }
def CommitCodesUptoSaid : Prop := commitCodesUptoRow.holds Try.pinned (OpenSpec.upto commitCodesSpec)

/-- 'sporranlaw13.CommitTurned', WHERE WHAT IT READS IS OF BULK AT MOST 1048576: true; the input reads as it did. -/
def commitTurnedUptoRow : OpenClaim := { program := "ytlpkdblhaahkaaa", sum := "4804b2ad9ff017db296c561fd0db651a853b53e22564bef2b0dad8bebc9f3764", func := "sporran/sporranlaw13.CommitTurned", spec := "commitTurned", unfollowed := true, recurses := true, apart := false, narrowed := true }
def CommitTurnedUptoSaid : Prop := commitTurnedUptoRow.holds Try.pinned (OpenSpec.upto commitTurnedSpec)

end Rows
end Go.Proofs.Ytlpkdblhaahkaaa
