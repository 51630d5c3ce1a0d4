/-
  No cell of these rows narrows 'for every input' (looked for: loops, veiled, ifaces, maps, wideKeys, modest, calm, conditions, laid).
  DERIVED. THE GIVEN ROWS OF THIS SEAT. 5 by the template 'for every input the law returns true; each argument reads behind the call as it read before'; 0 by the template 'total and deterministic' (their statements: YtdjndaodggecjaaTotals.lean).
  GIVEN WITH THE SEED: the statements are not yours to turn. If you find one false, say at which input.
  Laid BY PROGRAM, IN A SANDBOX (cutbox-rows.mjs): the forced cells as the released guide's own fill.sh prints them over the translation 62ff7f408fb9da01… (all of the seat's roots in one cut). By AI agents, Wed Nov 11 2026. No macro, syntax, notation, axiom, sorry.
-/
import Derived.Test.YtdjndaodggecjaaChecked
import GoSem.Claim
import GoSem.ClaimJoined
import GoSem.ClaimMapViews
import Derived.JoinedTies
import Derived.KernelRfl
namespace Go.Proofs.Ytdjndaodggecjaa
/- THE CELL 'sum', in the pinned program and in every row, IS THE sha256 OF THE DUMP (.gsa) THAT YtdjndaodggecjaaProg.lean LOADS. Nothing in Lean hashes anything: it is a label: what it is worth is what the hold of that sum in a sandbox is worth. -/
noncomputable def Try.pinned : Pinned := { name := "ytdjndaodggecjaa", sum := "62ff7f408fb9da013cb88b79e6be46018dd7e509937ba49f9a917ba2f78eedcd", checked := Try.checked }
namespace Rows
def none {H : Type} : Left H := { results := [], args := [] }

/-- 'sporranlaw07.BlobReads': WHATEVER THE INPUT: true; the input reads as it did. -/
def blobReadsSpec : ChangeSpec := { name := "blobReads", fn := fun _ => fun
  | [d1, d2, d3] => { results := [.lit (.bool true)], args := [d1, d2, d3] }
  | _ => none }
def blobReadsRow : OpenClaim := { program := "ytdjndaodggecjaa", sum := "62ff7f408fb9da013cb88b79e6be46018dd7e509937ba49f9a917ba2f78eedcd", func := "sporran/sporranlaw07.BlobReads", spec := "blobReads", unfollowed := true, recurses := true, apart := false }
def BlobReadsSaid : Prop := blobReadsRow.holds Try.pinned (OpenSpec.ofChange blobReadsSpec)

/-- ITS FALSE NEIGHBOUR: 'it returns false'. Refute it at one input. -/
def blobReadsWrong : ChangeSpec := { name := "blobReads", fn := fun _ => fun
  | [d1, d2, d3] => { results := [.lit (.bool false)], args := [d1, d2, d3] }
  | _ => none }
def BlobReadsWrongFalsely : Prop := blobReadsRow.holds Try.pinned (OpenSpec.ofChange blobReadsWrong)

/-- 'sporranlaw07.BlobWrites': WHATEVER THE INPUT: true; the input reads as it did. -/
def blobWritesSpec : ChangeSpec := { name := "blobWrites", fn := fun _ => fun
  | [d1, d2, d3] => { results := [.lit (.bool true)], args := [d1, d2, d3] }
  | _ => none }
def blobWritesRow : OpenClaim := { program := "ytdjndaodggecjaa", sum := "62ff7f408fb9da013cb88b79e6be46018dd7e509937ba49f9a917ba2f78eedcd", func := "sporran/sporranlaw07.BlobWrites", spec := "blobWrites", unfollowed := true, recurses := true, apart := false }
def BlobWritesSaid : Prop := blobWritesRow.holds Try.pinned (OpenSpec.ofChange blobWritesSpec)

/-- ITS FALSE NEIGHBOUR: 'it returns false'. Refute it at one input. -/
def blobWritesWrong : ChangeSpec := { name := "blobWrites", fn := fun _ => fun
  | [d1, d2, d3] => { results := [.lit (.bool false)], args := [d1, d2, d3] }
  | _ => none }
def BlobWritesWrongFalsely : Prop := blobWritesRow.holds Try.pinned (OpenSpec.ofChange blobWritesWrong)

/-- 'sporranlaw07.BlobFound': WHATEVER THE INPUT: true; the input reads as it did. -/
def blobFoundSpec : ChangeSpec := { name := "blobFound", fn := fun _ => fun
  | [d1, d2, d3] => { results := [.lit (.bool true)], args := [d1, d2, d3] }
  | _ => none }
def blobFoundRow : OpenClaim := { program := "ytdjndaodggecjaa", sum := "62ff7f408fb9da013cb88b79e6be46018dd7e509937ba49f9a917ba2f78eedcd", func := "sporran/sporranlaw07.BlobFound", spec := "blobFound", unfollowed := true, recurses := true, apart := false }
def BlobFoundSaid : Prop := blobFoundRow.holds Try.pinned (OpenSpec.ofChange blobFoundSpec)

/-- ITS FALSE NEIGHBOUR: 'it returns false'. Refute it at one input. -/
def blobFoundWrong : ChangeSpec := { name := "blobFound", fn := fun _ => fun
  | [d1, d2, d3] => { results := [.lit (.bool false)], args := [d1, d2, d3] }
  | _ => none }
def BlobFoundWrongFalsely : Prop := blobFoundRow.holds Try.pinned (OpenSpec.ofChange blobFoundWrong)

/-- 'sporranlaw07.BlobTurned': WHATEVER THE INPUT: true; the input reads as it did. -/
def blobTurnedSpec : ChangeSpec := { name := "blobTurned", fn := fun _ => fun
  | [d1, d2, d3] => { results := [.lit (.bool true)], args := [d1, d2, d3] }
  | _ => none }
def blobTurnedRow : OpenClaim := { program := "ytdjndaodggecjaa", sum := "62ff7f408fb9da013cb88b79e6be46018dd7e509937ba49f9a917ba2f78eedcd", func := "sporran/sporranlaw07.BlobTurned", spec := "blobTurned", unfollowed := true, recurses := true, apart := false }
def BlobTurnedSaid : Prop := blobTurnedRow.holds Try.pinned (OpenSpec.ofChange blobTurnedSpec)

/-- ITS FALSE NEIGHBOUR: 'it returns false'. Refute it at one input. -/
def blobTurnedWrong : ChangeSpec := { name := "blobTurned", fn := fun _ => fun
  | [d1, d2, d3] => { results := [.lit (.bool false)], args := [d1, d2, d3] }
  | _ => none }
def BlobTurnedWrongFalsely : Prop := blobTurnedRow.holds Try.pinned (OpenSpec.ofChange blobTurnedWrong)

/-- 'sporranlaw07.BlobRefs': WHATEVER THE INPUT: true; the input reads as it did. -/
def blobRefsSpec : ChangeSpec := { name := "blobRefs", fn := fun _ => fun
  | [d1, d2] => { results := [.lit (.bool true)], args := [d1, d2] }
  | _ => none }
def blobRefsRow : OpenClaim := { program := "ytdjndaodggecjaa", sum := "62ff7f408fb9da013cb88b79e6be46018dd7e509937ba49f9a917ba2f78eedcd", func := "sporran/sporranlaw07.BlobRefs", spec := "blobRefs", unfollowed := true, recurses := true, apart := false }
def BlobRefsSaid : Prop := blobRefsRow.holds Try.pinned (OpenSpec.ofChange blobRefsSpec)

/-- ITS FALSE NEIGHBOUR: 'it returns false'. Refute it at one input. -/
def blobRefsWrong : ChangeSpec := { name := "blobRefs", fn := fun _ => fun
  | [d1, d2] => { results := [.lit (.bool false)], args := [d1, d2] }
  | _ => none }
def BlobRefsWrongFalsely : Prop := blobRefsRow.holds Try.pinned (OpenSpec.ofChange blobRefsWrong)

/- THE SECOND FORM. 'bulk': how many values and letters a reading holds, each counted each time it is reached (what is shared counts as often as it is met; a slice's spare places count too). A statement '..UptoSaid' is the law's where the arguments, and the package variables that the reading takes, are together of bulk at most 1048576: NARROWER than '..Said'. Prove '..Said' where nothing that the law and all that it calls make is longer than what came in: it says more and counts as full. Else prove '..UptoSaid'. A law counts once. -/
mutual
def uptoBulk {H : Type} : DataW H → Nat
  | .lit (.string bytes) => bytes.length + 1
  | .lit _ => 1
  | .nil => 1
  | .ptr d => uptoBulk d + 1
  | .slice elems spare => uptoBulkAll elems + uptoBulkAll spare + 1
  | .agg parts => uptoBulkAll parts + 1
  | .iface _ d => uptoBulk d + 1
  | .map entries => uptoBulkEntries entries + 1
  | .held _ => 1
def uptoBulkAll {H : Type} : List (DataW H) → Nat
  | [] => 0
  | d :: r => uptoBulk d + uptoBulkAll r
def uptoBulkEntries {H : Type} : List (Lit × DataW H) → Nat
  | [] => 0
  | x :: r => uptoBulkEntry x + uptoBulkEntries r
def uptoBulkEntry {H : Type} : Lit × DataW H → Nat
  | (.string bytes, d) => bytes.length + uptoBulk d + 1
  | (_, d) => uptoBulk d + 1
 end
def uptoSmall : (H : Type) → List (DataW H) → Bool := fun _ ds => decide (uptoBulkAll ds ≤ 1048576)
def OpenSpec.upto (s : _root_.Go.ChangeSpec) : _root_.Go.OpenSpec := { _root_.Go.OpenSpec.ofChange s with cond := some uptoSmall }

/-- 'sporranlaw07.BlobReads', WHERE WHAT IT READS IS OF BULK AT MOST 1048576: true; the input reads as it did. -/
def blobReadsUptoRow : OpenClaim := { program := "ytdjndaodggecjaa", sum := "62ff7f408fb9da013cb88b79e6be46018dd7e509937ba49f9a917ba2f78eedcd", func := "sporran/sporranlaw07.BlobReads", spec := "blobReads", unfollowed := true, recurses := true, apart := false, narrowed := true }
def BlobReadsUptoSaid : Prop := blobReadsUptoRow.holds Try.pinned (OpenSpec.upto blobReadsSpec)

/-- 'sporranlaw07.BlobWrites', WHERE WHAT IT READS IS OF BULK AT MOST 1048576: true; the input reads as it did. -/
def blobWritesUptoRow : OpenClaim := { program := "ytdjndaodggecjaa", sum := "62ff7f408fb9da013cb88b79e6be46018dd7e509937ba49f9a917ba2f78eedcd", func := "sporran/sporranlaw07.BlobWrites", spec := "blobWrites", unfollowed := true, recurses := true, apart := false, narrowed := true }
def BlobWritesUptoSaid : Prop := blobWritesUptoRow.holds Try.pinned (OpenSpec.upto blobWritesSpec)

/-- 'sporranlaw07.BlobFound', WHERE WHAT IT READS IS OF BULK AT MOST 1048576: true; the input reads as it did. -/
def blobFoundUptoRow : OpenClaim := { program := "ytdjndaodggecjaa", sum := "62ff7f408fb9da013cb88b79e6be46018dd7e509937ba49f9a917ba2f78eedcd", func := "sporran/sporranlaw07.BlobFound", spec := "blobFound", unfollowed := true, recurses := true, apart := false, narrowed := true }
def BlobFoundUptoSaid : Prop := blobFoundUptoRow.holds Try.pinned (OpenSpec.upto blobFoundSpec)

/-- 'sporranlaw07.BlobTurned', WHERE WHAT IT READS IS OF BULK AT MOST 1048576: true; the input reads as it did. -/
def blobTurnedUptoRow : OpenClaim := { program := "ytdjndaodggecjaa", sum := "62ff7f408fb9da013cb88b79e6be46018dd7e509937ba49f9a917ba2f78eedcd", func := "sporran/sporranlaw07.BlobTurned", spec := "blobTurned", unfollowed := true, recurses := true, apart := false, narrowed := true }
def BlobTurnedUptoSaid : Prop := blobTurnedUptoRow.holds Try.pinned (OpenSpec.upto blobTurnedSpec)

/-- 'sporranlaw07.BlobRefs', WHERE WHAT IT READS IS OF BULK AT MOST 1048576: true; the input reads as it did. -/
def blobRefsUptoRow : OpenClaim := { program := "ytdjndaodggecjaa", sum := "62ff7f408fb9da013cb88b79e6be46018dd7e509937ba49f9a917ba2f78eedcd", func := "sporran/sporranlaw07.BlobRefs", spec := "blobRefs", unfollowed := true, recurses := true, apart := false, narrowed := true }
def BlobRefsUptoSaid : Prop := blobRefsUptoRow.holds Try.pinned (OpenSpec.upto blobRefsSpec)

end Rows
end Go.Proofs.Ytdjndaodggecjaa
