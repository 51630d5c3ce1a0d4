/-
  No cell of these rows narrows 'for every input' (looked for: loops, veiled, ifaces, maps, wideKeys, modest, calm, conditions, laid).
  DERIVED. THE GIVEN ROWS OF THIS SEAT. 5 by the template 'for every input the law returns true; each argument reads behind the call as it read before'; 0 by the template 'total and deterministic' (their statements: YtkmciohghhffnaaTotals.lean).
  GIVEN WITH THE SEED: the statements are not yours to turn. If you find one false, say at which input.
  Laid BY PROGRAM, IN A SANDBOX (cutbox-rows.mjs): the forced cells as the released guide's own fill.sh prints them over the translation ab4b631a75dfcfde… (all of the seat's roots in one cut). By AI agents, Wed Nov 11 2026. No macro, syntax, notation, axiom, sorry.
-/
import Derived.Test.YtkmciohghhffnaaChecked
import GoSem.Claim
import GoSem.ClaimJoined
import GoSem.ClaimMapViews
import Derived.JoinedTies
import Derived.KernelRfl
namespace Go.Proofs.Ytkmciohghhffnaa
/- THE CELL 'sum', in the pinned program and in every row, IS THE sha256 OF THE DUMP (.gsa) THAT YtkmciohghhffnaaProg.lean LOADS. Nothing in Lean hashes anything: it is a label: what it is worth is what the hold of that sum in a sandbox is worth. -/
noncomputable def Try.pinned : Pinned := { name := "ytkmciohghhffnaa", sum := "ab4b631a75dfcfdee50086b25ee1a8706e7c682edda9381881baaea9d3336ee2", checked := Try.checked }
namespace Rows
def none {H : Type} : Left H := { results := [], args := [] }

/-- 'sporranlaw11.IndexReads': WHATEVER THE INPUT: true; the input reads as it did. -/
def indexReadsSpec : ChangeSpec := { name := "indexReads", fn := fun _ => fun
  | [d] => { results := [.lit (.bool true)], args := [d] }
  | _ => none }
def indexReadsRow : OpenClaim := { program := "ytkmciohghhffnaa", sum := "ab4b631a75dfcfdee50086b25ee1a8706e7c682edda9381881baaea9d3336ee2", func := "sporran/sporranlaw11.IndexReads", spec := "indexReads", inPlace := ["internal/bytealg.Compare"], unfollowed := true, recurses := true, plainKeys := false, apart := false }
def IndexReadsSaid : Prop := indexReadsRow.holds Try.pinned (OpenSpec.ofChange indexReadsSpec)

/-- ITS FALSE NEIGHBOUR: 'it returns false'. Refute it at one input. -/
def indexReadsWrong : ChangeSpec := { name := "indexReads", fn := fun _ => fun
  | [d] => { results := [.lit (.bool false)], args := [d] }
  | _ => none }
def IndexReadsWrongFalsely : Prop := indexReadsRow.holds Try.pinned (OpenSpec.ofChange indexReadsWrong)

/-- 'sporranlaw12.VolumeErrors': WHATEVER THE INPUT: true; the input reads as it did. -/
def volumeErrorsSpec : ChangeSpec := { name := "volumeErrors", fn := fun _ => fun
  | [d] => { results := [.lit (.bool true)], args := [d] }
  | _ => none }
def volumeErrorsRow : OpenClaim := { program := "ytkmciohghhffnaa", sum := "ab4b631a75dfcfdee50086b25ee1a8706e7c682edda9381881baaea9d3336ee2", func := "sporran/sporranlaw12.VolumeErrors", spec := "volumeErrors", inPlace := ["maps.clone"], unfollowed := true, recurses := true, plainKeys := false, apart := false }
def VolumeErrorsSaid : Prop := volumeErrorsRow.holds Try.pinned (OpenSpec.ofChange volumeErrorsSpec)

/-- ITS FALSE NEIGHBOUR: 'it returns false'. Refute it at one input. -/
def volumeErrorsWrong : ChangeSpec := { name := "volumeErrors", fn := fun _ => fun
  | [d] => { results := [.lit (.bool false)], args := [d] }
  | _ => none }
def VolumeErrorsWrongFalsely : Prop := volumeErrorsRow.holds Try.pinned (OpenSpec.ofChange volumeErrorsWrong)

/-- 'sporranlaw12.VolumeCopies': WHATEVER THE INPUT: true; the input reads as it did. -/
def volumeCopiesSpec : ChangeSpec := { name := "volumeCopies", fn := fun _ => fun
  | [d1, d2, d3, d4] => { results := [.lit (.bool true)], args := [d1, d2, d3, d4] }
  | _ => none }
def volumeCopiesRow : OpenClaim := { program := "ytkmciohghhffnaa", sum := "ab4b631a75dfcfdee50086b25ee1a8706e7c682edda9381881baaea9d3336ee2", func := "sporran/sporranlaw12.VolumeCopies", spec := "volumeCopies", inPlace := ["maps.clone"], unfollowed := true, recurses := true, plainKeys := false, apart := false }
def VolumeCopiesSaid : Prop := volumeCopiesRow.holds Try.pinned (OpenSpec.ofChange volumeCopiesSpec)

/-- ITS FALSE NEIGHBOUR: 'it returns false'. Refute it at one input. -/
def volumeCopiesWrong : ChangeSpec := { name := "volumeCopies", fn := fun _ => fun
  | [d1, d2, d3, d4] => { results := [.lit (.bool false)], args := [d1, d2, d3, d4] }
  | _ => none }
def VolumeCopiesWrongFalsely : Prop := volumeCopiesRow.holds Try.pinned (OpenSpec.ofChange volumeCopiesWrong)

/-- 'sporranlaw12.VolumeTwins': WHATEVER THE INPUT: true; the input reads as it did. -/
def volumeTwinsSpec : ChangeSpec := { name := "volumeTwins", fn := fun _ => fun
  | [d1, d2] => { results := [.lit (.bool true)], args := [d1, d2] }
  | _ => none }
def volumeTwinsRow : OpenClaim := { program := "ytkmciohghhffnaa", sum := "ab4b631a75dfcfdee50086b25ee1a8706e7c682edda9381881baaea9d3336ee2", func := "sporran/sporranlaw12.VolumeTwins", spec := "volumeTwins", inPlace := ["maps.clone"], unfollowed := true, recurses := true, plainKeys := false, apart := false }
def VolumeTwinsSaid : Prop := volumeTwinsRow.holds Try.pinned (OpenSpec.ofChange volumeTwinsSpec)

/-- ITS FALSE NEIGHBOUR: 'it returns false'. Refute it at one input. -/
def volumeTwinsWrong : ChangeSpec := { name := "volumeTwins", fn := fun _ => fun
  | [d1, d2] => { results := [.lit (.bool false)], args := [d1, d2] }
  | _ => none }
def VolumeTwinsWrongFalsely : Prop := volumeTwinsRow.holds Try.pinned (OpenSpec.ofChange volumeTwinsWrong)

/-- 'sporranlaw12.VolumeReads': WHATEVER THE INPUT: true; the input reads as it did. -/
def volumeReadsSpec : ChangeSpec := { name := "volumeReads", fn := fun _ => fun
  | [d] => { results := [.lit (.bool true)], args := [d] }
  | _ => none }
def volumeReadsRow : OpenClaim := { program := "ytkmciohghhffnaa", sum := "ab4b631a75dfcfdee50086b25ee1a8706e7c682edda9381881baaea9d3336ee2", func := "sporran/sporranlaw12.VolumeReads", spec := "volumeReads", unfollowed := true, recurses := true, plainKeys := false, apart := false }
def VolumeReadsSaid : Prop := volumeReadsRow.holds Try.pinned (OpenSpec.ofChange volumeReadsSpec)

/-- ITS FALSE NEIGHBOUR: 'it returns false'. Refute it at one input. -/
def volumeReadsWrong : ChangeSpec := { name := "volumeReads", fn := fun _ => fun
  | [d] => { results := [.lit (.bool false)], args := [d] }
  | _ => none }
def VolumeReadsWrongFalsely : Prop := volumeReadsRow.holds Try.pinned (OpenSpec.ofChange volumeReadsWrong)

/- THE SECOND FORM. 'bulk': how many values and letters a reading holds, each counted each time it is reached (what is shared counts as often as it is met; a slice's spare places count too). A statement '..UptoSaid' is the law's where the arguments, and the package variables that the reading takes, are together of bulk at most 1048576: NARROWER than '..Said'. Prove '..Said' where nothing that the law and all that it calls make is longer than what came in: it says more and counts as full. Else prove '..UptoSaid'. A law counts once. -/
mutual
def uptoBulk {H : Type} : DataW H → Nat
  | .lit (.string bytes) => bytes.length + 1
  | .lit _ => 1
  | .nil => 1
  | .ptr d => uptoBulk d + 1
  | .slice elems spare => uptoBulkAll elems + uptoBulkAll spare + 1
  | .agg parts => uptoBulkAll parts + 1
  | .iface _ d => uptoBulk d + 1
  | .map entries => uptoBulkEntries entries + 1
  | .held _ => 1
def uptoBulkAll {H : Type} : List (DataW H) → Nat
  | [] => 0
  | d :: r => uptoBulk d + uptoBulkAll r
def uptoBulkEntries {H : Type} : List (Lit × DataW H) → Nat
  | [] => 0
  | x :: r => uptoBulkEntry x + uptoBulkEntries r
def uptoBulkEntry {H : Type} : Lit × DataW H → Nat
  | (.string bytes, d) => bytes.length + uptoBulk d + 1
  | (_, d) => uptoBulk d + 1
 end
def uptoSmall : (H : Type) → List (DataW H) → Bool := fun _ ds => decide (uptoBulkAll ds ≤ 1048576)
def OpenSpec.upto (s : _root_.Go.ChangeSpec) : _root_.Go.OpenSpec := { _root_.Go.OpenSpec.ofChange s with cond := some uptoSmall }

/-- 'sporranlaw11.IndexReads', WHERE WHAT IT READS IS OF BULK AT MOST 1048576: true; the input reads as it did. -/
def indexReadsUptoRow : OpenClaim := { program := "ytkmciohghhffnaa", sum := "ab4b631a75dfcfdee50086b25ee1a8706e7c682edda9381881baaea9d3336ee2", func := "sporran/sporranlaw11.IndexReads", spec := "indexReads", inPlace := ["internal/bytealg.Compare"], unfollowed := true, recurses := true, plainKeys := false, apart := false, narrowed := true }
def IndexReadsUptoSaid : Prop := indexReadsUptoRow.holds Try.pinned (OpenSpec.upto indexReadsSpec)

/-- 'sporranlaw12.VolumeErrors', WHERE WHAT IT READS IS OF BULK AT MOST 1048576: true; the input reads as it did. -/
def volumeErrorsUptoRow : OpenClaim := { program := "ytkmciohghhffnaa", sum := "ab4b631a75dfcfdee50086b25ee1a8706e7c682edda9381881baaea9d3336ee2", func := "sporran/sporranlaw12.VolumeErrors", spec := "volumeErrors", inPlace := ["maps.clone"], unfollowed := true, recurses := true, plainKeys := false, apart := false, narrowed := true }
def VolumeErrorsUptoSaid : Prop := volumeErrorsUptoRow.holds Try.pinned (OpenSpec.upto volumeErrorsSpec)

/-- 'sporranlaw12.VolumeCopies', WHERE WHAT IT READS IS OF BULK AT MOST 1048576: true; the input reads as it did. -/
def volumeCopiesUptoRow : OpenClaim := { program := "ytkmciohghhffnaa", sum := "ab4b631a75dfcfdee50086b25ee1a8706e7c682edda9381881baaea9d3336ee2", func := "sporran/sporranlaw12.VolumeCopies", spec := "volumeCopies", inPlace := ["maps.clone"], unfollowed := true, recurses := true, plainKeys := false, apart := false, narrowed := true }
def VolumeCopiesUptoSaid : Prop := volumeCopiesUptoRow.holds Try.pinned (OpenSpec.upto volumeCopiesSpec)

/-- 'sporranlaw12.VolumeTwins', WHERE WHAT IT READS IS OF BULK AT MOST 1048576: true; the input reads as it did. -/
def volumeTwinsUptoRow : OpenClaim := { program := "ytkmciohghhffnaa", sum := "ab4b631a75dfcfdee50086b25ee1a8706e7c682edda9381881baaea9d3336ee2", func := "sporran/sporranlaw12.VolumeTwins", spec := "volumeTwins", inPlace := ["maps.clone"], unfollowed := true, recurses := true, plainKeys := false, apart := false, narrowed := true }
def VolumeTwinsUptoSaid : Prop := volumeTwinsUptoRow.holds Try.pinned (OpenSpec.upto volumeTwinsSpec)

/-- 'sporranlaw12.VolumeReads', WHERE WHAT IT READS IS OF BULK AT MOST 1048576: true; the input reads as it did. -/
def volumeReadsUptoRow : OpenClaim := { program := "ytkmciohghhffnaa", sum := "ab4b631a75dfcfdee50086b25ee1a8706e7c682edda9381881baaea9d3336ee2", func := "sporran/sporranlaw12.VolumeReads", spec := "volumeReads", unfollowed := true, recurses := true, plainKeys := false, apart := false, narrowed := true }
def VolumeReadsUptoSaid : Prop := volumeReadsUptoRow.holds Try.pinned (OpenSpec.upto volumeReadsSpec)

end Rows
end Go.Proofs.Ytkmciohghhffnaa
