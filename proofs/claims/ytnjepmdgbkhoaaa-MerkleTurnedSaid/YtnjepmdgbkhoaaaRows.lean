/-
  No cell of these rows narrows 'for every input' (looked for: loops, veiled, ifaces, maps, wideKeys, modest, calm, conditions, laid).
  DERIVED. THE GIVEN ROWS OF THIS SEAT. 5 by the template 'for every input the law returns true; each argument reads behind the call as it read before'; 0 by the template 'total and deterministic' (their statements: YtnjepmdgbkhoaaaTotals.lean).
  GIVEN WITH THE SEED: the statements are not yours to turn. If you find one false, say at which input.
  Laid BY PROGRAM, IN A SANDBOX (cutbox-rows.mjs): the forced cells as the released guide's own fill.sh prints them over the translation ac9d24ef879a3eb1… (all of the seat's roots in one cut). By AI agents, Wed Nov 11 2026. No macro, syntax, notation, axiom, sorry.
-/
import Derived.Test.YtnjepmdgbkhoaaaChecked
import GoSem.Claim
import GoSem.ClaimJoined
import GoSem.ClaimMapViews
import Derived.JoinedTies
import Derived.KernelRfl
namespace Go.Proofs.Ytnjepmdgbkhoaaa
/- THE CELL 'sum', in the pinned program and in every row, IS THE sha256 OF THE DUMP (.gsa) THAT YtnjepmdgbkhoaaaProg.lean LOADS. Nothing in Lean hashes anything: it is a label: what it is worth is what the hold of that sum in a sandbox is worth. -/
noncomputable def Try.pinned : Pinned := { name := "ytnjepmdgbkhoaaa", sum := "ac9d24ef879a3eb149da33d9f7937d5dd8f44560b994860c0fdb10dab97b4385", checked := Try.checked }
namespace Rows
def none {H : Type} : Left H := { results := [], args := [] }

/-- 'sporranlaw03.MerkleVerifies': WHATEVER THE INPUT: true; the input reads as it did. -/
def merkleVerifiesSpec : ChangeSpec := { name := "merkleVerifies", fn := fun _ => fun
  | [d1, d2, d3, d4, d5] => { results := [.lit (.bool true)], args := [d1, d2, d3, d4, d5] }
  | _ => none }
def merkleVerifiesRow : OpenClaim := { program := "ytnjepmdgbkhoaaa", sum := "ac9d24ef879a3eb149da33d9f7937d5dd8f44560b994860c0fdb10dab97b4385", func := "sporran/sporranlaw03.MerkleVerifies", spec := "merkleVerifies", unfollowed := true, recurses := true, apart := false }
def MerkleVerifiesSaid : Prop := merkleVerifiesRow.holds Try.pinned (OpenSpec.ofChange merkleVerifiesSpec)

/-- ITS FALSE NEIGHBOUR: 'it returns false'. Refute it at one input. -/
def merkleVerifiesWrong : ChangeSpec := { name := "merkleVerifies", fn := fun _ => fun
  | [d1, d2, d3, d4, d5] => { results := [.lit (.bool false)], args := [d1, d2, d3, d4, d5] }
  | _ => none }
def MerkleVerifiesWrongFalsely : Prop := merkleVerifiesRow.holds Try.pinned (OpenSpec.ofChange merkleVerifiesWrong)

/-- 'sporranlaw03.MerkleBound': WHATEVER THE INPUT: true; the input reads as it did. -/
def merkleBoundSpec : ChangeSpec := { name := "merkleBound", fn := fun _ => fun
  | [d1, d2, d3, d4] => { results := [.lit (.bool true)], args := [d1, d2, d3, d4] }
  | _ => none }
def merkleBoundRow : OpenClaim := { program := "ytnjepmdgbkhoaaa", sum := "ac9d24ef879a3eb149da33d9f7937d5dd8f44560b994860c0fdb10dab97b4385", func := "sporran/sporranlaw03.MerkleBound", spec := "merkleBound", unfollowed := true, recurses := true, apart := false }
def MerkleBoundSaid : Prop := merkleBoundRow.holds Try.pinned (OpenSpec.ofChange merkleBoundSpec)

/-- ITS FALSE NEIGHBOUR: 'it returns false'. Refute it at one input. -/
def merkleBoundWrong : ChangeSpec := { name := "merkleBound", fn := fun _ => fun
  | [d1, d2, d3, d4] => { results := [.lit (.bool false)], args := [d1, d2, d3, d4] }
  | _ => none }
def MerkleBoundWrongFalsely : Prop := merkleBoundRow.holds Try.pinned (OpenSpec.ofChange merkleBoundWrong)

/-- 'sporranlaw03.MerkleTold': WHATEVER THE INPUT: true; the input reads as it did. -/
def merkleToldSpec : ChangeSpec := { name := "merkleTold", fn := fun _ => fun
  | [d1, d2] => { results := [.lit (.bool true)], args := [d1, d2] }
  | _ => none }
def merkleToldRow : OpenClaim := { program := "ytnjepmdgbkhoaaa", sum := "ac9d24ef879a3eb149da33d9f7937d5dd8f44560b994860c0fdb10dab97b4385", func := "sporran/sporranlaw03.MerkleTold", spec := "merkleTold", unfollowed := true, recurses := true, apart := false }
def MerkleToldSaid : Prop := merkleToldRow.holds Try.pinned (OpenSpec.ofChange merkleToldSpec)

/-- ITS FALSE NEIGHBOUR: 'it returns false'. Refute it at one input. -/
def merkleToldWrong : ChangeSpec := { name := "merkleTold", fn := fun _ => fun
  | [d1, d2] => { results := [.lit (.bool false)], args := [d1, d2] }
  | _ => none }
def MerkleToldWrongFalsely : Prop := merkleToldRow.holds Try.pinned (OpenSpec.ofChange merkleToldWrong)

/-- 'sporranlaw03.MerkleEach': WHATEVER THE INPUT: true; the input reads as it did. -/
def merkleEachSpec : ChangeSpec := { name := "merkleEach", fn := fun _ => fun
  | [d] => { results := [.lit (.bool true)], args := [d] }
  | _ => none }
def merkleEachRow : OpenClaim := { program := "ytnjepmdgbkhoaaa", sum := "ac9d24ef879a3eb149da33d9f7937d5dd8f44560b994860c0fdb10dab97b4385", func := "sporran/sporranlaw03.MerkleEach", spec := "merkleEach", unfollowed := true, recurses := true, apart := false }
def MerkleEachSaid : Prop := merkleEachRow.holds Try.pinned (OpenSpec.ofChange merkleEachSpec)

/-- ITS FALSE NEIGHBOUR: 'it returns false'. Refute it at one input. -/
def merkleEachWrong : ChangeSpec := { name := "merkleEach", fn := fun _ => fun
  | [d] => { results := [.lit (.bool false)], args := [d] }
  | _ => none }
def MerkleEachWrongFalsely : Prop := merkleEachRow.holds Try.pinned (OpenSpec.ofChange merkleEachWrong)

/-- 'sporranlaw03.MerkleTurned': WHATEVER THE INPUT: true; the input reads as it did. -/
def merkleTurnedSpec : ChangeSpec := { name := "merkleTurned", fn := fun _ => fun
  | [d1, d2, d3, d4] => { results := [.lit (.bool true)], args := [d1, d2, d3, d4] }
  | _ => none }
def merkleTurnedRow : OpenClaim := { program := "ytnjepmdgbkhoaaa", sum := "ac9d24ef879a3eb149da33d9f7937d5dd8f44560b994860c0fdb10dab97b4385", func := "sporran/sporranlaw03.MerkleTurned", spec := "merkleTurned", unfollowed := true, recurses := true, apart := false }
def MerkleTurnedSaid : Prop := merkleTurnedRow.holds Try.pinned (OpenSpec.ofChange merkleTurnedSpec)

/-- ITS FALSE NEIGHBOUR: 'it returns false'. Refute it at one input. -/
def merkleTurnedWrong : ChangeSpec := { name := "merkleTurned", fn := fun _ => fun
  | [d1, d2, d3, d4] => { results := [.lit (.bool false)], args := [d1, d2, d3, d4] }
  | _ => none }
def MerkleTurnedWrongFalsely : Prop := merkleTurnedRow.holds Try.pinned (OpenSpec.ofChange merkleTurnedWrong)

/- THE SECOND FORM. 'bulk': how many values and letters a reading holds, each counted each time it is reached (what is shared counts as often as it is met; a slice's spare places count too). A statement '..UptoSaid' is the law's where the arguments, and the package variables that the reading takes, are together of bulk at most 1048576: NARROWER than '..Said'. Prove '..Said' where nothing that the law and all that it calls make is longer than what came in: it says more and counts as full. Else prove '..UptoSaid'. A law counts once. -/
mutual
def uptoBulk {H : Type} : DataW H → Nat
  | .lit (.string bytes) => bytes.length + 1
  | .lit _ => 1
  | .nil => 1
  | .ptr d => uptoBulk d + 1
  | .slice elems spare => uptoBulkAll elems + uptoBulkAll spare + 1
  | .agg parts => uptoBulkAll parts + 1
  | .iface _ d => uptoBulk d + 1
  | .map entries => uptoBulkEntries entries + 1
  | .held _ => 1
def uptoBulkAll {H : Type} : List (DataW H) → Nat
  | [] => 0
  | d :: r => uptoBulk d + uptoBulkAll r
def uptoBulkEntries {H : Type} : List (Lit × DataW H) → Nat
  | [] => 0
  | x :: r => uptoBulkEntry x + uptoBulkEntries r
def uptoBulkEntry {H : Type} : Lit × DataW H → Nat
  | (.string bytes, d) => bytes.length + uptoBulk d + 1
  | (_, d) => uptoBulk d + 1
 end
def uptoSmall : (H : Type) → List (DataW H) → Bool := fun _ ds => decide (uptoBulkAll ds ≤ 1048576)
def OpenSpec.upto (s : _root_.Go.ChangeSpec) : _root_.Go.OpenSpec := { _root_.Go.OpenSpec.ofChange s with cond := some uptoSmall }

/-- 'sporranlaw03.MerkleVerifies', WHERE WHAT IT READS IS OF BULK AT MOST 1048576: true; the input reads as it did. -/
def merkleVerifiesUptoRow : OpenClaim := { program := "ytnjepmdgbkhoaaa", sum := "ac9d24ef879a3eb149da33d9f7937d5dd8f44560b994860c0fdb10dab97b4385", func := "sporran/sporranlaw03.MerkleVerifies", spec := "merkleVerifies", unfollowed := true, recurses := true, apart := false, narrowed := true }
def MerkleVerifiesUptoSaid : Prop := merkleVerifiesUptoRow.holds Try.pinned (OpenSpec.upto merkleVerifiesSpec)

/-- 'sporranlaw03.MerkleBound', WHERE WHAT IT READS IS OF BULK AT MOST 1048576: true; the input reads as it did. -/
def merkleBoundUptoRow : OpenClaim := { program := "ytnjepmdgbkhoaaa", sum := "ac9d24ef879a3eb149da33d9f7937d5dd8f44560b994860c0fdb10dab97b4385", func := "sporran/sporranlaw03.MerkleBound", spec := "merkleBound", unfollowed := true, recurses := true, apart := false, narrowed := true }
def MerkleBoundUptoSaid : Prop := merkleBoundUptoRow.holds Try.pinned (OpenSpec.upto merkleBoundSpec)

/-- 'sporranlaw03.MerkleTold', WHERE WHAT IT READS IS OF BULK AT MOST 1048576: true; the input reads as it did. -/
def merkleToldUptoRow : OpenClaim := { program := "ytnjepmdgbkhoaaa", sum := "ac9d24ef879a3eb149da33d9f7937d5dd8f44560b994860c0fdb10dab97b4385", func := "sporran/sporranlaw03.MerkleTold", spec := "merkleTold", unfollowed := true, recurses := true, apart := false, narrowed := true }
def MerkleToldUptoSaid : Prop := merkleToldUptoRow.holds Try.pinned (OpenSpec.upto merkleToldSpec)

/-- 'sporranlaw03.MerkleEach', WHERE WHAT IT READS IS OF BULK AT MOST 1048576: true; the input reads as it did. -/
def merkleEachUptoRow : OpenClaim := { program := "ytnjepmdgbkhoaaa", sum := "ac9d24ef879a3eb149da33d9f7937d5dd8f44560b994860c0fdb10dab97b4385", func := "sporran/sporranlaw03.MerkleEach", spec := "merkleEach", unfollowed := true, recurses := true, apart := false, narrowed := true }
def MerkleEachUptoSaid : Prop := merkleEachUptoRow.holds Try.pinned (OpenSpec.upto merkleEachSpec)

/-- 'sporranlaw03.MerkleTurned', WHERE WHAT IT READS IS OF BULK AT MOST 1048576: true; the input reads as it did. -/
def merkleTurnedUptoRow : OpenClaim := { program := "ytnjepmdgbkhoaaa", sum := "ac9d24ef879a3eb149da33d9f7937d5dd8f44560b994860c0fdb10dab97b4385", func := "sporran/sporranlaw03.MerkleTurned", spec := "merkleTurned", unfollowed := true, recurses := true, apart := false, narrowed := true }
def MerkleTurnedUptoSaid : Prop := merkleTurnedUptoRow.holds Try.pinned (OpenSpec.upto merkleTurnedSpec)

end Rows
end Go.Proofs.Ytnjepmdgbkhoaaa
