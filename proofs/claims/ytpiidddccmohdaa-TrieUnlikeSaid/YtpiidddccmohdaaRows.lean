/-
  No cell of these rows narrows 'for every input' (looked for: loops, veiled, ifaces, maps, wideKeys, modest, calm, conditions, laid).
  DERIVED. THE GIVEN ROWS OF THIS SEAT. 4 by the template 'for every input the law returns true; each argument reads behind the call as it read before'; 0 by the template 'total and deterministic' (their statements: YtpiidddccmohdaaTotals.lean).
  GIVEN WITH THE SEED: the statements are not yours to turn. If you find one false, say at which input.
  Laid BY PROGRAM, IN A SANDBOX (cutbox-rows.mjs): the forced cells as the released guide's own fill.sh prints them over the translation a621fcab7fb162e6… (all of the seat's roots in one cut). By AI agents, Wed Nov 11 2026. No macro, syntax, notation, axiom, sorry.
-/
import Derived.Test.YtpiidddccmohdaaChecked
import GoSem.Claim
import GoSem.ClaimJoined
import GoSem.ClaimMapViews
import Derived.JoinedTies
import Derived.KernelRfl
namespace Go.Proofs.Ytpiidddccmohdaa
/- THE CELL 'sum', in the pinned program and in every row, IS THE sha256 OF THE DUMP (.gsa) THAT YtpiidddccmohdaaProg.lean LOADS. Nothing in Lean hashes anything: it is a label: what it is worth is what the hold of that sum in a sandbox is worth. -/
noncomputable def Try.pinned : Pinned := { name := "ytpiidddccmohdaa", sum := "a621fcab7fb162e68db3c8aac211870d52e34a81d62038e2fa8c7ccc01c3316c", checked := Try.checked }
namespace Rows
def none {H : Type} : Left H := { results := [], args := [] }

/-- 'sporranlaw08.TrieUnlike': WHATEVER THE INPUT: true; the input reads as it did. -/
def trieUnlikeSpec : ChangeSpec := { name := "trieUnlike", fn := fun _ => fun
  | [d1, d2] => { results := [.lit (.bool true)], args := [d1, d2] }
  | _ => none }
def trieUnlikeRow : OpenClaim := { program := "ytpiidddccmohdaa", sum := "a621fcab7fb162e68db3c8aac211870d52e34a81d62038e2fa8c7ccc01c3316c", func := "sporran/sporranlaw08.TrieUnlike", spec := "trieUnlike", unfollowed := true, recurses := true, apart := false }
def TrieUnlikeSaid : Prop := trieUnlikeRow.holds Try.pinned (OpenSpec.ofChange trieUnlikeSpec)

/-- ITS FALSE NEIGHBOUR: 'it returns false'. Refute it at one input. -/
def trieUnlikeWrong : ChangeSpec := { name := "trieUnlike", fn := fun _ => fun
  | [d1, d2] => { results := [.lit (.bool false)], args := [d1, d2] }
  | _ => none }
def TrieUnlikeWrongFalsely : Prop := trieUnlikeRow.holds Try.pinned (OpenSpec.ofChange trieUnlikeWrong)

/-- 'sporranlaw08.TrieDrops': WHATEVER THE INPUT: true; the input reads as it did. -/
def trieDropsSpec : ChangeSpec := { name := "trieDrops", fn := fun _ => fun
  | [d1, d2, d3] => { results := [.lit (.bool true)], args := [d1, d2, d3] }
  | _ => none }
def trieDropsRow : OpenClaim := { program := "ytpiidddccmohdaa", sum := "a621fcab7fb162e68db3c8aac211870d52e34a81d62038e2fa8c7ccc01c3316c", func := "sporran/sporranlaw08.TrieDrops", spec := "trieDrops", unfollowed := true, recurses := true, apart := false }
def TrieDropsSaid : Prop := trieDropsRow.holds Try.pinned (OpenSpec.ofChange trieDropsSpec)

/-- ITS FALSE NEIGHBOUR: 'it returns false'. Refute it at one input. -/
def trieDropsWrong : ChangeSpec := { name := "trieDrops", fn := fun _ => fun
  | [d1, d2, d3] => { results := [.lit (.bool false)], args := [d1, d2, d3] }
  | _ => none }
def TrieDropsWrongFalsely : Prop := trieDropsRow.holds Try.pinned (OpenSpec.ofChange trieDropsWrong)

/-- 'sporranlaw08.TrieOrder': WHATEVER THE INPUT: true; the input reads as it did. -/
def trieOrderSpec : ChangeSpec := { name := "trieOrder", fn := fun _ => fun
  | [d1, d2] => { results := [.lit (.bool true)], args := [d1, d2] }
  | _ => none }
def trieOrderRow : OpenClaim := { program := "ytpiidddccmohdaa", sum := "a621fcab7fb162e68db3c8aac211870d52e34a81d62038e2fa8c7ccc01c3316c", func := "sporran/sporranlaw08.TrieOrder", spec := "trieOrder", unfollowed := true, recurses := true, apart := false }
def TrieOrderSaid : Prop := trieOrderRow.holds Try.pinned (OpenSpec.ofChange trieOrderSpec)

/-- ITS FALSE NEIGHBOUR: 'it returns false'. Refute it at one input. -/
def trieOrderWrong : ChangeSpec := { name := "trieOrder", fn := fun _ => fun
  | [d1, d2] => { results := [.lit (.bool false)], args := [d1, d2] }
  | _ => none }
def TrieOrderWrongFalsely : Prop := trieOrderRow.holds Try.pinned (OpenSpec.ofChange trieOrderWrong)

/-- 'sporranlaw08.TrieTwin': WHATEVER THE INPUT: true; the input reads as it did. -/
def trieTwinSpec : ChangeSpec := { name := "trieTwin", fn := fun _ => fun
  | [d1, d2] => { results := [.lit (.bool true)], args := [d1, d2] }
  | _ => none }
def trieTwinRow : OpenClaim := { program := "ytpiidddccmohdaa", sum := "a621fcab7fb162e68db3c8aac211870d52e34a81d62038e2fa8c7ccc01c3316c", func := "sporran/sporranlaw08.TrieTwin", spec := "trieTwin", unfollowed := true, recurses := true, apart := false }
def TrieTwinSaid : Prop := trieTwinRow.holds Try.pinned (OpenSpec.ofChange trieTwinSpec)

/-- ITS FALSE NEIGHBOUR: 'it returns false'. Refute it at one input. -/
def trieTwinWrong : ChangeSpec := { name := "trieTwin", fn := fun _ => fun
  | [d1, d2] => { results := [.lit (.bool false)], args := [d1, d2] }
  | _ => none }
def TrieTwinWrongFalsely : Prop := trieTwinRow.holds Try.pinned (OpenSpec.ofChange trieTwinWrong)

/- THE SECOND FORM. 'bulk': how many values and letters a reading holds, each counted each time it is reached (what is shared counts as often as it is met; a slice's spare places count too). A statement '..UptoSaid' is the law's where the arguments, and the package variables that the reading takes, are together of bulk at most 1048576: NARROWER than '..Said'. Prove '..Said' where nothing that the law and all that it calls make is longer than what came in: it says more and counts as full. Else prove '..UptoSaid'. A law counts once. -/
mutual
def uptoBulk {H : Type} : DataW H → Nat
  | .lit (.string bytes) => bytes.length + 1
  | .lit _ => 1
  | .nil => 1
  | .ptr d => uptoBulk d + 1
  | .slice elems spare => uptoBulkAll elems + uptoBulkAll spare + 1
  | .agg parts => uptoBulkAll parts + 1
  | .iface _ d => uptoBulk d + 1
  | .map entries => uptoBulkEntries entries + 1
  | .held _ => 1
def uptoBulkAll {H : Type} : List (DataW H) → Nat
  | [] => 0
  | d :: r => uptoBulk d + uptoBulkAll r
def uptoBulkEntries {H : Type} : List (Lit × DataW H) → Nat
  | [] => 0
  | x :: r => uptoBulkEntry x + uptoBulkEntries r
def uptoBulkEntry {H : Type} : Lit × DataW H → Nat
  | (.string bytes, d) => bytes.length + uptoBulk d + 1
  | (_, d) => uptoBulk d + 1
 end
def uptoSmall : (H : Type) → List (DataW H) → Bool := fun _ ds => decide (uptoBulkAll ds ≤ 1048576)
def OpenSpec.upto (s : _root_.Go.ChangeSpec) : _root_.Go.OpenSpec := { _root_.Go.OpenSpec.ofChange s with cond := some uptoSmall }

/-- 'sporranlaw08.TrieUnlike', WHERE WHAT IT READS IS OF BULK AT MOST 1048576: true; the input reads as it did. -/
def trieUnlikeUptoRow : OpenClaim := { program := "ytpiidddccmohdaa", sum := "a621fcab7fb162e68db3c8aac211870d52e34a81d62038e2fa8c7ccc01c3316c", func := "sporran/sporranlaw08.TrieUnlike", spec := "trieUnlike", unfollowed := true, recurses := true, apart := false, narrowed := true }
def TrieUnlikeUptoSaid : Prop := trieUnlikeUptoRow.holds Try.pinned (OpenSpec.upto trieUnlikeSpec)

/-- 'sporranlaw08.TrieDrops', WHERE WHAT IT READS IS OF BULK AT MOST 1048576: true; the input reads as it did. -/
def trieDropsUptoRow : OpenClaim := { program := "ytpiidddccmohdaa", sum := "a621fcab7fb162e68db3c8aac211870d52e34a81d62038e2fa8c7ccc01c3316c", func := "sporran/sporranlaw08.TrieDrops", spec := "trieDrops", unfollowed := true, recurses := true, apart := false, narrowed := true }
def TrieDropsUptoSaid : Prop := trieDropsUptoRow.holds Try.pinned (OpenSpec.upto trieDropsSpec)

/-- 'sporranlaw08.TrieOrder', WHERE WHAT IT READS IS OF BULK AT MOST 1048576: true; the input reads as it did. -/
def trieOrderUptoRow : OpenClaim := { program := "ytpiidddccmohdaa", sum := "a621fcab7fb162e68db3c8aac211870d52e34a81d62038e2fa8c7ccc01c3316c", func := "sporran/sporranlaw08.TrieOrder", spec := "trieOrder", unfollowed := true, recurses := true, apart := false, narrowed := true }
def TrieOrderUptoSaid : Prop := trieOrderUptoRow.holds Try.pinned (OpenSpec.upto trieOrderSpec)

/-- 'sporranlaw08.TrieTwin', WHERE WHAT IT READS IS OF BULK AT MOST 1048576: true; the input reads as it did. -/
def trieTwinUptoRow : OpenClaim := { program := "ytpiidddccmohdaa", sum := "a621fcab7fb162e68db3c8aac211870d52e34a81d62038e2fa8c7ccc01c3316c", func := "sporran/sporranlaw08.TrieTwin", spec := "trieTwin", unfollowed := true, recurses := true, apart := false, narrowed := true }
def TrieTwinUptoSaid : Prop := trieTwinUptoRow.holds Try.pinned (OpenSpec.upto trieTwinSpec)

end Rows
end Go.Proofs.Ytpiidddccmohdaa
