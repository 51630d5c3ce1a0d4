/-
  The digest of the empty trie isn't nought.
-/
import Derived.Test.YtpiidddccmohdabDoorMSha
import Derived.Test.YtpiidddccmohdabDoorRowsK
namespace Go.Proofs.YtpiidddccmohdabDoor.B
open Go
set_option linter.unusedVariables false
set_option maxHeartbeats 2000000
set_option maxRecDepth 100000
attribute [local irreducible] W OpsW OpsQ retP
theorem five_len : (padL [5]).length / 64 = 1 := by decide +kernel
def fiveW : List Wd := [0x05800000#32, 0#32, 0#32, 0#32, 0#32, 0#32, 0#32, 0#32, 0#32, 0#32, 0#32, 0#32, 0#32, 0#32, 0#32, 0x8#32]
theorem five_load : load16 (blk (padL [5]) 0) = fiveW := by decide +kernel
theorem five_r : (rounds K64 (I8, fiveW) 64).1.a = 0x7d71b433#32 := by kernel_rfl
theorem five_a : (sumSt (padL [5]) ((padL [5]).length / 64)).a = 0xe77b9a9a#32 := by
  rw [five_len, show (1 : Nat) = 0 + 1 from rfl, sumSt_s, sumSt_0, initV_lit]
  unfold blockF V8.add
  rw [five_load, tabK_lit]
  show I8.a + (rounds K64 (I8, fiveW) 64).1.a = _
  rw [five_r]
  decide +kernel
theorem five_0 : (sumF [5])[0]? = some 0xe7 := by
  unfold sumF
  rw [List.getElem?_map, List.getElem?_range (by decide)]
  show some (dgB _ 0) = _
  refine congrArg some ?_
  unfold dgB
  rw [show (sumSt (padL [5]) ((padL [5]).length / 64)).ws.getD (0 / 4) 0 = (sumSt (padL [5]) ((padL [5]).length / 64)).a from rfl]
  rw [five_a]; decide +kernel
theorem tag5_ne : ¬ Dig.zero = tagD 5 [] := fun h => by
  have h1 := congrArg (fun d : Dig => d.val[0]?) h
  have h2 : (tagD 5 []).val[0]? = some 0xe7 := five_0
  have h3 : Dig.zero.val[0]? = some 0 := rfl
  simp only [h2, h3] at h1
  exact absurd h1 (by decide)
end Go.Proofs.YtpiidddccmohdabDoor.B
