/-
  sporranlaw08: TrieDrops.
-/
import Derived.Test.YtpiidddccmohdabDoorTreL3
namespace Go.Proofs.YtpiidddccmohdabDoor.B
open Go
set_option linter.unusedVariables false
set_option maxHeartbeats 2000000
set_option maxRecDepth 100000
attribute [local irreducible] W OpsW OpsQ retP
theorem dropTT_no {T : Tre} {key : Dig} (h : T.get (nibs key.val) = none) : dropTT T key = T := by unfold dropTT; rw [h]; rfl
theorem drop_put {T : Tre} (hw : T.wf 64) {key : Dig} {val : List UInt8} (h : T.get (nibs key.val) = some val) : putTT (dropTT T key) key val = T :=
  Tre.uniqD (wf_putTT (wf_dropTT hw _) _ _) hw fun k => by
    rw [get_putTT (wf_dropTT hw _), get_dropTT hw]
    by_cases e : k = key
    · rw [if_pos e, e, h]
    · rw [if_neg e, if_neg e]
theorem put_drop {T : Tre} (hw : T.wf 64) {key : Dig} {val : List UInt8} (h : T.get (nibs key.val) = none) : dropTT (putTT T key val) key = T :=
  Tre.uniqD (wf_dropTT (wf_putTT hw _ _) _) hw fun k => by
    rw [get_dropTT (wf_putTT hw _ _), get_putTT hw]
    by_cases e : k = key
    · rw [if_pos e, e, h]
    · rw [if_neg e, if_neg e]
end Go.Proofs.YtpiidddccmohdabDoor.B
