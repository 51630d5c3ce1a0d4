/-
  sporranlaw08: play.
-/
import Derived.Test.YtpiidddccmohdabDoorTreL2
namespace Go.Proofs.YtpiidddccmohdabDoor.B
open Go
set_option linter.unusedVariables false
set_option maxHeartbeats 2000000
set_option maxRecDepth 100000
attribute [local irreducible] W OpsW OpsQ retP
theorem playC_s {cs : List Cl} {k : Nat} {c : Cl} (h : cs[k]? = some c) : playC (cs.take (k + 1)) = stepC (playC (cs.take k)) c := by
  obtain ⟨h1, h2⟩ := List.getElem?_eq_some_iff.1 h
  unfold playC
  rw [List.take_succ_eq_append_getElem h1, h2, List.foldl_append]; rfl
end Go.Proofs.YtpiidddccmohdabDoor.B
