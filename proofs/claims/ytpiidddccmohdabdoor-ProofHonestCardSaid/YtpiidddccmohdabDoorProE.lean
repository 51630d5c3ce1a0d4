/-
  What the nodes on the way to a key show: bounds; rows of them.
-/
import Derived.Test.YtpiidddccmohdabDoorNodeE
import Derived.Test.YtpiidddccmohdabDoorProofS
namespace Go.Proofs.YtpiidddccmohdabDoor.B
open Go
set_option linter.unusedVariables false
set_option maxHeartbeats 2000000
set_option maxRecDepth 100000
attribute [local irreducible] W OpsW OpsQ retP
theorem rootT_is {T : Tre} (h : T ≠ .no) : rootT T = tagD 4 [nodeB T] := by unfold rootT; rw [Tre.notNo.2 h]; rfl
theorem prove_wayB (T : Tre) (key : Dig) : proveT T key = wayB T (nibs key.val) := rfl
theorem prove_70 {T : Tre} (hw : T.wf 64) (key : Dig) : (proveT T key).length ≤ 65 := by
  unfold proveT; rw [List.length_map]; exact wayT_len T _ 64 hw
theorem prove_3000 {T : Tre} (hw : T.wf 64) (hs : T.short) (key : Dig) : ∀ b ∈ proveT T key, b.length ≤ 2000 := fun b hb => by
  obtain ⟨y, hy, rfl⟩ := List.mem_map.1 hb
  obtain ⟨L, _, h2⟩ := wayT_sub T _ 64 hw hs y hy
  exact nodeB_len h2
theorem nibs_64 (key : Dig) : (nibs key.val).length = 64 := by rw [nibs_len, key.2]
/-- What a trie tells of a key is shown by its nodes on the way there. -/
theorem chk_prove {T : Tre} (hw : T.wf 64) (hs : T.short) (key : Dig) : chk (rootT T) key.val (proveT T key) = tellT T (nibs key.val) := by
  by_cases hT : T = .no
  · subst hT
    unfold chk
    rw [if_pos (show proveT .no key = [] from rfl), if_pos (show rootT .no = tagD 5 [] from rfl)]; rfl
  · unfold chk
    rw [prove_wayB, if_neg (wayB_ne hT), rootT_is hT]
    exact chk_honest T 64 _ hw hs hT (nibs_64 key)
theorem RowsO.rowsV {w : World} {lo : Nat} {v : Value} {vs : List Value} {bs : List (List UInt8)} (hO : Own w 25 1 v vs.length vs) (hR : RowsO w lo vs bs) : RowsV w v vs bs := by
  have hl := RowsO.len hR
  refine ⟨hl, by rw [← hl]; exact hO.sl, fun i u x hu hx => ?_⟩
  obtain ⟨u', h1, h2, _⟩ := RowsO.get hR hx
  rw [hu] at h1
  cases h1
  exact OwnB.by_ h2
end Go.Proofs.YtpiidddccmohdabDoor.B
