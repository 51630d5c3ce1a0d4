/-
  A disk: Clone, Image; land, Sync, Crash.
-/
import Derived.Test.YtcbbodjcgjbfaaaDisk2
namespace Go.Proofs.Ytcbbodjcgjbfaaa.B
open Go
set_option linter.unusedVariables false
set_option maxHeartbeats 2000000
set_option maxRecDepth 100000
attribute [local irreducible] W OpsW OpsQ retP

/-- What is seen: all that was written. -/
def seen (L : List Sec) : List (Nat × Sec) → List Sec
  | [] => L
  | x :: T => seen (L.set x.1 x.2) T
theorem seen_snoc (x : Nat × Sec) : ∀ (T : List (Nat × Sec)) (L : List Sec), seen L (T ++ [x]) = (seen L T).set x.1 x.2
  | [], L => rfl
  | y :: T, L => seen_snoc x T _
theorem seen_len : ∀ (T : List (Nat × Sec)) (L : List Sec), (seen L T).length = L.length
  | [], L => rfl
  | x :: T, L => by rw [seen, seen_len T, List.length_set]
theorem take_snoc {α : Type} {l : List α} {k : Nat} (h : k < l.length) : l.take (k + 1) = l.take k ++ [l[k]] := by rw [List.take_succ_eq_append_getElem h]
theorem lasts_sl {w : World} {g c N : Nat} {ex : List Value} {L : List Sec} (hG : Blk w g (rows secR L ++ ex) 28) (hL : L.length = N) (hc : N ≤ c) (hcm : c ≤ maxLen) : Sl w (.slice (some ⟨g, 0, none⟩) N c) N 64 (rows secR L) := by
  refine ⟨_, c, rfl, hc, hcm, by rw [rows_len secR_len, hL], (fun e => by cases e), fun x hx i u hu => ?_⟩
  injection hx with hx; subst hx
  refine ⟨rfl, hG.cell ?_⟩
  show (rows secR L ++ ex)[0 + i]? = _
  rw [Nat.zero_add, List.getElem?_append_left (List.getElem?_eq_some_iff.1 hu).1]; exact hu

end Go.Proofs.Ytcbbodjcgjbfaaa.B
