/-
  sporranlaw08: TrieOrder.
-/
import Derived.Test.YtpiidddccmohdabDoorTreK2
import Derived.Test.YtpiidddccmohdabDoorTreD
namespace Go.Proofs.YtpiidddccmohdabDoor.B
open Go
set_option linter.unusedVariables false
set_option maxHeartbeats 2000000
set_option maxRecDepth 100000
attribute [local irreducible] W OpsW OpsQ retP
def moreT (ms : List Cl) : Tre := ms.foldl (fun T c => putTT T c.2.1 c.2.2) .no
theorem moreT_s {ms : List Cl} {k : Nat} {c : Cl} (h : ms[k]? = some c) : moreT (ms.take (k + 1)) = putTT (moreT (ms.take k)) c.2.1 c.2.2 := by
  obtain ⟨h1, h2⟩ := List.getElem?_eq_some_iff.1 h
  unfold moreT
  rw [List.take_succ_eq_append_getElem h1, h2, List.foldl_append]; rfl
theorem more_get (d : Dig) (v : List UInt8) : ∀ (ms : List Cl) (T : Tre), T.wf 64 → (ms.foldl (fun T c => putTT T c.2.1 c.2.2) T).wf 64 ∧ ((ms.foldl (fun T c => putTT T c.2.1 c.2.2) T).get (nibs d.val) = some v → T.get (nibs d.val) = some v ∨ ∃ c ∈ ms, c.2.1 = d)
  | [], T, h => ⟨h, fun h => .inl h⟩
  | c :: ms, T, h => by
    obtain ⟨h1, h2⟩ := more_get d v ms (putTT T c.2.1 c.2.2) (wf_putTT h _ _)
    refine ⟨h1, fun hg => ?_⟩
    rcases h2 hg with h3 | ⟨x, hx, e⟩
    · rw [get_putTT h] at h3
      by_cases e : d = c.2.1
      · exact .inr ⟨c, List.mem_cons_self .., e.symm⟩
      · rw [if_neg e] at h3; exact .inl h3
    · exact .inr ⟨x, List.mem_cons_of_mem _ hx, e⟩
theorem itR_val {x : Iv} : (itR x)[32]? = some x.2 := by
  unfold itR; rw [List.getElem?_append_right (by rw [dgR_len]; decide), dgR_len]; rfl
theorem findI_neg {key : Dig} {l : List It} : findI key l 0 < 0 ↔ lookI l key = none := by
  have h := findI_look key l 0
  cases hl : lookI l key with
  | none =>
    rw [hl] at h
    have := of_decide_eq_false (show decide (0 ≤ findI key l 0) = false from h)
    exact ⟨fun _ => rfl, fun _ => by omega⟩
  | some v =>
    rw [hl] at h
    have := of_decide_eq_true (show decide (0 ≤ findI key l 0) = true from h)
    exact ⟨fun h => by omega, fun h => by cases h⟩
end Go.Proofs.YtpiidddccmohdabDoor.B
