/-
  Iterators over maps: what is left.
-/
import Derived.Test.YtkmciohghhffnaaGreatVol3
namespace Go.Proofs.YtkmciohghhffnaaGreat.B
open Go
set_option linter.unusedVariables false
set_option maxHeartbeats 2000000
set_option maxRecDepth 100000
attribute [local irreducible] W OpsW OpsQ retP
/-- How many entries an iterator has still to tell. -/
def leftG (w : World) (r : Nat) : Nat := match w.heap[r]? with
  | some (.mapIter (some b) _ seen _) => (match w.heap[b]? with
    | some (.map es _) => (es.toList.filter fun e => !seen.contains e.born).length
    | _ => 0)
  | _ => 0
theorem IterG.left {α : Type} {kv : α → Value} {w : World} {r b : Nat} {l rem : List (α × Value)} (h : IterG kv w r b l rem) : leftG w r = rem.length := by
  obtain ⟨es, cl, seen, _, h1, h2, _, _, h3⟩ := h
  unfold leftG
  rw [h2]; simp only [h1]
  have := congrArg List.length h3
  simpa using this
theorem mapP_at {α β γ : Type} {f : β → γ} {l : List (α × β)} {i : Nat} {x : α × γ} (h : (mapP f l)[i]? = some x) : ∃ y, l[i]? = some y ∧ x = (y.1, f y.2) := by
  unfold mapP at h
  rw [List.getElem?_map] at h
  cases hl : l[i]? with
  | none => rw [hl] at h; cases h
  | some y => rw [hl] at h; exact ⟨y, rfl, (Option.some.inj h).symm⟩
theorem mapP_erase {α β γ : Type} (f : β → γ) (l : List (α × β)) (i : Nat) : (mapP f l).eraseIdx i = mapP f (l.eraseIdx i) := (map_erase _ l i).symm
theorem erase_perm {α : Type} : ∀ {l : List α} {i : Nat} {x : α}, l[i]? = some x → (x :: l.eraseIdx i).Perm l
  | [], _, _, h => by cases h
  | y :: l, 0, x, h => by simp at h; subst h; exact List.Perm.refl _
  | y :: l, i + 1, x, h => by
    rw [List.getElem?_cons_succ] at h
    exact (List.Perm.swap y x _).trans (List.Perm.cons y (erase_perm h))
theorem perm_take {α : Type} {dn rem l : List α} {i : Nat} {x : α} (h : (dn ++ rem).Perm l) (hx : rem[i]? = some x) : ((dn ++ [x]) ++ rem.eraseIdx i).Perm l := by
  refine List.Perm.trans ?_ h
  rw [List.append_assoc]
  refine List.Perm.append_left dn ?_
  exact erase_perm hx

end Go.Proofs.YtkmciohghhffnaaGreat.B
