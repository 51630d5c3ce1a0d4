/-
  Rows of keys and values (plain).
-/
import Derived.Test.YtkmciohghhffnaaMapG
namespace Go.Proofs.Ytkmciohghhffnaa.B
open Go
set_option linter.unusedVariables false
set_option maxHeartbeats 2000000
set_option maxRecDepth 100000
attribute [local irreducible] W OpsW OpsQ retP
section
variable {α β : Type} [DecidableEq α]
def lookP : List (α × β) → α → Option β
  | [], _ => none
  | x :: l, k => if x.1 = k then some x.2 else lookP l k
def setP (l : List (α × β)) (k : α) (v : β) : List (α × β) := if (lookP l k).isSome = true then l.map (fun x => if x.1 = k then (k, v) else x) else l ++ [(k, v)]
def mapP {γ : Type} (f : β → γ) (l : List (α × β)) : List (α × γ) := l.map fun x => (x.1, f x.2)
theorem getA_look (f : β → Value) (k : α) : ∀ l : List (α × β), getA (mapP f l) k = (lookP l k).map f
  | [] => rfl
  | x :: l => by
    show (if x.1 = k then some (f x.2) else getA (mapP f l) k) = _
    unfold lookP
    split
    · rfl
    · exact getA_look f k l
theorem lookP_mem {k : α} {v : β} : ∀ {l : List (α × β)}, lookP l k = some v → (k, v) ∈ l
  | [], h => by cases h
  | x :: l, h => by
    unfold lookP at h
    split at h
    · rename_i e
      cases h
      exact List.mem_cons.2 (.inl (by rw [← e]))
    · exact List.mem_cons_of_mem _ (lookP_mem h)
theorem lookP_none {k : α} : ∀ {l : List (α × β)}, lookP l k = none → ∀ x ∈ l, x.1 ≠ k
  | [], _, x, hx => by cases hx
  | y :: l, h, x, hx => by
    unfold lookP at h
    split at h
    · cases h
    · rename_i hne
      rcases List.mem_cons.1 hx with rfl | hx
      · exact hne
      · exact lookP_none h x hx
theorem lookP_at {l : List (α × β)} {x : α × β} (hn : (l.map (·.1)).Nodup) (hx : x ∈ l) : lookP l x.1 = some x.2 := by
  induction l with
  | nil => cases hx
  | cons y l ih =>
    obtain ⟨h1, h2⟩ := List.nodup_cons.1 (show (y.1 :: l.map (·.1)).Nodup from hn)
    unfold lookP
    rcases List.mem_cons.1 hx with rfl | hx
    · exact if_pos rfl
    · rw [if_neg (fun e => h1 (by rw [e]; exact List.mem_map.2 ⟨x, hx, rfl⟩))]
      exact ih h2 hx
theorem setA_map (f : β → Value) (l : List (α × β)) (k : α) (v : β) : setA (mapP f l) k (f v) = mapP f (setP l k v) := by
  unfold setA setP
  rw [getA_look, Option.isSome_map]
  split
  · unfold mapP; rw [List.map_map, List.map_map]
    apply List.map_congr_left
    intro x _
    show (if x.1 = k then (k, f v) else (x.1, f x.2)) = _
    by_cases h : x.1 = k
    · simp [h]
    · simp [h]
  · unfold mapP; rw [List.map_append]; rfl
theorem delP_map (f : β → Value) (l : List (α × β)) (k : α) : delP (mapP f l) k = mapP f (delP l k) := by
  unfold delP mapP
  rw [List.filter_map]; rfl
omit [DecidableEq α] in
theorem mapP_keys {γ : Type} (f : β → γ) (l : List (α × β)) : (mapP f l).map (·.1) = l.map (·.1) := by
  unfold mapP; rw [List.map_map]; rfl
theorem lookP_del (l : List (α × β)) (k j : α) : lookP (delP l k) j = if j = k then none else lookP l j := by
  induction l with
  | nil => show none = _; split <;> rfl
  | cons x l ih =>
    unfold delP at ih ⊢
    by_cases hx : x.1 = k
    · rw [List.filter_cons, if_neg (by simp [hx]), ih]
      by_cases hj : j = k
      · rw [if_pos hj, if_pos hj]
      · rw [if_neg hj, if_neg hj]
        show _ = (if x.1 = j then some x.2 else lookP l j)
        rw [if_neg (fun e => hj (by rw [← e, hx]))]
    · rw [List.filter_cons, if_pos (by simp [hx])]
      show (if x.1 = j then some x.2 else lookP _ j) = _
      rw [ih]
      by_cases hj : j = k
      · rw [if_pos hj, if_pos hj, if_neg (fun e => hx (by rw [e, hj]))]
      · rw [if_neg hj, if_neg hj]; rfl
theorem lookP_set (l : List (α × β)) (k : α) (v : β) (j : α) : lookP (setP l k v) j = if j = k then some v else lookP l j := by
  unfold setP
  by_cases hs : (lookP l k).isSome = true
  · rw [if_pos hs]
    have key : ∀ m : List (α × β), lookP (m.map fun x => if x.1 = k then (k, v) else x) j = if j = k then (if (lookP m k).isSome = true then some v else none) else lookP m j := by
      intro m
      induction m with
      | nil => show none = (if j = k then (if (none : Option β).isSome = true then some v else none) else none); split <;> rfl
      | cons x m ih =>
        rw [List.map_cons]
        by_cases hx : x.1 = k
        · rw [if_pos hx]
          show (if k = j then some v else lookP _ j) = _
          by_cases hj : j = k
          · rw [if_pos hj.symm, if_pos hj]
            unfold lookP; rw [if_pos hx]; rfl
          · rw [if_neg (fun e => hj e.symm), if_neg hj, ih, if_neg hj]
            show _ = (if x.1 = j then some x.2 else lookP m j)
            rw [if_neg (fun e => hj (by rw [← e, hx]))]
        · rw [if_neg hx]
          show (if x.1 = j then some x.2 else lookP _ j) = _
          by_cases hj : j = k
          · rw [if_neg (fun e => hx (by rw [e, hj])), ih, if_pos hj, if_pos hj]
            show _ = (if (if x.1 = k then some x.2 else lookP m k).isSome = true then some v else none)
            rw [if_neg hx]
          · rw [ih, if_neg hj, if_neg hj]; rfl
    rw [key, hs]; rfl
  · rw [if_neg hs]
    have key : ∀ m : List (α × β), lookP m k = none → lookP (m ++ [(k, v)]) j = if j = k then some v else lookP m j := by
      intro m hm
      induction m with
      | nil =>
        show (if k = j then some v else none) = _
        by_cases hj : j = k
        · rw [if_pos hj.symm, if_pos hj]
        · rw [if_neg (fun e => hj e.symm), if_neg hj]; rfl
      | cons x m ih =>
        have hx : x.1 ≠ k := lookP_none hm x (List.mem_cons_self ..)
        have hm2 : lookP m k = none := by unfold lookP at hm; rwa [if_neg hx] at hm
        show (if x.1 = j then some x.2 else lookP (m ++ [(k, v)]) j) = _
        rw [ih hm2]
        by_cases hj : j = k
        · rw [if_pos hj, if_pos hj, if_neg (fun e => hx (by rw [e, hj]))]
        · rw [if_neg hj, if_neg hj]; rfl
    exact key l (by cases h : lookP l k with
      | none => rfl
      | some x => rw [h] at hs; exact absurd rfl hs)
end
theorem nodup_map_injV {α β : Type} {f : α → β} : ∀ {l : List α} {x y : α}, (l.map f).Nodup → x ∈ l → y ∈ l → f x = f y → x = y
  | z :: l, x, y, hn, hx, hy, he => by
    obtain ⟨h1, h2⟩ := List.nodup_cons.1 (show (f z :: l.map f).Nodup from hn)
    rcases List.mem_cons.1 hx with ex | hx' <;> rcases List.mem_cons.1 hy with ey | hy'
    · rw [ex, ey]
    · exact absurd (List.mem_map.2 ⟨y, hy', by rw [← he, ex]⟩) h1
    · exact absurd (List.mem_map.2 ⟨x, hx', by rw [he, ey]⟩) h1
    · exact nodup_map_injV h2 hx' hy' he
theorem Blk.ne_map {α : Type} {kv : α → Value} {w : World} {a b : Nat} {cs : List Value} {t : TypeId} {l : List (α × Value)} (h : Blk w a cs t) (hm : MapG kv w b l) : a ≠ b := fun e => by
  obtain ⟨es, cl, h1, _⟩ := hm
  have h2 : w.heap[a]? = some (.cells cs.toArray t) := h
  rw [e, h1] at h2; cases h2

end Go.Proofs.Ytkmciohghhffnaa.B
