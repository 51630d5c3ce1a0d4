/-
  What Do's lemmas say, over volumes.
-/
import Derived.Test.YtkmciohghhffnaaGreatVol4
namespace Go.Proofs.YtkmciohghhffnaaGreat.B
open Go
set_option linter.unusedVariables false
set_option maxHeartbeats 2000000
set_option maxRecDepth 100000
attribute [local irreducible] W OpsW OpsQ retP
def NdA (l : AL) : Prop := (l.map (·.1)).Nodup ∧ ∀ x ∈ l, (x.2.bl.map (·.1)).Nodup
def FindC (l : AL) (nm : List UInt8) (z : Int) : Prop := (lookP l nm = none ∧ z = -1) ∨ ∃ (v : VA) (k : Nat), lookP l nm = some v ∧ z = k ∧ (imgD l)[k]? = some ⟨nm, v.q, v.fr, blkS v.bl⟩
theorem find_case {l : AL} {nm : List UInt8} {z : Int} (hz : FindP (imgD l) nm z) : FindC l nm z := by
  cases hv : lookP l nm with
  | none => exact .inl ⟨hv, find_none hz hv⟩
  | some v =>
    obtain ⟨k, e, hk⟩ := find_some hv hz
    exact .inr ⟨v, k, hv, e, hk⟩
theorem imgD_len (l : AL) : (imgD l).length = l.length := by unfold imgD; rw [List.length_map, namesD_len]
theorem imgD_name {l : AL} {k : Nat} {i : Img} (h : (imgD l)[k]? = some i) : (namesD l)[k]? = some i.nm := by
  unfold imgD at h
  rw [List.getElem?_map] at h
  cases hn : (namesD l)[k]? with
  | none => rw [hn] at h; cases h
  | some n => rw [hn] at h; have := Option.some.inj h; rw [← this, imgOf_nm]
/-- Images with one less. -/
theorem ImgsS.cut {w w' : World} {v r : Value} {L : List Img} {ys : List (Img × Value)} {k : Nat} (h : ImgsS w v L ys) (hk : Keep All w w') (hkl : k < L.length) (hr : Sl w' r (L.length - 1) 4 (rows imR (ys.take k) ++ rows imR (ys.drop (k + 1)))) :
    ImgsS w' r (L.take k ++ L.drop (k + 1)) (ys.take k ++ ys.drop (k + 1)) := by
  have h24 := h.k hk
  refine ⟨by rw [List.map_append, List.map_take, List.map_drop, h.e], ?_, fun y hy => ?_⟩
  · have e1 : (L.take k ++ L.drop (k + 1)).length = L.length - 1 := by
      rw [List.length_append, List.length_take, List.length_drop]; omega
    rw [e1, rows_app]; exact hr
  · rcases List.mem_append.1 hy with hy | hy
    · exact h24.b y (List.mem_of_mem_take hy)
    · exact h24.b y (List.mem_of_mem_drop hy)
/-- Where a number was found. -/
def HadP (bs : List (Int × Bk)) (n : Int) (j : Nat) (z : Int) : Prop := (z = -1 ∧ ∀ p ∈ bs.take j, p.1 ≠ n) ∨ ∃ (m : Nat) (p : Int × Bk), z = m ∧ bs[m]? = some p ∧ p.1 = n
theorem had_none {bl : List (Int × Bk)} {n z : Int} (h : HadP (blkS bl) n (blkS bl).length z) (hz : z < 0) : lookP bl n = none := by
  rcases h with ⟨_, h⟩ | ⟨m, _, e, _⟩
  · rw [List.take_length] at h
    cases hv : lookP bl n with
    | none => rfl
    | some b => exact absurd rfl (h (n, b) (blkS_mem.2 hv))
  · omega
theorem had_some {bl : List (Int × Bk)} {n z : Int} {j : Nat} (h : HadP (blkS bl) n j z) (hz : ¬ z < 0) : ∃ (m : Nat) (p : Int × Bk), z = m ∧ (blkS bl)[m]? = some p ∧ lookP bl n = some p.2 := by
  rcases h with ⟨h, _⟩ | ⟨m, p, e, h1, h2⟩
  · omega
  · exact ⟨m, p, e, h1, by rw [← h2]; exact blkS_mem.1 (List.mem_of_getElem? h1)⟩
theorem rows_set3 : ∀ {ys : List (Img × Value)} {k : Nat} {i i' : Img} {x u : Value}, ys[k]? = some (i, x) → i'.nm = i.nm → i'.q = i.q → i'.fr = i.fr → (rows imR ys).set (k * 4 + 3) u = rows imR (ys.set k (i', u))
  | [], _, _, _, _, _, h, _, _, _ => by cases h
  | y :: ys, 0, i, i', x, u, h, h1, h2, h3 => by
    have h : y = (i, x) := by simpa using h
    subst h
    rw [List.set_cons_zero, rows_cons, rows_cons, List.set_append_left _ _ (by rw [imR_len]; decide)]
    unfold imR
    rw [h1, h2, h3]; rfl
  | y :: ys, k + 1, i, i', x, u, h, h1, h2, h3 => by
    rw [List.getElem?_cons_succ] at h
    rw [List.set_cons_succ, rows_cons, rows_cons, List.set_append_right _ _ (by rw [imR_len]; omega), imR_len, show (k + 1) * 4 + 3 - 4 = k * 4 + 3 by omega, rows_set3 h h1 h2 h3]
theorem fin_len (n : Int) (b : Bk) (tr : Bool) (l : List (Int × Bk)) : (finN n b tr l).length ≤ l.length + 1 := by
  unfold finN
  have h := accN_len n b tr l
  split
  · rename_i e
    rw [List.length_append]
    have := h.2 e
    simp; omega
  · exact h.1

end Go.Proofs.YtkmciohghhffnaaGreat.B
