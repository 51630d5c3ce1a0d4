/-
  sporranref08: Less, Find, Drop, Put.
-/
import Derived.Test.YtpiidddccmohdabDoorTreI
namespace Go.Proofs.YtpiidddccmohdabDoor.B
open Go
set_option linter.unusedVariables false
set_option maxHeartbeats 2000000
set_option maxRecDepth 100000
attribute [local irreducible] W OpsW OpsQ retP
theorem findI_drop (key : Dig) : ∀ (l : List It) (k i : Nat) (y : It), l[k]? = some y → y.1 ≠ key → findI key (l.drop k) i = findI key (l.drop (k + 1)) (i + 1)
  | x :: l, 0, i, y, h, hne => by
    simp at h; subst h
    show (if x.1 = key then (i : Int) else findI key l (i + 1)) = _
    rw [if_neg hne]; rfl
  | x :: l, k + 1, i, y, h, hne => findI_drop key l k i y (by simpa using h) hne
  | [], k, i, y, h, hne => by cases h
theorem findI_hit (key : Dig) : ∀ (l : List It) (k i : Nat) (y : It), l[k]? = some y → y.1 = key → findI key (l.drop k) i = i
  | x :: l, 0, i, y, h, he => by
    simp at h; subst h
    show (if x.1 = key then (i : Int) else findI key l (i + 1)) = _
    rw [if_pos he]
  | x :: l, k + 1, i, y, h, he => findI_hit key l k i y (by simpa using h) he
  | [], k, i, y, h, he => by cases h
theorem itR_dg {w : World} {b off : Nat} {y : It} {vv : Value} (hc : ∀ (j : Nat) (u : Value), (itR (y.1, vv))[j]? = some u → w.cell? ((⟨b, off, none⟩ : Addr).add j) = some u) : ∀ (j : Nat) (u : Value), (dgR y.1)[j]? = some u → w.cell? ((⟨b, off, none⟩ : Addr).add j) = some u := fun j u hj => hc j u (by
  unfold itR; rw [List.getElem?_append_left (List.getElem?_eq_some_iff.1 hj).1]; exact hj)
theorem fill_it {pl : List (Nat × Nat)} {zl : List Value} {d : Dig} {v : Value} (hp : pl = [(0, 32), (32, 1)]) (hz : zl.length = 33) (hv : one v = true) :
    fillV (fun i => pl[i]?) zl [(0, .agg (dgR d).toArray), (1, v)] = some (itR (d, v)) := by
  subst hp
  obtain ⟨A, p, rfl⟩ : ∃ A p, zl = A ++ [p] := by
    rcases List.eq_nil_or_concat zl with rfl | ⟨L, q, rfl⟩
    · cases hz
    · exact ⟨L, q, by simp⟩
  have hA : A.length = 32 := by simpa using hz
  have hd := dgR_len d
  have e1 : splice (A ++ [p]) 0 (dgR d) = dgR d ++ [p] := by
    unfold splice; rw [List.take_zero, List.nil_append, Nat.zero_add, hd, List.drop_left' hA]
  have e2 : splice (dgR d ++ [p]) 32 [v] = itR (d, v) := by
    unfold splice itR; rw [List.take_left' hd, ← List.drop_drop, List.drop_left' hd]; simp
  have hc : v.cells = #[v] := cells_one hv
  have ha : (Value.agg (dgR d).toArray).cells.toList = dgR d := rfl
  have s0 : (Value.agg (dgR d).toArray).cells.size = 32 := by show (dgR d).toArray.size = 32; simp [hd]
  simp only [fillV, List.getElem?_cons_zero, List.getElem?_cons_succ]
  rw [if_pos ⟨s0, by rw [hz]; decide⟩, ha, e1, hc, if_pos ⟨rfl, by simp [hd]⟩]
  show some (splice _ 32 [v]) = _
  rw [e2]
theorem putGo_at (key : Dig) (val : List UInt8) : ∀ (l : List It) (k : Nat) (d : Bool) (y : It), l[k]? = some y → putGo key val d (l.drop k) = ((if (!d && !lessB y.1.val key.val) = true then [(key, val)] else []) ++ if y.1 ≠ key then [y] else []) ++ putGo key val (d || !lessB y.1.val key.val) (l.drop (k + 1))
  | x :: l, 0, d, y, h => by
    simp at h; subst h
    show putGo key val d (x :: l) = _
    rw [putGo]; rfl
  | x :: l, k + 1, d, y, h => putGo_at key val l k d y (by simpa using h)
  | [], k, d, y, h => by cases h
end Go.Proofs.YtpiidddccmohdabDoor.B
