/-
  Rows of bytes with their slices fixed; slices that stay; a field of a struct.
-/
import Derived.Test.YtkmciohghhffnaaGreatMTag
import Derived.Test.YtkmciohghhffnaaGreatFld
namespace Go.Proofs.YtkmciohghhffnaaGreat.B
open Go
set_option linter.unusedVariables false
set_option maxHeartbeats 2000000
set_option maxRecDepth 100000
attribute [local irreducible] W OpsW OpsQ retP
theorem Sl.keepE {w w' : World} {C : Nat → Prop} {v : Value} {n sz : Nat} {cs : List Value} (h : Sl w v n sz cs) (hk : Keep C w w') (hC : ∀ z, z < w.heap.size → C z) : Sl w' v n sz cs := by
  obtain ⟨a, c, rfl, h1, h2, h3, h4, h5⟩ := h
  exact ⟨a, c, rfl, h1, h2, h3, h4, fun x hx i u hu => ⟨(h5 x hx i u hu).1, hk.cell (h5 x hx i u hu).2 (hC _ (World.block_lt_of_cell? w _ (h5 x hx i u hu).2))⟩⟩
/-- Rows of bytes whose slices are these. -/
def RowsV (w : World) (v : Value) (vks : List Value) (xs : List (List UInt8)) : Prop := vks.length = xs.length ∧ Sl w v xs.length 1 vks ∧ ∀ (i : Nat) (u : Value) (x : List UInt8), vks[i]? = some u → xs[i]? = some x → By w u x
theorem RowsV.of {w : World} {v : Value} {xs : List (List UInt8)} (h : SlR w v 1 (RowB w) xs) : ∃ vks, RowsV w v vks xs := by
  obtain ⟨a, c, rfl, h1, h2, h3, h4⟩ := h
  cases a with
  | none =>
    have hc := h3 rfl
    obtain rfl : xs = [] := List.eq_nil_of_length_eq_zero (by omega)
    exact ⟨[], rfl, ⟨none, c, rfl, h1, h2, rfl, h3, fun x hx => by cases hx⟩, fun i u x hu => by cases hu⟩
  | some ad =>
    obtain ⟨vks, hl, hv⟩ := list_of (R := fun i u => w.cell? (ad.add (i * 1)) = some u ∧ ∀ x, xs[i]? = some x → By w u x) xs.length (fun i hi => by
      obtain ⟨cs, hcl, hc, u, rfl, hb⟩ := h4 ad rfl i xs[i] (List.getElem?_eq_getElem hi)
      have h5 := hc 0 u rfl
      rw [Addr.add_zero'] at h5
      exact ⟨u, h5, fun x hx => by rw [List.getElem?_eq_getElem hi] at hx; injection hx with hx; rw [← hx]; exact hb⟩)
    refine ⟨vks, hl, ⟨some ad, c, rfl, h1, h2, by rw [hl, Nat.mul_one], h3, fun x hx i u hu => ?_⟩, fun i u x hu hx => (hv i u hu).2 x hx⟩
    injection hx with hx; subst hx
    have h5 := (hv i u hu).1
    obtain ⟨u0, hu0⟩ : ∃ u0, vks[0]? = some u0 := ⟨_, List.getElem?_eq_getElem (by have := (List.getElem?_eq_some_iff.1 hu).1; omega)⟩
    have h6 := (hv 0 u0 hu0).1
    rw [Nat.zero_mul, Addr.add_zero'] at h6
    obtain ⟨b, o, sp⟩ := ad
    have hsp : sp = none := World.cell?_spot h6
    subst hsp
    rw [Nat.mul_one, Addr.add_lit] at h5
    exact ⟨rfl, h5⟩
theorem RowsV.slR {w : World} {v : Value} {vks : List Value} {xs : List (List UInt8)} (h : RowsV w v vks xs) : SlR w v 1 (RowB w) xs := by
  obtain ⟨hl, ⟨a, c, rfl, h1, h2, h3, h4, h5⟩, h6⟩ := h
  refine ⟨a, c, rfl, h1, h2, h4, fun x hx i y hy => ?_⟩
  have hi := (List.getElem?_eq_some_iff.1 hy).1
  obtain ⟨u, hu⟩ : ∃ u, vks[i]? = some u := ⟨_, List.getElem?_eq_getElem (by omega)⟩
  refine ⟨[u], rfl, fun j v' hj => ?_, u, rfl, h6 i u y hu hy⟩
  match j, hj with
  | 0, hj =>
    injection hj with hj; subst hj
    obtain ⟨hs, hc⟩ := h5 x hx i u hu
    obtain ⟨b, o, sp⟩ := x
    simp only at hs; subst hs
    rw [Nat.mul_one, Addr.add_lit, Addr.add_zero']
    exact hc
theorem RowsV.keepE {w w' : World} {C : Nat → Prop} {v : Value} {vks : List Value} {xs : List (List UInt8)} (h : RowsV w v vks xs) (hk : Keep C w w') (hC : ∀ z, z < w.heap.size → C z) : RowsV w' v vks xs :=
  ⟨h.1, h.2.1.keepE hk hC, fun i u x hu hx => (h.2.2 i u x hu hx).keepE hk hC⟩
theorem RowsV.k {w w' : World} {v : Value} {vks : List Value} {xs : List (List UInt8)} (h : RowsV w v vks xs) (hk : Keep All w w') : RowsV w' v vks xs := h.keepE hk fun _ _ => trivial
theorem mid_get {A B C : List Value} {n : Nat} (hA : A.length = n) {j : Nat} {v : Value} (h : B[j]? = some v) : (A ++ (B ++ C))[n + j]? = some v := by
  rw [List.getElem?_append_right (by omega), hA, Nat.add_sub_cancel_left]
  rw [List.getElem?_append_left (List.getElem?_eq_some_iff.1 h).1]; exact h
theorem mid_splice {A B B' C : List Value} {n : Nat} (hA : A.length = n) (hB : B.length = B'.length) : splice (A ++ (B ++ C)) n B' = A ++ (B' ++ C) := by
  unfold splice
  rw [List.take_left' hA, ← List.append_assoc A B C, List.drop_left' (by rw [List.length_append, hA, hB]), List.append_assoc]
/-- Where row k of a slice of slices lies. -/
theorem RowsV.at {w : World} {v : Value} {vks : List Value} {xs : List (List UInt8)} {k : Nat} {u : Value} (h : RowsV w v vks xs) (hk : vks[k]? = some u) : ∃ bp op cp, v = .slice (some ⟨bp, op, none⟩) xs.length cp ∧ w.cell? ⟨bp, op + k, none⟩ = some u := by
  have hi := (List.getElem?_eq_some_iff.1 hk).1
  obtain ⟨b, o, c, e, _, _, hc⟩ := h.2.1.at (by have := h.1; omega)
  exact ⟨b, o, c, e, hc k u hk⟩
end Go.Proofs.YtkmciohghhffnaaGreat.B
