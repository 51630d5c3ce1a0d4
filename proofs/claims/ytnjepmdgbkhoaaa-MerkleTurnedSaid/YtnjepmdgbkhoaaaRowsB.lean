/-
  Rows of bytes: kept, built, cut.
-/
import Derived.Test.YtnjepmdgbkhoaaaTag
import Derived.Test.YtnjepmdgbkhoaaaMono
import Derived.Test.YtnjepmdgbkhoaaaDig
namespace Go.Proofs.Ytnjepmdgbkhoaaa.B
open Go
set_option linter.unusedVariables false
set_option maxHeartbeats 2000000
set_option maxRecDepth 100000
attribute [local irreducible] W OpsW OpsQ retP
theorem rowsB_keep {w w' : World} {v : Value} {pss : List (List UInt8)} (h : SlR w v 1 (RowB w) pss) (hk : Keep All w w') : SlR w' v 1 (RowB w') pss := by
  obtain ⟨a, c, rfl, h1, h2, h3, h4⟩ := h
  refine ⟨a, c, rfl, h1, h2, h3, fun x hx i y hy => ?_⟩
  obtain ⟨cs, hl, hc, v, rfl, hb⟩ := h4 x hx i y hy
  exact ⟨[v], hl, fun j u hu => hk.cell (hc j u hu) trivial, v, rfl, hb.keep hk (fun _ _ => trivial)⟩
theorem Sl.k {w w' : World} {v : Value} {n sz : Nat} {xs : List Value} (h : Sl w v n sz xs) (hk : Keep All w w') : Sl w' v n sz xs := h.keep hk (fun _ _ => trivial)
/-- A block of slices of bytes, as rows. -/
theorem rowsB_blk {w : World} {b : Nat} {e : TypeId} {vs : List Value} {xs : List (List UInt8)} (hB : Blk w b vs e) (hl : vs.length = xs.length) (hm : xs.length ≤ maxLen) (h : ∀ (i : Nat) (v : Value) (x : List UInt8), vs[i]? = some v → xs[i]? = some x → By w v x) :
    SlR w (.slice (some ⟨b, 0, none⟩) xs.length xs.length) 1 (RowB w) xs :=
  ⟨_, _, rfl, Nat.le_refl _, hm, (fun e => by cases e), fun x hx i y hy => by
    injection hx with hx; subst hx
    have hi := (List.getElem?_eq_some_iff.1 hy).1
    obtain ⟨v, hv⟩ : ∃ v, vs[i]? = some v := ⟨_, List.getElem?_eq_getElem (by omega)⟩
    refine ⟨[v], rfl, fun j u hu => ?_, v, rfl, h i v y hv hy⟩
    match j, hu with
    | 0, hu =>
      injection hu with hu; subst hu
      rw [Addr.add_lit, Addr.add_lit, Nat.zero_add, Nat.mul_one]
      exact hB.cell hv⟩
theorem rowsB_two {w : World} {b : Nat} {e : TypeId} {va vb : Value} {xa bs : List UInt8} (hB : Blk w b [va, vb] e) (ha : By w va xa) (hb : By w vb bs) : SlR w (.slice (some ⟨b, 0, none⟩) 2 2) 1 (RowB w) [xa, bs] :=
  rowsB_blk (xs := [xa, bs]) hB rfl (show 2 ≤ 2 ^ 63 - 1 by decide) fun i v x hv hx => by
    match i, hv, hx with
    | 0, hv, hx => injection hv with hv; injection hx with hx; subst hv; subst hx; exact ha
    | 1, hv, hx => injection hv with hv; injection hx with hx; subst hv; subst hx; exact hb
theorem tagB_len {use : UInt8} {pss : List (List UInt8)} {n m : Nat} (h : ∀ p ∈ pss, p.length ≤ n) (hn : n < 2 ^ 63) (hm : pss.length ≤ m) : (tagB use pss).length ≤ (n + 10) * m + 1 := by
  have h1 := flat_enc hn h
  have h2 := Nat.mul_le_mul_left (n + 10) hm
  unfold tagB
  rw [List.length_cons]; omega

/-- A part of rows. -/
theorem SlR.sub {α : Type} {w : World} {a : Option Addr} {c sz l h m : Nat} {R : List Value → α → Prop} {xs : List α} (hs : SlR w (.slice a xs.length c) sz R xs) (h1 : l ≤ h) (h2 : h ≤ xs.length) (h3 : h ≤ m) (h4 : m ≤ c) (h0 : 0 < sz) :
    SlR w (subSl a sz l h m) sz R ((xs.take h).drop l) := by
  obtain ⟨a', c', e, h5, h6, h7, h8⟩ := hs
  injection e with e1 e2 e3
  subst e1; subst e3
  have hl : ((xs.take h).drop l).length = h - l := by rw [List.length_drop, List.length_take]; omega
  unfold subSl
  refine ⟨_, _, by rw [hl], by rw [hl]; omega, by omega, ?_, ?_⟩
  · intro he
    cases a with
    | none => have := h7 rfl; omega
    | some x => split at he <;> first | omega | cases he
  · intro x hx i y hy
    have hi := (List.getElem?_eq_some_iff.1 hy).1
    rw [hl] at hi
    rw [List.getElem?_drop, List.getElem?_take, if_pos (by omega)] at hy
    cases a with
    | none => split at hx <;> cases hx
    | some z =>
      rw [if_neg (by omega), Option.map_some] at hx
      injection hx with hx
      obtain ⟨cs, hcl, hc, hr⟩ := h8 z rfl (l + i) y hy
      refine ⟨cs, hcl, fun j u hu => ?_, hr⟩
      obtain ⟨b, o, sp⟩ := z
      have hsp : sp = none := by
        obtain ⟨cs0, hl0, hc0, _⟩ := h8 _ rfl 0 xs[0] (List.getElem?_eq_getElem (by omega))
        have h5 := hc0 0 cs0[0] (List.getElem?_eq_getElem (by omega))
        simp only [Nat.zero_mul, Addr.add_zero'] at h5
        exact World.cell?_spot h5
      subst hsp
      have := hc j u hu
      rw [← hx]
      simp only [Addr.add_lit] at this ⊢
      rw [← this, show o + l * sz + i * sz + j = o + (l + i) * sz + j by rw [Nat.add_mul]; omega]
/-- Rows of one's choice. -/
theorem SlR.nil {α : Type} {w : World} {sz : Nat} {R : List Value → α → Prop} : SlR w (.slice none 0 0) sz R [] := ⟨none, 0, rfl, Nat.le_refl _, Nat.zero_le _, fun _ => rfl, fun x hx => by cases hx⟩
/-- The digest of tagged rows. -/
def tagD (use : UInt8) (pss : List (List UInt8)) : Dig := ⟨tagF use pss, tagF_len use pss⟩
end Go.Proofs.Ytnjepmdgbkhoaaa.B
