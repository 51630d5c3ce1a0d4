/-
  An index from bytes (plain).
-/
import Derived.Test.YtkmciohghhffnaaPackCan
import Derived.Test.YtkmciohghhffnaaIn01b
namespace Go.Proofs.Ytkmciohghhffnaa.B
open Go
set_option linter.unusedVariables false
set_option maxHeartbeats 2000000
set_option maxRecDepth 100000
attribute [local irreducible] W OpsW OpsQ retP
/-- Where a block stands, and how often it is used. -/
structure UV where
  bin : Int
  slot : Int
  n : Int
deriving DecidableEq
abbrev Itm := Dig × UV
def itmR (bs : List UInt8) (bad : Bool) : Itm × List UInt8 × Bool :=
  let d := digR bs bad
  let a := numR 2147483648 d.2.1 d.2.2
  let s := numR 65535 a.2.1 a.2.2
  let n := numR 2147483647 s.2.1 s.2.2
  ((d.1, ⟨(a.1 : Int) - 1, (s.1 : Nat), (n.1 : Nat)⟩), n.2)
/-- May an item stand behind another one? -/
def okI (last : Option Dig) (x : Itm) : Prop := (∀ d ∈ last, d.val < x.1.val) ∧ ¬ (x.2.bin < 0 ∧ 0 < x.2.slot) ∧ x.2.n ≠ 0
instance (last : Option Dig) (x : Itm) : Decidable (okI last x) := by unfold okI; infer_instance
/-- May items be those of an index? -/
def okL : Option Dig → List Itm → Prop
  | _, [] => True
  | last, x :: l => okI last x ∧ okL (some x.1) l
instance okLD : (last : Option Dig) → (l : List Itm) → Decidable (okL last l)
  | _, [] => isTrue trivial
  | last, x :: l => by
    have := okLD (some x.1) l
    show Decidable (okI last x ∧ okL (some x.1) l)
    infer_instance
/-- Items from bytes, right ones. -/
def itmsR : Nat → Option Dig → List UInt8 → Option (List Itm × List UInt8)
  | 0, _, bs => some ([], bs)
  | k + 1, last, bs =>
    let x := itmR bs false
    if x.2.2 = true ∨ ¬ okI last x.1 then none else
    match itmsR k (some x.1.1) x.2.1 with
    | none => none
    | some r => some (x.1 :: r.1, r.2)
def idxR (bs : List UInt8) : Option (List Itm) :=
  let n := numR bs.length bs false
  if n.2.2 = true then none else
  match itmsR n.1 none n.2.1 with
  | none => none
  | some r => if r.2 = [] then some r.1 else none
def encIt (x : Itm) : List UInt8 := x.1.val ++ (encN (x.2.bin + 1).toNat ++ (encN x.2.slot.toNat ++ encN x.2.n.toNat))
def encX (l : List Itm) : List UInt8 := encN l.length ++ l.flatMap encIt
/-- What is read is in bounds. -/
def inI (x : Itm) : Prop := -1 ≤ x.2.bin ∧ x.2.bin < 2147483648 ∧ 0 ≤ x.2.slot ∧ x.2.slot ≤ 65535 ∧ 0 ≤ x.2.n ∧ x.2.n ≤ 2147483647
theorem itmR_in (bs : List UInt8) (bad : Bool) : inI (itmR bs bad).1 := by
  have h1 := numR_le 2147483648 (digR bs bad).2.1 (digR bs bad).2.2
  have h2 := numR_le 65535 (numR 2147483648 (digR bs bad).2.1 (digR bs bad).2.2).2.1 (numR 2147483648 (digR bs bad).2.1 (digR bs bad).2.2).2.2
  have h3 := numR_le 2147483647 (numR 65535 (numR 2147483648 (digR bs bad).2.1 (digR bs bad).2.2).2.1 (numR 2147483648 (digR bs bad).2.1 (digR bs bad).2.2).2.2).2.1 (numR 65535 (numR 2147483648 (digR bs bad).2.1 (digR bs bad).2.2).2.1 (numR 2147483648 (digR bs bad).2.1 (digR bs bad).2.2).2.2).2.2
  unfold inI itmR
  simp only
  omega
theorem itmR_can {bs r : List UInt8} {bad : Bool} {x : Itm} (h : itmR bs bad = (x, r, false)) : bad = false ∧ bs = encIt x ++ r := by
  unfold itmR at h
  simp only at h
  obtain ⟨h1, h2⟩ := Prod.mk.inj h
  have c4 := numR_can (show numR 2147483647 _ _ = (_, r, false) from Prod.ext rfl h2)
  have c3 := numR_can (c4.1 ▸ trip (numR 65535 (numR 2147483648 (digR bs bad).2.1 (digR bs bad).2.2).2.1 (numR 2147483648 (digR bs bad).2.1 (digR bs bad).2.2).2.2))
  have c2 := numR_can (c3.1 ▸ trip (numR 2147483648 (digR bs bad).2.1 (digR bs bad).2.2))
  have c1 := digR_can (c2.1 ▸ trip (digR bs bad))
  refine ⟨c1.1, ?_⟩
  subst h1
  unfold encIt
  simp only [Int.sub_add_cancel, Int.toNat_natCast]
  rw [List.append_assoc, List.append_assoc, List.append_assoc, ← c4.2.1, ← c3.2.1, ← c2.2.1]
  exact c1.2
theorem itmsR_can : ∀ (k : Nat) (last : Option Dig) (bs r : List UInt8) (l : List Itm), itmsR k last bs = some (l, r) → l.length = k ∧ bs = l.flatMap encIt ++ r ∧ okL last l ∧ ∀ x ∈ l, inI x
  | 0, last, bs, r, l, h => by
    injection h with h; injection h with h1 h2; subst h1; subst h2
    exact ⟨rfl, rfl, trivial, fun x hx => by cases hx⟩
  | k + 1, last, bs, r, l, h => by
    unfold itmsR at h
    simp only at h
    split at h
    · cases h
    · rename_i hc
      split at h
      · cases h
      · rename_i p hp
        obtain ⟨pl, pr⟩ := p
        injection h with h; injection h with h1 h2; subst h1; subst h2
        obtain ⟨i1, i2, i3, i4⟩ := itmsR_can k _ _ _ _ hp
        have hb : (itmR bs false).2.2 = false := by
          cases hb : (itmR bs false).2.2 with
          | false => rfl
          | true => exact absurd (.inl hb) hc
        have ho : okI last (itmR bs false).1 := Classical.byContradiction fun hh => hc (.inr hh)
        obtain ⟨_, c1⟩ := itmR_can (hb ▸ trip (itmR bs false))
        refine ⟨by rw [List.length_cons, i1], ?_, ⟨ho, i3⟩, fun x hx => ?_⟩
        · rw [List.flatMap_cons, List.append_assoc, ← i2]; exact c1
        · rcases List.mem_cons.1 hx with rfl | hx
          · exact itmR_in bs false
          · exact i4 x hx
theorem idxR_can {bs : List UInt8} {l : List Itm} (h : idxR bs = some l) : bs = encX l ∧ okL none l ∧ (∀ x ∈ l, inI x) ∧ l.length ≤ bs.length := by
  unfold idxR at h
  simp only at h
  split at h
  · cases h
  · rename_i hb
    have hb : (numR bs.length bs false).2.2 = false := by simpa using hb
    split at h
    · cases h
    · rename_i p hp
      obtain ⟨pl, pr⟩ := p
      split at h
      · rename_i hr
        injection h with h; subst h
        obtain ⟨i1, i2, i3, i4⟩ := itmsR_can _ _ _ _ _ hp
        obtain ⟨_, c2, c3, _⟩ := numR_can (hb ▸ trip (numR bs.length bs false))
        have hr : pr = [] := hr
        refine ⟨?_, i3, i4, by rw [i1]; exact c3⟩
        unfold encX
        rw [i1]
        rw [hr, List.append_nil] at i2
        rw [← i2]; exact c2
      · cases h
/-- Right items rise. -/
theorem okL_up : ∀ {last : Option Dig} {l : List Itm}, okL last l → (∀ d ∈ last, ∀ x ∈ l, d.val < x.1.val) ∧ l.Pairwise (fun a b => a.1.val < b.1.val) ∧ ∀ x ∈ l, ¬ (x.2.bin < 0 ∧ 0 < x.2.slot) ∧ x.2.n ≠ 0
  | last, [], _ => ⟨(fun d _ x hx => by cases hx), List.Pairwise.nil, (fun x hx => by cases hx)⟩
  | last, y :: l, ⟨h1, h2⟩ => by
    obtain ⟨i1, i2, i3⟩ := okL_up h2
    refine ⟨fun d hd x hx => ?_, List.pairwise_cons.2 ⟨fun x hx => i1 _ rfl x hx, i2⟩, fun x hx => ?_⟩
    · rcases List.mem_cons.1 hx with rfl | hx
      · exact h1.1 d hd
      · exact List.lt_trans (h1.1 d hd) (i1 _ rfl x hx)
    · rcases List.mem_cons.1 hx with rfl | hx
      · exact h1.2
      · exact i3 x hx
/-- Items from bytes, until something is wrong. -/
def rawR : Nat → List UInt8 → Bool → List Itm × List UInt8 × Bool
  | 0, bs, bad => ([], bs, bad)
  | k + 1, bs, bad => if bad = true then ([], bs, bad) else
    let x := itmR bs false
    let r := rawR k x.2.1 x.2.2
    (x.1 :: r.1, r.2)
theorem rawR_bad (k : Nat) (bs : List UInt8) : rawR k bs true = ([], bs, true) := by
  cases k with
  | zero => rfl
  | succ k => unfold rawR; rw [if_pos rfl]
theorem raw_itms : ∀ (k : Nat) (last : Option Dig) (bs : List UInt8), itmsR k last bs = if (rawR k bs false).2.2 = false ∧ okL last (rawR k bs false).1 then some ((rawR k bs false).1, (rawR k bs false).2.1) else none
  | 0, last, bs => by
    rw [if_pos ⟨rfl, trivial⟩]; rfl
  | k + 1, last, bs => by
    have hr : rawR (k + 1) bs false = ((itmR bs false).1 :: (rawR k (itmR bs false).2.1 (itmR bs false).2.2).1, (rawR k (itmR bs false).2.1 (itmR bs false).2.2).2) := by
      conv => lhs; unfold rawR
      rw [if_neg (by decide)]
    rw [hr]
    unfold itmsR
    simp only
    cases hb : (itmR bs false).2.2 with
    | true =>
      rw [rawR_bad, if_pos (.inl rfl), if_neg]
      rintro ⟨h, _⟩; cases h
    | false =>
      by_cases ho : okI last (itmR bs false).1
      · rw [if_neg (by rintro (h | h); cases h; exact h ho), raw_itms k (some (itmR bs false).1.1) (itmR bs false).2.1]
        by_cases hh : (rawR k (itmR bs false).2.1 false).2.2 = false ∧ okL (some (itmR bs false).1.1) (rawR k (itmR bs false).2.1 false).1
        · rw [if_pos hh, if_pos ⟨hh.1, ho, hh.2⟩]
        · rw [if_neg hh, if_neg]
          rintro ⟨h1, _, h2⟩; exact hh ⟨h1, h2⟩
      · rw [if_pos (.inr ho), if_neg]
        rintro ⟨_, h, _⟩; exact ho h
end Go.Proofs.Ytkmciohghhffnaa.B
