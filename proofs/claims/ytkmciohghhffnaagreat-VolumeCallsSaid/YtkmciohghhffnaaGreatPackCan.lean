/-
  What is read was put: readers and writers of numbers, bytes, Refs, bins and lists of these.
-/
import Derived.Test.YtkmciohghhffnaaGreatMRef
namespace Go.Proofs.YtkmciohghhffnaaGreat.B
open Go
set_option linter.unusedVariables false
set_option maxHeartbeats 2000000
set_option maxRecDepth 100000
attribute [local irreducible] W OpsW OpsQ retP
theorem decN_can : ∀ (bs : List UInt8) (most s a v : Nat) (r : List UInt8), a < 2 ^ s → decN most s a bs = some (v, r) → ∃ y, bs = encN y ++ r ∧ v = a + y * 2 ^ s ∧ (s = 0 ∨ 0 < y) ∧ v < 2 ^ 64 ∧ v ≤ most
  | [], most, s, a, v, r, _, h => by cases h
  | x :: xs, most, s, a, v, r, ha, h => by
    rw [decN_cons] at h
    split at h
    · cases h
    · rename_i hc
      have hxl := x.toNat_lt
      split at h
      · rename_i h128
        have hlt : a + x.toNat % 128 * 2 ^ s < 2 ^ (s + 7) := by
          have h2 : (x.toNat % 128 + 1) * 2 ^ s ≤ 128 * 2 ^ s := Nat.mul_le_mul_right _ (by omega)
          rw [Nat.add_mul, Nat.one_mul] at h2
          rw [Nat.pow_add]; omega
        obtain ⟨y, h1, h2, h3, h4, h5⟩ := decN_can xs most (s + 7) _ v r hlt h
        have hy : 0 < y := h3.resolve_left (by omega)
        have e1 : (x.toNat % 128 + 128 * y) % 128 = x.toNat % 128 := by omega
        have e2 : (x.toNat % 128 + 128 * y) / 128 = y := by omega
        refine ⟨x.toNat % 128 + 128 * y, ?_, ?_, .inr (by omega), h4, h5⟩
        · rw [encN_more (by omega), e1, e2, h1, List.cons_append]
          congr 1
          apply UInt8.toNat_inj.1
          simp; omega
        · rw [h2, Nat.add_mul, Nat.pow_add, show y * (2 ^ s * 2 ^ 7) = 128 * y * 2 ^ s by rw [Nat.mul_comm (2 ^ s), ← Nat.mul_assoc, Nat.mul_comm y], Nat.add_assoc]
      · rename_i h128
        split at h
        · cases h
        · rename_i hm
          injection h with h
          injection h with h1 h2
          have e : x.toNat % 128 = x.toNat := Nat.mod_eq_of_lt (by omega)
          rw [e] at h1 hm hc
          refine ⟨x.toNat, by rw [encN_last (by omega), h2]; simp, h1.symm, ?_, by omega, by omega⟩
          rcases Nat.eq_zero_or_pos s with h0 | h0
          · exact .inl h0
          · rcases Nat.eq_zero_or_pos x.toNat with h00 | h00
            · exact absurd (.inr (.inr ⟨h00, h0⟩)) hc
            · exact .inr h00
theorem numR_can {most : Nat} {bs r : List UInt8} {bad : Bool} {v : Nat} (h : numR most bs bad = (v, r, false)) : bad = false ∧ bs = encN v ++ r ∧ v ≤ most ∧ v < 2 ^ 64 := by
  cases hd : decN most 0 0 bs with
  | none => rw [numR_none hd] at h; injection h with _ h; injection h with _ h; cases h
  | some p =>
    obtain ⟨v', r'⟩ := p
    rw [numR_some hd] at h
    injection h with h1 h; injection h with h2 h3
    subst h1; subst h2
    obtain ⟨y, h4, h5, _, h6, h7⟩ := decN_can bs most 0 0 _ _ (by decide) hd
    obtain rfl : v' = y := by simpa using h5
    exact ⟨h3, h4, h7, h6⟩
theorem numR_enc {most v : Nat} (h : v < 2 ^ 64) (hm : v ≤ most) (rest : List UInt8) : numR most (encN v ++ rest) false = (v, rest, false) := numR_some (dec_enc v most rest h hm)
theorem digR_can {bs r : List UInt8} {bad : Bool} {d : Dig} (h : digR bs bad = (d, r, false)) : bad = false ∧ bs = d.val ++ r := by
  unfold digR at h
  split at h
  · injection h with _ h; injection h with _ h; cases h
  · injection h with h1 h; injection h with h2 h3
    subst h1; subst h2
    exact ⟨h3, (List.take_append_drop 32 bs).symm⟩
theorem digR_enc (d : Dig) (rest : List UInt8) : digR (d.val ++ rest) false = (d, rest, false) := by
  unfold digR
  have hl := d.2
  rw [dif_neg (by rw [List.length_append, hl]; simp)]
  refine Prod.ext (Subtype.ext (List.take_left' hl)) (Prod.ext (List.drop_left' hl) rfl)
theorem trip {α β γ : Type} (p : α × β × γ) : p = (p.1, p.2.1, p.2.2) := rfl
theorem rfR_can {bs r : List UInt8} {bad : Bool} {x : Rf} (h : rfR bs bad = (x, r, false)) : bad = false ∧ bs = encR x ++ r ∧ x.may := by
  have hmay : x.may := by have := rfR_ok (bs := bs) (bad := bad) (by rw [h]); rwa [h] at this
  unfold rfR at h
  simp only at h
  injection h with h1 h; injection h with h2 h3
  rw [h3] at h1
  simp only [Bool.false_eq_true, if_false] at h1
  have c3 := numR_can (h3 ▸ trip (numR 65536 (numR 65535 (digR bs bad).2.1 (digR bs bad).2.2).2.1 (numR 65535 (digR bs bad).2.1 (digR bs bad).2.2).2.2))
  have c2 := numR_can (c3.1 ▸ trip (numR 65535 (digR bs bad).2.1 (digR bs bad).2.2))
  have c1 := digR_can (c2.1 ▸ trip (digR bs bad))
  refine ⟨c1.1, ?_, hmay⟩
  rw [c1.2, c2.2.1, c3.2.1, h2, ← h1]
  unfold encR
  simp only [u64_nat c2.2.2.2, u64_nat c3.2.2.2, List.append_assoc]
/-! ### Bins -/
structure Bn where
  number : Int
  at_ : Int
  count : Int
  root : Dig
deriving DecidableEq
def Bn.zero : Bn := ⟨0, 0, 0, Dig.zero⟩
def encBn (b : Bn) : List UInt8 := encN (u64 b.number) ++ encN (u64 b.at_) ++ encN (u64 b.count) ++ b.root.val
def bnR (bs : List UInt8) (bad : Bool) : Bn × List UInt8 × Bool :=
  let a := numR 2147483647 bs bad
  let b := numR 65535 a.2.1 a.2.2
  let c := numR 65536 b.2.1 b.2.2
  let d := digR c.2.1 c.2.2
  (if d.2.2 = true then Bn.zero else ⟨a.1, b.1, c.1, d.1⟩, d.2.1, d.2.2)
def Bn.may (b : Bn) : Prop := (0 ≤ b.number ∧ b.number ≤ 2147483647) ∧ (0 ≤ b.at_ ∧ b.at_ ≤ 65535) ∧ (0 ≤ b.count ∧ b.count ≤ 65536)
instance (b : Bn) : Decidable b.may := inferInstanceAs (Decidable (_ ∧ _))
theorem bnR_enc {b : Bn} (h : b.may) (rest : List UInt8) : bnR (encBn b ++ rest) false = (b, rest, false) := by
  obtain ⟨⟨a1, a2⟩, ⟨b1, b2⟩, ⟨c1, c2⟩⟩ := h
  have e : encBn b ++ rest = encN (u64 b.number) ++ (encN (u64 b.at_) ++ (encN (u64 b.count) ++ (b.root.val ++ rest))) := by unfold encBn; simp
  unfold bnR
  rw [e]
  simp only
  rw [numR_enc (u64_lt _) (by unfold u64; omega)]
  simp only
  rw [numR_enc (u64_lt _) (by unfold u64; omega)]
  simp only
  rw [numR_enc (u64_lt _) (by unfold u64; omega)]
  simp only
  rw [digR_enc]
  simp only [Bool.false_eq_true, if_false]
  have z1 : ((u64 b.number : Nat) : Int) = b.number := by unfold u64; omega
  have z2 : ((u64 b.at_ : Nat) : Int) = b.at_ := by unfold u64; omega
  have z3 : ((u64 b.count : Nat) : Int) = b.count := by unfold u64; omega
  rw [z1, z2, z3]
theorem bnR_can {bs r : List UInt8} {bad : Bool} {x : Bn} (h : bnR bs bad = (x, r, false)) : bad = false ∧ bs = encBn x ++ r ∧ x.may := by
  unfold bnR at h
  simp only at h
  injection h with h1 h; injection h with h2 h3
  rw [h3] at h1
  simp only [Bool.false_eq_true, if_false] at h1
  have c4 := digR_can (h3 ▸ trip (digR (numR 65536 (numR 65535 (numR 2147483647 bs bad).2.1 (numR 2147483647 bs bad).2.2).2.1 (numR 65535 (numR 2147483647 bs bad).2.1 (numR 2147483647 bs bad).2.2).2.2).2.1 (numR 65536 (numR 65535 (numR 2147483647 bs bad).2.1 (numR 2147483647 bs bad).2.2).2.1 (numR 65535 (numR 2147483647 bs bad).2.1 (numR 2147483647 bs bad).2.2).2.2).2.2))
  have c3 := numR_can (c4.1 ▸ trip (numR 65536 (numR 65535 (numR 2147483647 bs bad).2.1 (numR 2147483647 bs bad).2.2).2.1 (numR 65535 (numR 2147483647 bs bad).2.1 (numR 2147483647 bs bad).2.2).2.2))
  have c2 := numR_can (c3.1 ▸ trip (numR 65535 (numR 2147483647 bs bad).2.1 (numR 2147483647 bs bad).2.2))
  have c1 := numR_can (c2.1 ▸ trip (numR 2147483647 bs bad))
  have m1 := c1.2.2.1
  have m2 := c2.2.2.1
  have m3 := c3.2.2.1
  refine ⟨c1.1, ?_, ?_⟩
  · rw [c1.2.1, c2.2.1, c3.2.1, c4.2, h2, ← h1]
    unfold encBn
    simp only [u64_nat c1.2.2.2, u64_nat c2.2.2.2, u64_nat c3.2.2.2, List.append_assoc]
  · rw [← h1]
    exact ⟨⟨Int.natCast_nonneg _, by show ((numR 2147483647 bs bad).1 : Int) ≤ 2147483647; omega⟩, ⟨Int.natCast_nonneg _, by show ((numR 65535 _ _).1 : Int) ≤ 65535; omega⟩, ⟨Int.natCast_nonneg _, by show ((numR 65536 _ _).1 : Int) ≤ 65536; omega⟩⟩
/-! ### Bytes, and lists -/
def bytsR (most : Nat) (bs : List UInt8) (bad : Bool) : List UInt8 × List UInt8 × Bool := let n := numR most bs bad; tkR n.1 n.2.1 n.2.2
theorem bytsR_enc {b : List UInt8} {most : Nat} (h : b.length ≤ most) (h64 : b.length < 2 ^ 64) (rest : List UInt8) : bytsR most (encB b ++ rest) false = (b, rest, false) := by
  unfold bytsR
  rw [show encB b ++ rest = encN b.length ++ (b ++ rest) by unfold encB; simp, numR_enc h64 h]
  simp only
  unfold tkR
  rw [if_neg (by rw [List.length_append]; simp), List.take_left, List.drop_left]
theorem bytsR_can {most : Nat} {bs r x : List UInt8} {bad : Bool} (h : bytsR most bs bad = (x, r, false)) : bad = false ∧ bs = encB x ++ r ∧ x.length ≤ most := by
  unfold bytsR tkR at h
  simp only at h
  split at h
  · injection h with _ h; injection h with _ h; cases h
  · rename_i hc
    injection h with h1 h; injection h with h2 h3
    have c1 := numR_can (h3 ▸ trip (numR most bs bad))
    have hl : x.length = (numR most bs bad).1 := by rw [← h1, List.length_take]; omega
    refine ⟨c1.1, ?_, by rw [hl]; exact c1.2.2.1⟩
    rw [c1.2.1]
    unfold encB
    rw [hl, List.append_assoc, ← h1, ← h2, List.take_append_drop]
section
variable {α : Type} (rd : List UInt8 → Bool → α × List UInt8 × Bool) (enc : α → List UInt8)
def lstR : Nat → List UInt8 → Bool → List α × List UInt8 × Bool
  | 0, bs, bad => ([], bs, bad)
  | n + 1, bs, bad => if bad = true then ([], bs, bad) else
      ((rd bs bad).1 :: (lstR n (rd bs bad).2.1 (rd bs bad).2.2).1, (lstR n (rd bs bad).2.1 (rd bs bad).2.2).2.1, (lstR n (rd bs bad).2.1 (rd bs bad).2.2).2.2)
def manyR (bs : List UInt8) (bad : Bool) : List α × List UInt8 × Bool := lstR rd (numR 65536 bs bad).1 (numR 65536 bs bad).2.1 (numR 65536 bs bad).2.2
theorem lstR_enc : ∀ (xs : List α) (rest : List UInt8), (∀ x ∈ xs, ∀ rest, rd (enc x ++ rest) false = (x, rest, false)) → lstR rd xs.length (xs.flatMap enc ++ rest) false = (xs, rest, false)
  | [], rest, _ => rfl
  | x :: xs, rest, h => by
    rw [List.flatMap_cons, List.append_assoc, List.length_cons, lstR, if_neg (by simp), h x (List.mem_cons_self ..)]
    simp only
    rw [lstR_enc xs rest fun y hy => h y (List.mem_cons_of_mem _ hy)]
theorem lstR_can {Q : α → Prop} (hrd : ∀ bs x r, rd bs false = (x, r, false) → bs = enc x ++ r ∧ Q x) : ∀ (n : Nat) (bs r : List UInt8) (bad : Bool) (xs : List α), lstR rd n bs bad = (xs, r, false) → bad = false ∧ xs.length = n ∧ bs = xs.flatMap enc ++ r ∧ ∀ x ∈ xs, Q x
  | 0, bs, r, bad, xs, h => by
    injection h with h1 h; injection h with h2 h3
    subst h1; subst h2
    exact ⟨h3, rfl, rfl, fun x hx => by cases hx⟩
  | n + 1, bs, r, bad, xs, h => by
    unfold lstR at h
    split at h
    · rename_i hb; injection h with _ h; injection h with _ h; rw [hb] at h; cases h
    · rename_i hb
      obtain rfl : bad = false := by simpa using hb
      injection h with h1 h; injection h with h2 h3
      have ih := lstR_can hrd n _ r _ _ (show lstR rd n (rd bs false).2.1 (rd bs false).2.2 = ((lstR rd n (rd bs false).2.1 (rd bs false).2.2).1, r, false) from Prod.ext rfl (Prod.ext h2 h3))
      obtain ⟨k1, k2, k3, k4⟩ := ih
      have k5 := hrd bs _ _ (show rd bs false = ((rd bs false).1, (rd bs false).2.1, false) from Prod.ext rfl (Prod.ext rfl k1))
      subst h1
      refine ⟨rfl, by rw [List.length_cons, k2], ?_, fun x hx => ?_⟩
      · rw [List.flatMap_cons, List.append_assoc, ← k3]; exact k5.1
      · rcases List.mem_cons.1 hx with rfl | hx
        · exact k5.2
        · exact k4 x hx
theorem manyR_enc (xs : List α) (rest : List UInt8) (hl : xs.length ≤ 65536) (h : ∀ x ∈ xs, ∀ rest, rd (enc x ++ rest) false = (x, rest, false)) : manyR rd (encN xs.length ++ (xs.flatMap enc ++ rest)) false = (xs, rest, false) := by
  unfold manyR
  rw [numR_enc (by omega) hl]
  exact lstR_enc rd enc xs rest h
theorem manyR_can {Q : α → Prop} (hrd : ∀ bs x r, rd bs false = (x, r, false) → bs = enc x ++ r ∧ Q x) {bs r : List UInt8} {bad : Bool} {xs : List α} (h : manyR rd bs bad = (xs, r, false)) :
    bad = false ∧ bs = encN xs.length ++ (xs.flatMap enc ++ r) ∧ xs.length ≤ 65536 ∧ ∀ x ∈ xs, Q x := by
  obtain ⟨k1, k2, k3, k4⟩ := lstR_can rd enc hrd _ _ _ _ _ h
  have c1 := numR_can (k1 ▸ trip (numR 65536 bs bad))
  exact ⟨c1.1, by rw [k2, ← k3]; exact c1.2.1, by rw [k2]; exact c1.2.2.1, k4⟩
end
end Go.Proofs.YtkmciohghhffnaaGreat.B
