/-
  Numbers read back: what is put is read.
-/
import Derived.Test.YtcbbodjcgjbfaaaPackNum
namespace Go.Proofs.Ytcbbodjcgjbfaaa.B
open Go
set_option linter.unusedVariables false
set_option maxHeartbeats 2000000
set_option maxRecDepth 100000
attribute [local irreducible] W OpsW OpsQ retP
theorem decN_encN : ∀ (y most s a : Nat) (r : List UInt8), a < 2 ^ s → a + y * 2 ^ s < 2 ^ 64 → a + y * 2 ^ s ≤ most → (s = 0 ∨ 0 < y) → decN most s a (encN y ++ r) = some (a + y * 2 ^ s, r) := by
  intro y
  induction y using Nat.strongRecOn with
  | ind y ih =>
    intro most s a r ha hv hm hs
    have hs63 : ¬ 63 < s := by
      intro h
      rcases hs with h0 | h0
      · omega
      · have h1 : 2 ^ 64 ≤ 2 ^ s := Nat.pow_le_pow_right (by omega) h
        have h2 : 1 * 2 ^ s ≤ y * 2 ^ s := Nat.mul_le_mul_right _ h0
        omega
    by_cases h1 : y < 128
    · rw [encN_last h1, List.singleton_append, decN_cons]
      have e : y.toUInt8.toNat = y := by simp; omega
      rw [e, Nat.mod_eq_of_lt h1, if_neg (by rintro (h | h | h) <;> omega), if_neg (by omega), if_neg (by omega)]
    · rw [encN_more (by omega), List.cons_append, decN_cons]
      have e : (y % 128 + 128).toUInt8.toNat = y % 128 + 128 := by simp; omega
      have e2 : (y % 128 + 128) % 128 = y % 128 := by omega
      have hsplit : y * 2 ^ s = y % 128 * 2 ^ s + y / 128 * 2 ^ (s + 7) := by
        rw [Nat.pow_add, show y / 128 * (2 ^ s * 2 ^ 7) = (128 * (y / 128)) * 2 ^ s by rw [Nat.mul_comm (2 ^ s), ← Nat.mul_assoc, Nat.mul_comm (y / 128)], ← Nat.add_mul, Nat.mod_add_div]
      have hlt : a + y % 128 * 2 ^ s < 2 ^ (s + 7) := by
        have h2 : (y % 128 + 1) * 2 ^ s ≤ 128 * 2 ^ s := Nat.mul_le_mul_right _ (by omega)
        rw [Nat.add_mul, Nat.one_mul] at h2
        rw [Nat.pow_add]; omega
      rw [e, e2, if_neg (by rintro (h | h | h) <;> omega), if_pos (by omega)]
      rw [ih (y / 128) (by omega) most (s + 7) _ r hlt (by omega) (by omega) (.inr (by omega))]
      congr 2; omega
theorem decN_short : ∀ (y most s a k : Nat), k < (encN y).length → decN most s a ((encN y).take k) = none := by
  intro y
  induction y using Nat.strongRecOn with
  | ind y ih =>
    intro most s a k hk
    cases k with
    | zero => rfl
    | succ k =>
      by_cases h1 : y < 128
      · rw [encN_last h1] at hk; simp at hk
      · rw [encN_more (by omega)] at hk ⊢
        rw [List.take_succ_cons, decN_cons]
        have e : (y % 128 + 128).toUInt8.toNat = y % 128 + 128 := by simp; omega
        rw [e]
        split
        · rfl
        · rw [if_pos (by omega)]
          exact ih (y / 128) (by omega) _ _ _ _ (by simpa using hk)
theorem dec_enc (v most : Nat) (r : List UInt8) (h : v < 2 ^ 64) (hm : v ≤ most) : decN most 0 0 (encN v ++ r) = some (v, r) := by
  have := decN_encN v most 0 0 r (by omega) (by simpa using h) (by simpa using hm) (.inl rfl)
  simpa using this
theorem encN_same {v w : Nat} {r : List UInt8} (hv : v < 2 ^ 64) (hw : w < 2 ^ 64) (h : encN w = encN v ++ r) : w = v := by
  have h1 := dec_enc w (2 ^ 64) [] hw (by omega)
  have h2 := dec_enc v (2 ^ 64) r hv (by omega)
  rw [List.append_nil, h, h2] at h1
  injection h1 with h1; injection h1 with h1 _; exact h1.symm
theorem encN_pre {v w : Nat} (hv : v < 2 ^ 64) (hw : w < 2 ^ 64) : (encN v).take (min (encN v).length (encN w).length) = (encN w).take (min (encN v).length (encN w).length) ↔ v = w := by
  constructor
  · intro h
    rcases Nat.le_total (encN v).length (encN w).length with hl | hl
    · rw [Nat.min_eq_left hl, List.take_length] at h
      have := List.take_append_drop (encN v).length (encN w)
      rw [← h] at this
      exact (encN_same hv hw this.symm).symm
    · rw [Nat.min_eq_right hl, List.take_length] at h
      have := List.take_append_drop (encN w).length (encN v)
      rw [h] at this
      exact encN_same hw hv this.symm
  · rintro rfl; rfl
/-- A number and bytes, whole. -/
theorem read_all (v : Nat) (bs : List UInt8) (hv : v < 2 ^ 64) (hb : bs.length < 2 ^ 64) :
    numR v (encN v ++ encB bs) false = (v, encB bs, false) ∧ numR bs.length (encB bs) false = (bs.length, bs, false) := by
  refine ⟨numR_some (dec_enc v v _ hv (Nat.le_refl _)), numR_some (dec_enc bs.length bs.length bs hb (Nat.le_refl _))⟩
/-- Cut short. -/
theorem read_cut (v k : Nat) (bs : List UInt8) (hv : v < 2 ^ 64) (hb : bs.length < 2 ^ 64) (hk : k < (encN v ++ encB bs).length) :
    let N := numR v ((encN v ++ encB bs).take k) false
    let M := numR bs.length N.2.1 N.2.2
    M.2.2 = true ∨ M.2.1.length < M.1 := by
  by_cases h1 : k < (encN v).length
  · have e : numR v ((encN v ++ encB bs).take k) false = (0, [], true) := numR_none (by rw [List.take_append_of_le_length (by omega)]; exact decN_short _ _ _ _ _ h1)
    simp only [e]
    left; rw [numR_none (by rfl)]
  · have e : numR v ((encN v ++ encB bs).take k) false = (v, (encB bs).take (k - (encN v).length), false) := numR_some (by
      rw [List.take_append, List.take_of_length_le (by omega)]; exact dec_enc v v _ hv (Nat.le_refl _))
    simp only [e]
    rw [List.length_append] at hk
    unfold encB at hk ⊢
    rw [List.length_append] at hk
    by_cases h2 : k - (encN v).length < (encN bs.length).length
    · left; rw [numR_none (by rw [List.take_append_of_le_length (by omega)]; exact decN_short _ _ _ _ _ h2)]
    · right
      rw [numR_some (by rw [List.take_append, List.take_of_length_le (by omega)]; exact dec_enc _ _ _ hb (Nat.le_refl _))]
      simp only [List.length_take]; omega
theorem and_ffff (a : Int) : 0 ≤ bitw .and .i64 a 65535 ∧ bitw .and .i64 a 65535 ≤ 65535 := by
  have h : (BitVec.ofInt IntKind.i64.bits a &&& BitVec.ofInt IntKind.i64.bits 65535).toNat ≤ 65535 := by
    rw [BitVec.toNat_and]
    exact Nat.and_le_right
  show 0 ≤ IntKind.i64.wrap ((BitVec.ofInt IntKind.i64.bits a &&& BitVec.ofInt IntKind.i64.bits 65535).toNat : Int) ∧ IntKind.i64.wrap ((BitVec.ofInt IntKind.i64.bits a &&& BitVec.ofInt IntKind.i64.bits 65535).toNat : Int) ≤ 65535
  rw [wrap_i64 (by omega) (by omega)]; omega
theorem in_Number_ok {w : World} {b : Nat} {A : Nat → Prop} {bs xs : List UInt8} {bad bad' : Bool} {most n : Nat} (hAb : ¬ A b) (h : InC w b A bs bad) (hN : numR most bs bad = (n, xs, bad')) :
    Ret Try.prog 25 [.pointer (some ⟨b, 0, none⟩), .int .u64 most].toArray w fun r w' => r = .int .u64 n ∧ InC w' b A xs bad' ∧ Keep (· ≠ b) w w' := by
  have h1 := in_Number w b A bs bad most hAb h
  rwa [hN] at h1

end Go.Proofs.Ytcbbodjcgjbfaaa.B
