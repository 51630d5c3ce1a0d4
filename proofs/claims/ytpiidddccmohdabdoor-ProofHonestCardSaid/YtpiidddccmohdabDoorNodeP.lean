/-
  Nodes of a trie, as bytes tell them.
-/
import Derived.Test.YtpiidddccmohdabDoorPackCan
import Derived.Test.YtpiidddccmohdabDoorBits
namespace Go.Proofs.YtpiidddccmohdabDoor.B
open Go
set_option linter.unusedVariables false
set_option maxHeartbeats 2000000
set_option maxRecDepth 100000
attribute [local irreducible] W OpsW OpsQ retP
attribute [local irreducible] numR
/-- What a node's bytes tell. -/
structure Nd where
  leaf : Bool
  beg : List UInt8
  val : List UInt8
  mask : Nat
  kids : Nat → Option Dig
/-- The digests of a mask's bits below i. -/
def kdR (m : Nat) (bs : List UInt8) (bad : Bool) : Nat → (Nat → Option Dig) × List UInt8 × Bool
  | 0 => (fun _ => none, bs, bad)
  | i + 1 => if m / 2 ^ i % 2 = 1 then
      (fun j => if j = i then some (digR (kdR m bs bad i).2.1 (kdR m bs bad i).2.2).1 else (kdR m bs bad i).1 j, (digR (kdR m bs bad i).2.1 (kdR m bs bad i).2.2).2.1, (digR (kdR m bs bad i).2.1 (kdR m bs bad i).2.2).2.2)
    else kdR m bs bad i
theorem kdR_yes {m : Nat} {bs : List UInt8} {bad : Bool} {i : Nat} (h : m / 2 ^ i % 2 = 1) : kdR m bs bad (i + 1) = (fun j => if j = i then some (digR (kdR m bs bad i).2.1 (kdR m bs bad i).2.2).1 else (kdR m bs bad i).1 j, (digR (kdR m bs bad i).2.1 (kdR m bs bad i).2.2).2.1, (digR (kdR m bs bad i).2.1 (kdR m bs bad i).2.2).2.2) := if_pos h
theorem kdR_no {m : Nat} {bs : List UInt8} {bad : Bool} {i : Nat} (h : ¬ m / 2 ^ i % 2 = 1) : kdR m bs bad (i + 1) = kdR m bs bad i := if_neg h
theorem kdR_skip {m : Nat} {bs : List UInt8} {bad : Bool} {i : Nat} : ∀ t, i ≤ t → (∀ j, i ≤ j → j < t → m / 2 ^ j % 2 = 0) → kdR m bs bad t = kdR m bs bad i := by
  intro t
  induction t with
  | zero => intro h _; obtain rfl : i = 0 := by omega
            rfl
  | succ t ih =>
    intro h hz
    by_cases e : i = t + 1
    · rw [e]
    · rw [kdR_no (by have := hz t (by omega) (by omega); omega)]
      exact ih (by omega) (fun j h1 h2 => hz j h1 (by omega))
theorem shift_div {m i j : Nat} (h : i ≤ j) : m / 2 ^ i * 2 ^ i / 2 ^ j = m / 2 ^ j := by
  obtain ⟨d, rfl⟩ : ∃ d, j = i + d := ⟨j - i, by omega⟩
  rw [Nat.pow_add, ← Nat.div_div_eq_div_mul, Nat.mul_div_cancel _ (Nat.two_pow_pos i), ← Nat.div_div_eq_div_mul]
theorem odd_div {t q j : Nat} (h : j < t) : 2 ^ t * (2 * q + 1) / 2 ^ j % 2 = 0 := by
  obtain ⟨d, rfl⟩ : ∃ d, t = j + (d + 1) := ⟨t - j - 1, by omega⟩
  rw [Nat.pow_add, Nat.mul_assoc, Nat.mul_div_cancel_left _ (Nat.two_pow_pos j), Nat.pow_succ, Nat.mul_comm (2 ^ d) 2, Nat.mul_assoc, Nat.mul_mod_right]
/-- The lowest bit that is left. -/
theorem kd_low {m i r t : Nat} (hr : r = m / 2 ^ i * 2 ^ i) (hl : lowB r t) : i ≤ t ∧ t < 16 ∧ m / 2 ^ t % 2 = 1 ∧ (∀ j, i ≤ j → j < t → m / 2 ^ j % 2 = 0) ∧ r &&& (r - 1) = m / 2 ^ (t + 1) * 2 ^ (t + 1) ∧ r &&& (r - 1) < r := by
  obtain ⟨ht, q, hq⟩ := hl
  have hp : 0 < 2 ^ t := Nat.two_pow_pos t
  have hit : i ≤ t := Nat.le_of_not_lt fun hlt => by
    obtain ⟨d, rfl⟩ : ∃ d, i = t + (d + 1) := ⟨i - t - 1, by omega⟩
    have e : 2 ^ t * (2 * q + 1) = 2 ^ t * (2 * (m / 2 ^ (t + (d + 1)) * 2 ^ d)) := by
      rw [← hq, hr]
      conv => lhs; rw [Nat.pow_add 2 t (d + 1)]
      rw [← Nat.pow_add 2 t (d + 1), Nat.pow_add 2 t (d + 1), Nat.pow_succ]
      rw [Nat.mul_left_comm, Nat.mul_comm (2 ^ d) 2, Nat.mul_left_comm (m / _) 2]
    have := Nat.eq_of_mul_eq_mul_left hp e
    omega
  have hdiv : ∀ j, i ≤ j → r / 2 ^ j = m / 2 ^ j := fun j hj => by rw [hr, shift_div hj]
  have ht1 : m / 2 ^ t = 2 * q + 1 := by rw [← hdiv t hit, hq, Nat.mul_div_cancel_left _ hp]
  have ht2 : m / 2 ^ (t + 1) = q := by rw [Nat.pow_succ, ← Nat.div_div_eq_div_mul, ht1]; omega
  have hand : r &&& (r - 1) = 2 ^ t * (2 * q) := by rw [hq, and_pred]
  refine ⟨hit, ht, by omega, fun j h1 h2 => by rw [← hdiv j h1, hq, odd_div h2], ?_, ?_⟩
  · rw [hand, ht2, Nat.pow_succ, Nat.mul_comm q, Nat.mul_assoc]
  · rw [hand, hq, Nat.mul_add]; omega
theorem kd_end {m i : Nat} (h : m / 2 ^ i * 2 ^ i = 0) (j : Nat) (hj : i ≤ j) : m / 2 ^ j % 2 = 0 := by
  rw [← shift_div hj, h, Nat.zero_div]
/-- The whole reading. -/
def nA (bs : List UInt8) : Nat × List UInt8 × Bool := numR 1 bs false
def gA (bs : List UInt8) : List UInt8 × List UInt8 × Bool := bytsR 64 (nA bs).2.1 (nA bs).2.2
def vA (most : Nat) (bs : List UInt8) : List UInt8 × List UInt8 × Bool := bytsR most (gA bs).2.1 (gA bs).2.2
def mA (bs : List UInt8) : Nat × List UInt8 × Bool := numR 65535 (gA bs).2.1 (gA bs).2.2
def kA (bs : List UInt8) (i : Nat) : (Nat → Option Dig) × List UInt8 × Bool := kdR (mA bs).1 (mA bs).2.1 (mA bs).2.2 i
def ndR (most : Nat) (bs : List UInt8) : Nd × List UInt8 × Bool :=
  if (nA bs).1 = 0 then (⟨true, (gA bs).1, (vA most bs).1, 0, fun _ => none⟩, (vA most bs).2.1, (vA most bs).2.2)
  else (⟨false, (gA bs).1, [], (mA bs).1, (kA bs 16).1⟩, (kA bs 16).2.1, (kA bs 16).2.2)
theorem ndR_leaf {most : Nat} {bs : List UInt8} (h : (nA bs).1 = 0) : ndR most bs = (⟨true, (gA bs).1, (vA most bs).1, 0, fun _ => none⟩, (vA most bs).2.1, (vA most bs).2.2) := if_pos h
theorem ndR_branch {most : Nat} {bs : List UInt8} (h : ¬ (nA bs).1 = 0) : ndR most bs = (⟨false, (gA bs).1, [], (mA bs).1, (kA bs 16).1⟩, (kA bs 16).2.1, (kA bs 16).2.2) := if_neg h
theorem ndR_beg (most : Nat) (bs : List UInt8) : (ndR most bs).1.beg = (gA bs).1 := by unfold ndR; split <;> rfl
theorem ndR_leafB (most : Nat) (bs : List UInt8) : (ndR most bs).1.leaf = decide ((nA bs).1 = 0) := by
  unfold ndR; split
  · rename_i h; exact (decide_eq_true h).symm
  · rename_i h; exact (decide_eq_false h).symm
/-- Its length is right. -/
def okL (left : Nat) (n : Nd) : Prop := if n.leaf = true then n.beg.length = left else n.beg.length < left ∧ 1 < cntB n.mask 16
instance (left : Nat) (n : Nd) : Decidable (okL left n) := by unfold okL; exact inferInstance
/-- It is a node. -/
def okN (left : Nat) (r : Nd × List UInt8 × Bool) : Prop := (okL left r.1 ∧ ∀ x ∈ r.1.beg, x.toNat < 16) ∧ r.2.1 = [] ∧ r.2.2 = false
instance (left : Nat) (r : Nd × List UInt8 × Bool) : Decidable (okN left r) := inferInstanceAs (Decidable (_ ∧ _))
end Go.Proofs.YtpiidddccmohdabDoor.B
