/-
  The machine's integers as numbers that omega understands.
-/
import Derived.Test.YtkmciohghhffnaaOwn
namespace Go.Proofs.Ytkmciohghhffnaa.B
open Go
set_option linter.unusedVariables false
theorem wrap_u8 (n : Int) : IntKind.u8.wrap n = n % 256 := by simp [IntKind.wrap, IntKind.bits, IntKind.signed]
theorem wrap_u16 (n : Int) : IntKind.u16.wrap n = n % 65536 := by simp [IntKind.wrap, IntKind.bits, IntKind.signed]
theorem wrap_u32 (n : Int) : IntKind.u32.wrap n = n % 4294967296 := by simp [IntKind.wrap, IntKind.bits, IntKind.signed]
theorem wrap_u64 (n : Int) : IntKind.u64.wrap n = n % 18446744073709551616 := by simp [IntKind.wrap, IntKind.bits, IntKind.signed]
theorem wrap_i64' (n : Int) : IntKind.i64.wrap n = if (9223372036854775808 : Int) ≤ n % 18446744073709551616 then n % 18446744073709551616 - 18446744073709551616 else n % 18446744073709551616 := by
  simp [IntKind.wrap, IntKind.bits, IntKind.signed]
theorem wrap_i64 {n : Int} (h0 : -9223372036854775808 ≤ n) (h1 : n < 9223372036854775808) : IntKind.i64.wrap n = n := by
  rw [wrap_i64']; split <;> omega
theorem fdiv_nat (y s b : Nat) : ((y : Nat) : Int).fdiv (2 ^ (min ((s : Nat) : Int).toNat b)) = ((y / 2 ^ (min s b) : Nat) : Int) := by
  rw [Int.toNat_natCast, Int.fdiv_eq_ediv_of_nonneg _ (Int.pow_nonneg (by omega))]
  norm_cast
theorem bv_u (b : Nat) (a : Nat) (h : a < 2 ^ b) : (BitVec.ofInt b (a : Int)).toNat = a := by
  rw [BitVec.toNat_ofInt]; norm_cast; rw [Int.toNat_natCast]; exact Nat.mod_eq_of_lt h
theorem wrap_nat {k : IntKind} (hk : k.signed = false) (a : Nat) (h : a < 2 ^ k.bits) : k.wrap (a : Int) = a := by
  unfold IntKind.wrap
  simp only [hk, Bool.false_and, Bool.false_eq_true, if_false]
  have h' : (a : Int) < (2 ^ k.bits : Int) := by exact_mod_cast h
  exact Int.emod_eq_of_lt (by omega) h'
theorem bitw_or {k : IntKind} (hk : k.signed = false) (a b : Nat) (ha : a < 2 ^ k.bits) (hb : b < 2 ^ k.bits) : bitw .or k a b = ((a ||| b : Nat) : Int) := by
  unfold bitw; simp only [BitVec.toNat_or, bv_u _ a ha, bv_u _ b hb]; exact wrap_nat hk _ (Nat.or_lt_two_pow ha hb)
theorem bitw_and {k : IntKind} (hk : k.signed = false) (a b : Nat) (ha : a < 2 ^ k.bits) (hb : b < 2 ^ k.bits) : bitw .and k a b = ((a &&& b : Nat) : Int) := by
  unfold bitw; simp only [BitVec.toNat_and, bv_u _ a ha, bv_u _ b hb]; exact wrap_nat hk _ (Nat.and_lt_two_pow _ hb)
theorem bitw_xor {k : IntKind} (hk : k.signed = false) (a b : Nat) (ha : a < 2 ^ k.bits) (hb : b < 2 ^ k.bits) : bitw .xor k a b = ((a ^^^ b : Nat) : Int) := by
  unfold bitw; simp only [BitVec.toNat_xor, bv_u _ a ha, bv_u _ b hb]; exact wrap_nat hk _ (Nat.xor_lt_two_pow ha hb)
/-- A byte's cell. -/
def c8 (b : UInt8) : Value := .int .u8 (b.toNat : Int)
theorem one_c8 (b : UInt8) : one (c8 b) = true := rfl
theorem all_c8 (xs : List UInt8) : (xs.map c8).all one = true := by simp [one_c8]
end Go.Proofs.Ytkmciohghhffnaa.B
