/-
  uint32 as words of 32 bits.
-/
import Derived.Test.YtnjepmdgbkhoaaaOfRow
namespace Go.Proofs.Ytnjepmdgbkhoaaa.B
open Go
set_option linter.unusedVariables false
abbrev Wd := BitVec 32
def c32 (x : Wd) : Value := .int .u32 (x.toNat : Int)
theorem one_c32 (x : Wd) : one (c32 x) = true := rfl
theorem all_c32 (xs : List Wd) : (xs.map c32).all one = true := by simp [one_c32]
theorem bv32 (x : Wd) : BitVec.ofInt 32 (x.toNat : Int) = x := by
  apply BitVec.eq_of_toNat_eq
  exact bv_u 32 x.toNat x.isLt
theorem wrap32 (x : Wd) : IntKind.u32.wrap (x.toNat : Int) = (x.toNat : Int) := wrap_nat rfl _ x.isLt
theorem wd_add (x y : Wd) : IntKind.u32.wrap ((x.toNat : Int) + (y.toNat : Int)) = ((x + y).toNat : Int) := by
  rw [wrap_u32, BitVec.toNat_add]; omega
theorem wd_xor (x y : Wd) : bitw .xor .u32 (x.toNat : Int) (y.toNat : Int) = ((x ^^^ y).toNat : Int) := by
  unfold bitw
  show IntKind.u32.wrap ((BitVec.ofInt 32 (x.toNat : Int) ^^^ BitVec.ofInt 32 (y.toNat : Int)).toNat : Int) = _
  rw [bv32, bv32]; exact wrap32 _
theorem wd_and (x y : Wd) : bitw .and .u32 (x.toNat : Int) (y.toNat : Int) = ((x &&& y).toNat : Int) := by
  unfold bitw
  show IntKind.u32.wrap ((BitVec.ofInt 32 (x.toNat : Int) &&& BitVec.ofInt 32 (y.toNat : Int)).toNat : Int) = _
  rw [bv32, bv32]; exact wrap32 _
theorem wd_or (x y : Wd) : bitw .or .u32 (x.toNat : Int) (y.toNat : Int) = ((x ||| y).toNat : Int) := by
  unfold bitw
  show IntKind.u32.wrap ((BitVec.ofInt 32 (x.toNat : Int) ||| BitVec.ofInt 32 (y.toNat : Int)).toNat : Int) = _
  rw [bv32, bv32]; exact wrap32 _
theorem wd_shl (x : Wd) (s : Nat) : IntKind.u32.wrap ((x.toNat : Int) * 2 ^ (min ((s : Nat) : Int).toNat IntKind.u32.bits)) = ((x <<< s).toNat : Int) := by
  rw [wrap_u32, BitVec.toNat_shiftLeft, Nat.shiftLeft_eq, Int.toNat_natCast]
  show (x.toNat : Int) * 2 ^ (min s 32) % 4294967296 = _
  by_cases h : s ≤ 32
  · rw [Nat.min_eq_left h]
    have e : (x.toNat : Int) * 2 ^ s = ((x.toNat * 2 ^ s : Nat) : Int) := by rw [Int.natCast_mul, Int.natCast_pow]; rfl
    rw [e]
    generalize x.toNat * 2 ^ s = m
    omega
  · rw [Nat.min_eq_right (by omega)]
    have e : x.toNat * 2 ^ s % 2 ^ 32 = 0 := Nat.mod_eq_zero_of_dvd (Nat.dvd_trans (Nat.pow_dvd_pow 2 (by omega)) (Nat.dvd_mul_left _ _))
    rw [e]
    exact Int.mul_emod_left _ _
theorem wd_shr (x : Wd) (s : Nat) : (x.toNat : Int).fdiv (2 ^ (min ((s : Nat) : Int).toNat IntKind.u32.bits)) = ((x >>> s).toNat : Int) := by
  rw [fdiv_nat, BitVec.toNat_ushiftRight, Nat.shiftRight_eq_div_pow]
  show ((x.toNat / 2 ^ (min s 32) : Nat) : Int) = _
  by_cases h : s ≤ 32
  · rw [Nat.min_eq_left h]
  · rw [Nat.min_eq_right (by omega), Nat.div_eq_of_lt x.isLt, Nat.div_eq_of_lt]
    exact Nat.lt_of_lt_of_le x.isLt (Nat.pow_le_pow_right (by omega) (by omega))
section
variable {P : Program} {F : Fr} {w : World} {dst : Option Tmp} {ty : TypeId} {pos : String} {after : Array Edge} {g : Option (Nat × Bool)} {t t' : TypeId} {x y : Operand} {a b : Wd}
theorem r_addW (hx : ev F x = c32 a) (hy : ev F y = c32 b) : Run1 P F ⟨dst, .binOp .add t x y t', ty, pos, after, g⟩ w (c32 (a + b)) w := (r_add hx hy).val (congrArg (Value.int .u32) (wd_add a b))
theorem r_xorW (hx : ev F x = c32 a) (hy : ev F y = c32 b) : Run1 P F ⟨dst, .binOp .xor t x y t', ty, pos, after, g⟩ w (c32 (a ^^^ b)) w := (r_xor hx hy).val (congrArg (Value.int .u32) (wd_xor a b))
theorem r_andW (hx : ev F x = c32 a) (hy : ev F y = c32 b) : Run1 P F ⟨dst, .binOp .and t x y t', ty, pos, after, g⟩ w (c32 (a &&& b)) w := (r_and hx hy).val (congrArg (Value.int .u32) (wd_and a b))
theorem r_orW (hx : ev F x = c32 a) (hy : ev F y = c32 b) : Run1 P F ⟨dst, .binOp .or t x y t', ty, pos, after, g⟩ w (c32 (a ||| b)) w := (r_or hx hy).val (congrArg (Value.int .u32) (wd_or a b))
theorem r_shlW (s : Nat) {k : IntKind} (hx : ev F x = c32 a) (hy : ev F y = .int k (s : Nat)) : Run1 P F ⟨dst, .binOp .shl t x y t', ty, pos, after, g⟩ w (c32 (a <<< s)) w := (r_shl hx hy (by omega)).val (congrArg (Value.int .u32) (wd_shl a s))
theorem r_shrW (s : Nat) {k : IntKind} (hx : ev F x = c32 a) (hy : ev F y = .int k (s : Nat)) : Run1 P F ⟨dst, .binOp .shr t x y t', ty, pos, after, g⟩ w (c32 (a >>> s)) w := (r_shr hx hy (by omega)).val (congrArg (Value.int .u32) (wd_shr a s))
/-- A byte as a word. -/
def wd8 (b : UInt8) : Wd := BitVec.ofNat 32 b.toNat
theorem wd8_toNat (b : UInt8) : (wd8 b).toNat = b.toNat := by
  unfold wd8; rw [BitVec.toNat_ofNat]
  exact Nat.mod_eq_of_lt (Nat.lt_of_lt_of_le b.toNat_lt (by decide))
theorem r_convW8 {s : TypeId} {sd : TypeDesc} {b : UInt8} (hx : ev F x = c8 b) (hs : P.underlying s = some sd) (ht : P.underlying t = some (.int .u32)) : Run1 P F ⟨dst, .convert s t x, ty, pos, after, g⟩ w (c32 (wd8 b)) w :=
  (r_conv hx hs ht).val (congrArg (Value.int .u32) (by rw [wd8_toNat]; exact wrap_nat rfl _ (Nat.lt_of_lt_of_le b.toNat_lt (by decide))))
end
theorem get_c32 {xs : List Wd} {i : Nat} (h : i < xs.length) : (xs.map c32)[i]? = some (c32 (xs.getD i 0)) := by simp [h]
end Go.Proofs.Ytnjepmdgbkhoaaa.B
