/-
  bits.OnesCount64 counts the bits.
-/
import Derived.Test.YtcmkfembphakiaaBuild
namespace Go.Proofs.Ytcmkfembphakiaa.B
open Go
set_option linter.unusedVariables false
attribute [local irreducible] W OpsW OpsQ retP
/-- How many below n are so. -/
def cnt (f : Nat → Bool) : Nat → Nat
  | 0 => 0
  | n + 1 => cnt f n + if f n = true then 1 else 0
theorem cnt_s (f : Nat → Bool) (n : Nat) : cnt f (n + 1) = cnt f n + if f n = true then 1 else 0 := rfl
theorem cnt_le (f : Nat → Bool) : ∀ n, cnt f n ≤ n
  | 0 => Nat.le_refl _
  | n + 1 => by have := cnt_le f n; rw [cnt_s]; split <;> omega
theorem cnt_congr {f g : Nat → Bool} : ∀ n, (∀ i, i < n → f i = g i) → cnt f n = cnt g n
  | 0, _ => rfl
  | n + 1, h => by rw [cnt_s, cnt_s, cnt_congr n (fun i hi => h i (by omega)), h n (by omega)]
theorem cnt_add (f : Nat → Bool) (a : Nat) : ∀ b, cnt f (a + b) = cnt f a + cnt (fun j => f (a + j)) b
  | 0 => rfl
  | b + 1 => by rw [← Nat.add_assoc, cnt_s, cnt_s, cnt_add f a b]; omega
/-- f byte by byte. -/
def bw : Nat → (Nat → Nat) → Nat → Nat
  | 0, _, _ => 0
  | k + 1, f, x => f (x % 256) + 256 * bw k f (x / 256)
def rep : Nat → Nat → Nat
  | 0, _ => 0
  | k + 1, m => m + 256 * rep k m
theorem bw_s (k : Nat) (f : Nat → Nat) (x : Nat) : bw (k + 1) f x = f (x % 256) + 256 * bw k f (x / 256) := rfl
theorem rep_s (k m : Nat) : rep (k + 1) m = m + 256 * rep k m := rfl
theorem and_split (x y : Nat) : x &&& y = ((x % 256) &&& (y % 256)) + 256 * ((x / 256) &&& (y / 256)) := by
  have h1 := Nat.and_mod_two_pow (a := x) (b := y) (n := 8)
  have h2 := Nat.and_div_two_pow (a := x) (b := y) (n := 8)
  simp only [show (2 : Nat) ^ 8 = 256 from rfl] at h1 h2
  rw [← h1, ← h2]; omega
theorem bw_and (m : Nat) (hm : m < 256) : ∀ k x, x &&& rep k m = bw k (fun a => a &&& m) x
  | 0, x => by simp [rep, bw]
  | k + 1, x => by
    rw [and_split]; simp only [rep_s, bw_s]
    rw [show (m + 256 * rep k m) % 256 = m by omega, show (m + 256 * rep k m) / 256 = rep k m by omega, bw_and m hm k]
theorem bw_add (f g : Nat → Nat) : ∀ k x, bw k f x + bw k g x = bw k (fun a => f a + g a) x
  | 0, _ => rfl
  | k + 1, x => by have := bw_add f g k (x / 256); simp only [bw_s]; omega
theorem bw_comp (f g : Nat → Nat) (hf : ∀ a, a < 256 → f a < 256) : ∀ k x, bw k g (bw k f x) = bw k (fun a => g (f a)) x
  | 0, _ => rfl
  | k + 1, x => by
    have := hf (x % 256) (by omega)
    simp only [bw_s]
    rw [show (f (x % 256) + 256 * bw k f (x / 256)) % 256 = f (x % 256) by omega, show (f (x % 256) + 256 * bw k f (x / 256)) / 256 = bw k f (x / 256) by omega, bw_comp f g hf k]
theorem bw_congr {f g : Nat → Nat} (h : ∀ a, a < 256 → f a = g a) : ∀ k x, bw k f x = bw k g x
  | 0, _ => rfl
  | k + 1, x => by simp only [bw_s]; rw [h _ (by omega), bw_congr h k]
theorem s1d : ∀ a : Fin 256, ∀ c : Fin 2, ((a.val / 2 + 128 * c.val) &&& 85) = (a.val / 2) &&& 85 := by decide +kernel
theorem s2d : ∀ a : Fin 256, ∀ c : Fin 4, ((a.val / 4 + 64 * c.val) &&& 51) = (a.val / 4) &&& 51 := by decide +kernel
theorem bw_half : ∀ k x, bw k (fun a => a &&& 85) (x / 2) = bw k (fun a => (a / 2) &&& 85) x
  | 0, _ => rfl
  | k + 1, x => by
    simp only [bw_s]
    have := s1d ⟨x % 256, by omega⟩ ⟨x / 256 % 2, by omega⟩
    simp only at this
    rw [show x / 2 % 256 = x % 256 / 2 + 128 * (x / 256 % 2) by omega, this, show x / 2 / 256 = x / 256 / 2 by omega, bw_half k]
theorem bw_quart : ∀ k x, bw k (fun a => a &&& 51) (x / 4) = bw k (fun a => (a / 4) &&& 51) x
  | 0, _ => rfl
  | k + 1, x => by
    simp only [bw_s]
    have := s2d ⟨x % 256, by omega⟩ ⟨x / 256 % 4, by omega⟩
    simp only at this
    rw [show x / 4 % 256 = x % 256 / 4 + 64 * (x / 256 % 4) by omega, this, show x / 4 / 256 = x / 256 / 4 by omega, bw_quart k]
def p1 (a : Nat) : Nat := ((a / 2) &&& 85) + (a &&& 85)
def p2 (a : Nat) : Nat := ((p1 a / 4) &&& 51) + (p1 a &&& 51)
def p3 (a : Nat) : Nat := p2 a % 16 + p2 a / 16
theorem p1_lt : ∀ a : Fin 256, p1 a.val < 256 := by decide +kernel
theorem p2_lt : ∀ a : Fin 256, p2 a.val % 16 ≤ 4 ∧ p2 a.val / 16 ≤ 4 ∧ p2 a.val < 256 := by decide +kernel
theorem p3_cnt : ∀ a : Fin 256, p3 a.val = cnt a.val.testBit 8 := by decide +kernel
theorem bw_nib (h : Nat → Nat) (hh : ∀ a, a < 256 → h a % 16 ≤ 4 ∧ h a / 16 ≤ 4) : ∀ k x, bw k (fun a => a &&& 15) (bw k h x + bw k h x / 16) = bw k (fun a => h a % 16 + h a / 16) x ∧ bw k h x % 16 ≤ 4
  | 0, _ => ⟨rfl, by simp [bw]⟩
  | k + 1, x => by
    obtain ⟨ih, hr⟩ := bw_nib h hh k (x / 256)
    have h1 := hh (x % 256) (by omega)
    have ha : ∀ y, y &&& 15 = y % 16 := fun y => Nat.and_two_pow_sub_one_eq_mod y 4
    simp only [ha] at ih ⊢
    simp only [bw_s]
    generalize bw k h (x / 256) = r at *
    generalize h (x % 256) = h0 at *
    refine ⟨?_, by omega⟩
    rw [show (h0 + 256 * r + (h0 + 256 * r) / 16) / 256 = r + r / 16 by omega, ih]
    omega
theorem cnt_bytes : ∀ k x, cnt x.testBit (8 * k) = match k with | 0 => 0 | k + 1 => p3 (x % 256) + cnt (x / 256).testBit (8 * k)
  | 0, _ => rfl
  | k + 1, x => by
    simp only
    rw [show 8 * (k + 1) = 8 + 8 * k by omega, cnt_add]
    congr 1
    · have := p3_cnt ⟨x % 256, by omega⟩
      simp only at this
      rw [this]
      refine cnt_congr 8 fun i hi => ?_
      rw [show (256 : Nat) = 2 ^ 8 from rfl, Nat.testBit_mod_two_pow]; simp [hi]
    · refine cnt_congr _ fun i _ => ?_
      rw [show (256 : Nat) = 2 ^ 8 from rfl, Nat.testBit_div_two_pow, Nat.add_comm]
theorem p3_le (a : Nat) (h : a < 256) : p3 a ≤ 8 := by
  have := p2_lt ⟨a, h⟩
  simp only at this
  unfold p3; omega
/-- The steps of the count, on a number. -/
def popN (x : Nat) : Nat :=
  let y1 := (x / 2 &&& rep 8 85) + (x &&& rep 8 85)
  let y2 := (y1 / 4 &&& rep 8 51) + (y1 &&& rep 8 51)
  (y2 / 16 + y2) &&& rep 8 15
theorem st1 (x : Nat) : (x / 2 &&& rep 8 85) + (x &&& rep 8 85) = bw 8 p1 x := by
  rw [bw_and 85 (by omega), bw_and 85 (by omega), bw_half, bw_add]; rfl
theorem st2 (x : Nat) : (bw 8 p1 x / 4 &&& rep 8 51) + (bw 8 p1 x &&& rep 8 51) = bw 8 p2 x := by
  rw [bw_and 51 (by omega), bw_and 51 (by omega), bw_quart, bw_add, bw_comp _ _ (fun a h => p1_lt ⟨a, h⟩)]; rfl
theorem bw_lt {f : Nat → Nat} (h : ∀ a, a < 256 → f a < 256) : ∀ k x, bw k f x < 256 ^ k
  | 0, _ => Nat.one_pos
  | k + 1, x => by have h1 := h (x % 256) (by omega); have h2 := bw_lt h k (x / 256); rw [bw_s, Nat.pow_succ]; omega
theorem bw_lt2 {f : Nat → Nat} (h : ∀ a, a < 256 → f a ≤ 127) : ∀ k x, 2 * bw k f x < 256 ^ k
  | 0, _ => Nat.one_pos
  | k + 1, x => by have h1 := h (x % 256) (by omega); have h2 := bw_lt2 h k (x / 256); rw [bw_s, Nat.pow_succ]; omega
theorem p2_le : ∀ a : Fin 256, p2 a.val ≤ 127 := by decide +kernel
theorem st1_lt (x : Nat) : bw 8 p1 x < 2 ^ 64 := bw_lt (fun a h => p1_lt ⟨a, h⟩) 8 x
theorem st2_lt (x : Nat) : 2 * bw 8 p2 x < 2 ^ 64 := bw_lt2 (fun a h => p2_le ⟨a, h⟩) 8 x
theorem popN_eq (x : Nat) : popN x = bw 8 p3 x := by
  unfold popN
  simp only
  have e1 : (x / 2 &&& rep 8 85) + (x &&& rep 8 85) = bw 8 p1 x := by
    rw [bw_and 85 (by omega), bw_and 85 (by omega), bw_half, bw_add]; rfl
  have e2 : (bw 8 p1 x / 4 &&& rep 8 51) + (bw 8 p1 x &&& rep 8 51) = bw 8 p2 x := by
    rw [bw_and 51 (by omega), bw_and 51 (by omega), bw_quart, bw_add, bw_comp _ _ (fun a h => p1_lt ⟨a, h⟩)]; rfl
  rw [e1, e2, bw_and 15 (by omega), Nat.add_comm, (bw_nib p2 (fun a h => ⟨(p2_lt ⟨a, h⟩).1, (p2_lt ⟨a, h⟩).2.1⟩) 8 x).1]; rfl
theorem am0 (a : Nat) (ha : a < 2 ^ 64) : bitw .and .u64 (a : Int) 6148914691236517205 = ((a &&& rep 8 85 : Nat) : Int) := by
  rw [show rep 8 85 = 6148914691236517205 from by decide, show (6148914691236517205 : Int) = ((6148914691236517205 : Nat) : Int) from rfl, bitw_and (k := .u64) rfl a _ ha (by decide)]
theorem am1 (a : Nat) (ha : a < 2 ^ 64) : bitw .and .u64 (a : Int) 3689348814741910323 = ((a &&& rep 8 51 : Nat) : Int) := by
  rw [show rep 8 51 = 3689348814741910323 from by decide, show (3689348814741910323 : Int) = ((3689348814741910323 : Nat) : Int) from rfl, bitw_and (k := .u64) rfl a _ ha (by decide)]
theorem am2 (a : Nat) (ha : a < 2 ^ 64) : bitw .and .u64 (a : Int) 1085102592571150095 = ((a &&& rep 8 15 : Nat) : Int) := by
  rw [show rep 8 15 = 1085102592571150095 from by decide, show (1085102592571150095 : Int) = ((1085102592571150095 : Nat) : Int) from rfl, bitw_and (k := .u64) rfl a _ ha (by decide)]
theorem addu (a b : Nat) (h : a + b < 2 ^ 64) : IntKind.u64.wrap ((a : Int) + (b : Int)) = ((a + b : Nat) : Int) := by rw [wrap_u64]; omega
theorem shu1 (y : Nat) : (y : Int).fdiv (2 ^ (min (1 : Int).toNat IntKind.u64.bits)) = ((y / 2 : Nat) : Int) := fdiv_nat y 1 64
theorem shu2 (y : Nat) : (y : Int).fdiv (2 ^ (min (2 : Int).toNat IntKind.u64.bits)) = ((y / 4 : Nat) : Int) := fdiv_nat y 2 64
theorem shu4 (y : Nat) : (y : Int).fdiv (2 ^ (min (4 : Int).toNat IntKind.u64.bits)) = ((y / 16 : Nat) : Int) := fdiv_nat y 4 64
theorem shu8 (y : Nat) : (y : Int).fdiv (2 ^ (min (8 : Int).toNat IntKind.u64.bits)) = ((y / 256 : Nat) : Int) := fdiv_nat y 8 64
theorem shu16 (y : Nat) : (y : Int).fdiv (2 ^ (min (16 : Int).toNat IntKind.u64.bits)) = ((y / 65536 : Nat) : Int) := fdiv_nat y 16 64
theorem shu32 (y : Nat) : (y : Int).fdiv (2 ^ (min (32 : Int).toNat IntKind.u64.bits)) = ((y / 4294967296 : Nat) : Int) := fdiv_nat y 32 64
theorem dv {A r c R : Nat} (h : A = r + c * R) (hr : r < c) : A / c = R := by
  subst h; rw [Nat.add_mul_div_left _ _ (by omega), Nat.div_eq_of_lt hr, Nat.zero_add]
theorem sumA (s0 s1 s2 s3 b y1 y2 y3 y4 : Nat) (b1 : b = s0 + 256 * y1) (b2 : y1 = s1 + 256 * y2) (b3 : y2 = s2 + 256 * y3) (b4 : y3 = s3 + 256 * y4)
    (h0 : s0 ≤ 32) (h1 : s1 ≤ 32) (h2 : s2 ≤ 32) (h3 : s3 ≤ 32) : b / 4294967296 = y4 := by
  have h : b = (s0 + 256 * s1 + 65536 * s2 + 16777216 * s3) + 4294967296 * y4 := by omega
  have hr : (s0 + 256 * s1 + 65536 * s2 + 16777216 * s3) < 4294967296 := by omega
  exact dv h hr
theorem sumB (s0 t y1 y5 b y4 : Nat) (b1 : b = s0 + 256 * y1) (b5 : y4 = t + 256 * y5) (h0 : s0 ≤ 32) (ht : t ≤ 32) : (b + y4) % 128 = s0 + t := by omega
theorem sum8 (c0 c1 c2 c3 c4 c5 c6 c7 z1 z2 z3 z4 z5 z6 z7 z8 z a b : Nat) (h0 : c0 ≤ 8) (h1 : c1 ≤ 8) (h2 : c2 ≤ 8) (h3 : c3 ≤ 8) (h4 : c4 ≤ 8) (h5 : c5 ≤ 8) (h6 : c6 ≤ 8) (h7 : c7 ≤ 8)
    (d0 : z = c0 + 256 * z1) (d1 : z1 = c1 + 256 * z2) (d2 : z2 = c2 + 256 * z3) (d3 : z3 = c3 + 256 * z4) (d4 : z4 = c4 + 256 * z5) (d5 : z5 = c5 + 256 * z6) (d6 : z6 = c6 + 256 * z7) (d7 : z7 = c7 + 256 * z8) (d8 : z8 = 0)
    (ha : a = z + z / 256) (hb : b = a + a / 65536) :
    z < 1152921504606846976 ∧ (b + b / 4294967296) % 128 = c0 + (c1 + (c2 + (c3 + (c4 + (c5 + (c6 + (c7 + 0))))))) := by
  have hz : z < 1152921504606846976 := by
    have : z7 ≤ 8 := by omega
    have : z6 ≤ 2056 := by omega
    have : z5 ≤ 526344 := by omega
    have : z4 ≤ 134744072 := by omega
    have : z3 ≤ 34494482440 := by omega
    have : z2 ≤ 8830587504648 := by omega
    have : z1 ≤ 2260630401189896 := by omega
    omega
  refine ⟨hz, ?_⟩
  have e1 : z / 256 = z1 := dv d0 (by omega)
  rw [e1] at ha
  have a1 : a = (c0 + c1 + 256 * (c1 + c2)) + 65536 * (z2 + z3) := by omega
  have e2 : a / 65536 = z2 + z3 := dv a1 (by omega)
  rw [e2] at hb
  have b1 : b = (c0 + c1 + c2 + c3) + 256 * (z1 + z2 + z3 + z4) := by clear a1 e2 e1 hz; omega
  have b2 : z1 + z2 + z3 + z4 = (c1 + c2 + c3 + c4) + 256 * (z2 + z3 + z4 + z5) := by clear b1 hb a1 e2 e1 ha hz d0 d5 d6 d7 d8; omega
  have b3 : z2 + z3 + z4 + z5 = (c2 + c3 + c4 + c5) + 256 * (z3 + z4 + z5 + z6) := by clear b2 b1 hb a1 e2 e1 ha hz d0 d1 d6 d7 d8; omega
  have b4 : z3 + z4 + z5 + z6 = (c3 + c4 + c5 + c6) + 256 * (z4 + z5 + z6 + z7) := by clear b3 b2 b1 hb a1 e2 e1 ha hz d0 d1 d2 d7 d8; omega
  have b5 : z4 + z5 + z6 + z7 = (c4 + c5 + c6 + c7) + 256 * (z5 + z6 + z7) := by clear b4 b3 b2 b1 hb a1 e2 e1 ha hz d0 d1 d2 d3; omega
  rw [sumA _ _ _ _ b _ _ _ _ b1 b2 b3 b4 (by omega) (by omega) (by omega) (by omega), sumB _ _ _ _ _ _ b1 b5 (by omega) (by omega)]
  clear b1 b2 b3 b4 b5 a1 e2 e1 ha hb hz d0 d1 d2 d3 d4 d5 d6 d7 d8
  omega
theorem pop_sum (x : Nat) (hx : x < 2 ^ 64) : (let z := popN x; let a := z + z / 256; let b := a + a / 65536; z < 1152921504606846976 ∧ (b + b / 4294967296) % 128 = cnt x.testBit 64) := by
  have e := cnt_bytes 8 x
  simp only [show 8 * 8 = 64 from rfl] at e
  simp only
  rw [popN_eq, e]
  have e7 := cnt_bytes 7 (x / 256)
  have e6 := cnt_bytes 6 (x / 256 / 256)
  have e5 := cnt_bytes 5 (x / 256 / 256 / 256)
  have e4 := cnt_bytes 4 (x / 256 / 256 / 256 / 256)
  have e3 := cnt_bytes 3 (x / 256 / 256 / 256 / 256 / 256)
  have e2 := cnt_bytes 2 (x / 256 / 256 / 256 / 256 / 256 / 256)
  have e1 := cnt_bytes 1 (x / 256 / 256 / 256 / 256 / 256 / 256 / 256)
  have e0 := cnt_bytes 0 (x / 256 / 256 / 256 / 256 / 256 / 256 / 256 / 256)
  simp only at e7 e6 e5 e4 e3 e2 e1 e0
  rw [e7, e6, e5, e4, e3, e2, e1, e0]
  simp only [bw_s]
  have h0 := p3_le (x % 256) (by omega)
  have h1 := p3_le (x / 256 % 256) (by omega)
  have h2 := p3_le (x / 256 / 256 % 256) (by omega)
  have h3 := p3_le (x / 256 / 256 / 256 % 256) (by omega)
  have h4 := p3_le (x / 256 / 256 / 256 / 256 % 256) (by omega)
  have h5 := p3_le (x / 256 / 256 / 256 / 256 / 256 % 256) (by omega)
  have h6 := p3_le (x / 256 / 256 / 256 / 256 / 256 / 256 % 256) (by omega)
  have h7 := p3_le (x / 256 / 256 / 256 / 256 / 256 / 256 / 256 % 256) (by omega)
  generalize p3 (x % 256) = c0 at *
  generalize p3 (x / 256 % 256) = c1 at *
  generalize p3 (x / 256 / 256 % 256) = c2 at *
  generalize p3 (x / 256 / 256 / 256 % 256) = c3 at *
  generalize p3 (x / 256 / 256 / 256 / 256 % 256) = c4 at *
  generalize p3 (x / 256 / 256 / 256 / 256 / 256 % 256) = c5 at *
  generalize p3 (x / 256 / 256 / 256 / 256 / 256 / 256 % 256) = c6 at *
  generalize p3 (x / 256 / 256 / 256 / 256 / 256 / 256 / 256 % 256) = c7 at *
  clear e e7 e6 e5 e4 e3 e2 e1 e0
  simp only [bw]
  exact sum8 c0 c1 c2 c3 c4 c5 c6 c7 _ _ _ _ _ _ _ _ _ _ _ h0 h1 h2 h3 h4 h5 h6 h7 rfl rfl rfl rfl rfl rfl rfl rfl rfl rfl rfl

theorem and127 (a : Nat) (h : a < 2 ^ 63) : bitw .and .i64 (IntKind.i64.wrap ((a : Nat) : Int)) 127 = ((a % 128 : Nat) : Int) := by
  rw [wrap_i64 (by omega) (by omega)]
  show IntKind.i64.wrap ((BitVec.ofInt 64 (a : Int) &&& BitVec.ofInt 64 127).toNat : Int) = _
  have e : (BitVec.ofInt 64 (a : Int) &&& BitVec.ofInt 64 127).toNat = a % 128 := by
    rw [BitVec.toNat_and, bv_u 64 a (by omega)]
    exact Nat.and_two_pow_sub_one_eq_mod a 7
  rw [e, wrap_i64 (by omega) (by omega)]
theorem ones64 (w : World) (x : Nat) (hx : x < 2 ^ 64) : Ret Try.prog 17 [.int .u64 x].toArray w fun r w' => r = .int .i64 (cnt x.testBit 64) ∧ w' = w := by
  have l1 := st1_lt x
  have l2 := st2_lt x
  obtain ⟨y1, hy1⟩ : ∃ y, y = bw 8 p1 x := ⟨_, rfl⟩
  obtain ⟨y2, hy2⟩ : ∃ y, y = bw 8 p2 x := ⟨_, rfl⟩
  have s1 := st1 x
  have s2 := st2 x
  rw [← hy1] at s1 s2 l1
  rw [← hy2] at s2 l2
  have hp := pop_sum x hx
  obtain ⟨z, hz⟩ : ∃ z, z = popN x := ⟨_, rfl⟩
  have hz2 : (y2 / 16 + y2) &&& rep 8 15 = z := by rw [hz]; unfold popN; simp only; rw [s1, s2]
  simp only [← hz] at hp
  obtain ⟨hp1, hp2⟩ := hp
  have q1 : (IntKind.u64.wrap (((x / 2 &&& rep 8 85 : Nat) : Int) + ((x &&& rep 8 85 : Nat) : Int))) = (y1 : Int) := by rw [addu _ _ (by omega), s1]
  have q2 : (IntKind.u64.wrap (((y1 / 4 &&& rep 8 51 : Nat) : Int) + ((y1 &&& rep 8 51 : Nat) : Int))) = (y2 : Int) := by rw [addu _ _ (by omega), s2]
  have q3 : bitw .and .u64 ((y2 / 16 + y2 : Nat) : Int) 1085102592571150095 = (z : Int) := by rw [am2 _ (by omega), hz2]
  refine enter (fn := Try.f17) (n := 35) Try.func17 rfl rfl (by simp) ?_
  refine W_seq ?_
  refine W_region ?_
  refine o_asc rfl ?_
  refine ops_nil ?_
  refine W_seq ?_
  refine W_region ?_
  refine o_mvt rfl ?_
  refine op_run ((r_shr rfl rfl (by decide)).val (congrArg (Value.int .u64) (shu1 x))) rfl ?_
  refine op_run ((r_and rfl rfl).val (congrArg (Value.int .u64) (am0 _ (by omega)))) rfl ?_
  refine o_mvt rfl ?_
  refine op_run ((r_and rfl rfl).val (congrArg (Value.int .u64) (am0 _ hx))) rfl ?_
  refine op_run ((r_add rfl rfl).val (congrArg (Value.int .u64) q1)) rfl ?_
  refine o_ast rfl ?_
  refine ops_nil ?_
  refine W_seq ?_
  refine W_region ?_
  refine o_mvt rfl ?_
  refine op_run ((r_shr rfl rfl (by decide)).val (congrArg (Value.int .u64) (shu2 y1))) rfl ?_
  refine op_run ((r_and rfl rfl).val (congrArg (Value.int .u64) (am1 _ (by omega)))) rfl ?_
  refine o_mvt rfl ?_
  refine op_run ((r_and rfl rfl).val (congrArg (Value.int .u64) (am1 _ l1))) rfl ?_
  refine op_run ((r_add rfl rfl).val (congrArg (Value.int .u64) q2)) rfl ?_
  refine o_ast rfl ?_
  refine ops_nil ?_
  refine W_seq ?_
  refine W_region ?_
  refine o_mvt rfl ?_
  refine op_run ((r_shr rfl rfl (by decide)).val (congrArg (Value.int .u64) (shu4 y2))) rfl ?_
  refine o_mvt rfl ?_
  refine op_run ((r_add rfl rfl).val (congrArg (Value.int .u64) (addu _ _ (by omega)))) rfl ?_
  refine op_run ((r_and rfl rfl).val (congrArg (Value.int .u64) q3)) rfl ?_
  refine o_ast rfl ?_
  refine ops_nil ?_
  refine W_seq ?_
  refine W_region ?_
  refine o_mvt rfl ?_
  refine o_mvt rfl ?_
  refine op_run ((r_shr rfl rfl (by decide)).val (congrArg (Value.int .u64) (shu8 z))) rfl ?_
  refine op_run ((r_add rfl rfl).val (congrArg (Value.int .u64) (addu z (z / 256) (by omega)))) rfl ?_
  refine o_ast rfl ?_
  refine ops_nil ?_
  refine W_seq ?_
  refine W_region ?_
  refine o_mvt rfl ?_
  refine o_mvt rfl ?_
  refine op_run ((r_shr rfl rfl (by decide)).val (congrArg (Value.int .u64) (shu16 _))) rfl ?_
  refine op_run ((r_add rfl rfl).val (congrArg (Value.int .u64) (addu _ _ (by omega)))) rfl ?_
  refine o_ast rfl ?_
  refine ops_nil ?_
  refine W_seq ?_
  refine W_region ?_
  refine o_mvt rfl ?_
  refine o_mvt rfl ?_
  refine op_run ((r_shr rfl rfl (by decide)).val (congrArg (Value.int .u64) (shu32 _))) rfl ?_
  refine op_run ((r_add rfl rfl).val (congrArg (Value.int .u64) (addu _ _ (by omega)))) rfl ?_
  refine o_ast rfl ?_
  refine ops_nil ?_
  refine W_seq ?_
  refine W_region ?_
  refine o_mvt rfl ?_
  refine op_run (r_conv rfl rfl rfl) rfl ?_
  refine op_run (r_and rfl rfl) rfl ?_
  refine o_ast rfl ?_
  refine ops_nil ?_
  refine W_ret ?_
  refine ret1 _ rfl rfl ?_
  refine ⟨congrArg (Value.int .i64) ((and127 _ (by omega)).trans (by rw [hp2])), rfl⟩
end Go.Proofs.Ytcmkfembphakiaa.B
