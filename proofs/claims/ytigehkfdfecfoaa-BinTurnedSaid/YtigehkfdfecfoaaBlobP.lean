/-
  Bytes in sectors: the plain law.
-/
import Derived.Test.YtigehkfdfecfoaaMDisk
import Derived.Test.YtigehkfdfecfoaaMRef
import Derived.Test.YtigehkfdfecfoaaMTag
namespace Go.Proofs.Ytigehkfdfecfoaa.B
open Go
set_option linter.unusedVariables false
set_option maxHeartbeats 2000000
set_option maxRecDepth 100000
attribute [local irreducible] W OpsW OpsQ retP
/-- How many sectors n bytes need. -/
def sectorsN (n : Nat) : Nat := max 1 ((n + 63) / 64)
theorem sectorsN_pos (n : Nat) : 1 ≤ sectorsN n := Nat.le_max_left _ _
theorem sectorsN_ge (n : Nat) : n ≤ 64 * sectorsN n := by unfold sectorsN; omega
theorem sectorsN_le (n : Nat) : sectorsN n ≤ n / 64 + 1 := by unfold sectorsN; omega
theorem sectorsN_eq (n : Nat) : sectorsN n = max 1 (n / 64 + min (n % 64) 1) := by unfold sectorsN; omega
theorem sectorsN_lt {n k : Nat} (hk : k < sectorsN n) : k = 0 ∨ 64 * k < n := by unfold sectorsN at hk; omega
/-- A sector that begins with bytes. -/
def padS (l : List UInt8) : Sec := ⟨l.take 64 ++ List.replicate (64 - (l.take 64).length) 0, by rw [List.length_append, List.length_replicate, List.length_take]; omega⟩
/-- The sectors of bytes. -/
def laidL (bs : List UInt8) : List Sec := (List.range (sectorsN bs.length)).map fun i => padS (bs.drop (64 * i))
theorem laidL_len (bs : List UInt8) : (laidL bs).length = sectorsN bs.length := by unfold laidL; rw [List.length_map, List.length_range]
theorem laidL_get {bs : List UInt8} {i : Nat} (hi : i < sectorsN bs.length) : (laidL bs)[i]? = some (padS (bs.drop (64 * i))) := by
  unfold laidL; rw [List.getElem?_map, List.getElem?_range hi]; rfl
/-- Sectors are put in the place of some. -/
def putAt (M : List Sec) (at_ : Nat) (l : List Sec) : List Sec := M.take at_ ++ l ++ M.drop (at_ + l.length)
theorem putAt_len {M : List Sec} {at_ : Nat} {l : List Sec} (h : at_ + l.length ≤ M.length) : (putAt M at_ l).length = M.length := by
  unfold putAt; rw [List.length_append, List.length_append, List.length_take, List.length_drop]; omega
theorem putAt_get {M : List Sec} {at_ : Nat} {l : List Sec} (h : at_ + l.length ≤ M.length) (i : Nat) : (putAt M at_ l)[i]? = if at_ ≤ i ∧ i < at_ + l.length then l[i - at_]? else M[i]? := by
  unfold putAt
  have h1 : (M.take at_).length = at_ := by rw [List.length_take]; omega
  by_cases h2 : i < at_
  · rw [if_neg (by omega), List.append_assoc, List.getElem?_append_left (by omega), List.getElem?_take, if_pos h2]
  · by_cases h3 : i < at_ + l.length
    · rw [if_pos ⟨by omega, h3⟩, List.getElem?_append_left (by rw [List.length_append]; omega), List.getElem?_append_right (by omega), h1]
    · rw [if_neg (by omega), List.getElem?_append_right (by rw [List.length_append]; omega), List.getElem?_drop, List.length_append, h1]
      congr 1; omega
theorem putAt_0 (M : List Sec) (at_ : Nat) : putAt M at_ [] = M := by unfold putAt; simp
theorem putAt_set {M : List Sec} {at_ k : Nat} {l : List Sec} {s : Sec} (h : at_ + l.length ≤ M.length) (hk : l[k]? = some s) : (putAt M at_ (l.take k)).set (at_ + k) s = putAt M at_ (l.take (k + 1)) := by
  have hkl := (List.getElem?_eq_some_iff.1 hk).1
  have hl0 : (l.take k).length = k := by rw [List.length_take]; omega
  have hl1 : (l.take (k + 1)).length = k + 1 := by rw [List.length_take]; omega
  apply List.ext_getElem?
  intro i
  rw [List.getElem?_set, putAt_len (by omega), putAt_get (by omega), putAt_get (by omega), hl0, hl1]
  by_cases he : at_ + k = i
  · rw [if_pos he, if_pos (by omega), if_pos (by omega), List.getElem?_take, if_pos (by omega), ← he, Nat.add_sub_cancel_left, hk]
  · rw [if_neg he]
    by_cases h2 : at_ ≤ i ∧ i < at_ + k
    · rw [if_pos h2, if_pos (by omega), List.getElem?_take, List.getElem?_take, if_pos (by omega), if_pos (by omega)]
    · rw [if_neg h2, if_neg (by omega)]
/-- All bytes of sectors. -/
def flatS (M : List Sec) : List UInt8 := M.flatMap (·.val)
theorem flatS_cons (s : Sec) (M : List Sec) : flatS (s :: M) = s.val ++ flatS M := rfl
theorem flatS_app (L M : List Sec) : flatS (L ++ M) = flatS L ++ flatS M := by unfold flatS; rw [List.flatMap_append]
theorem flatS_len : ∀ M : List Sec, (flatS M).length = 64 * M.length
  | [] => rfl
  | s :: M => by rw [flatS_cons, List.length_append, flatS_len M, List.length_cons, s.2]; omega
theorem flatS_get : ∀ (M : List Sec) (i j : Nat) (s : Sec), M[i]? = some s → j < 64 → (flatS M)[64 * i + j]? = s.val[j]?
  | [], i, j, s, h, hj => by cases h
  | x :: M, 0, j, s, h, hj => by
    injection h with h; subst h
    rw [flatS_cons, Nat.mul_zero, Nat.zero_add, List.getElem?_append_left (by rw [x.2]; exact hj)]
  | x :: M, i + 1, j, s, h, hj => by
    have h : M[i]? = some s := h
    rw [flatS_cons, List.getElem?_append_right (by rw [x.2]; omega), x.2, show 64 * (i + 1) + j - 64 = 64 * i + j by omega, flatS_get M i j s h hj]
theorem flatS_take : ∀ (M : List Sec) (n : Nat), flatS (M.take n) = (flatS M).take (64 * n)
  | [], n => by simp [flatS]
  | x :: M, 0 => by simp [flatS]
  | x :: M, n + 1 => by
    rw [List.take_succ_cons, flatS_cons, flatS_cons, flatS_take M n, List.take_append, x.2, List.take_of_length_le (l := x.val) (by rw [x.2]; omega), show 64 * (n + 1) - 64 = 64 * n by omega]
/-- What is read of bytes that stand there. -/
theorem padS_get {l : List UInt8} {j : Nat} (hj : j < l.length) (h64 : j < 64) : (padS l).val[j]? = l[j]? := by
  unfold padS
  simp only
  rw [List.getElem?_append_left (by rw [List.length_take]; omega), List.getElem?_take, if_pos h64]
theorem flat_laid (bs : List UInt8) : (flatS (laidL bs)).take bs.length = bs := by
  have hl := flatS_len (laidL bs)
  rw [laidL_len] at hl
  have hge := sectorsN_ge bs.length
  apply List.ext_getElem?
  intro i
  by_cases hi : i < bs.length
  · have hq : i / 64 < sectorsN bs.length := by omega
    have h := flatS_get (laidL bs) (i / 64) (i % 64) _ (laidL_get hq) (Nat.mod_lt _ (by decide))
    rw [show 64 * (i / 64) + i % 64 = i by omega] at h
    rw [List.getElem?_take, if_pos hi, h, padS_get (by rw [List.length_drop]; omega) (Nat.mod_lt _ (by decide)), List.getElem?_drop, show 64 * (i / 64) + i % 64 = i by omega]
  · rw [List.getElem?_eq_none (by rw [List.length_take]; omega), List.getElem?_eq_none (by omega)]
/-- The bytes from a sector on. -/
def bytesAt (M : List Sec) (at_ len : Nat) : List UInt8 := (flatS (M.drop at_)).take len
theorem bytesAt_len {M : List Sec} {at_ len : Nat} (h : at_ + sectorsN len ≤ M.length) : (bytesAt M at_ len).length = len := by
  have := sectorsN_ge len
  unfold bytesAt; rw [List.length_take, flatS_len, List.length_drop]; omega
theorem bytesAt_put {M : List Sec} {at_ : Nat} {bs : List UInt8} (h : at_ + sectorsN bs.length ≤ M.length) : bytesAt (putAt M at_ (laidL bs)) at_ bs.length = bs := by
  unfold bytesAt putAt
  have h1 : (M.take at_).length = at_ := by rw [List.length_take]; omega
  rw [List.append_assoc, List.drop_left' h1, flatS_app, List.take_append_of_le_length (by rw [flatS_len, laidL_len]; exact sectorsN_ge _), flat_laid]
/-- Some sectors are there. -/
def fitsP (N : Nat) (at_ : Int) (k : Nat) : Prop := 0 ≤ at_ ∧ at_ < N ∧ (k : Int) ≤ N - at_
instance (N : Nat) (at_ : Int) (k : Nat) : Decidable (fitsP N at_ k) := inferInstanceAs (Decidable (_ ∧ _))
/-- A Ref that may be read. -/
def rdOk (N : Nat) (r : Rf) : Prop := (0 ≤ r.len ∧ r.len ≤ 65536) ∧ fitsP N r.at_ (sectorsN r.len.toNat)
instance (N : Nat) (r : Rf) : Decidable (rdOk N r) := inferInstanceAs (Decidable (_ ∧ _))
/-- What a Ref tells. -/
def rdB (M : List Sec) (r : Rf) : Option (List UInt8) :=
  if rdOk M.length r ∧ tagD 3 [bytesAt M r.at_.toNat r.len.toNat] = r.dig then some (bytesAt M r.at_.toNat r.len.toNat) else none
/-- The Ref of bytes. -/
def ofR (at_ : Int) (bs : List UInt8) : Rf := ⟨tagD 3 [bs], at_, (bs.length : Int)⟩
end Go.Proofs.Ytigehkfdfecfoaa.B
