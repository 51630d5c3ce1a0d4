/-
  Texts merged (mtpl.py): TreW1 TreW2 TreW3.
-/
import Derived.Test.YtpiidddccmohdaaDoorTre2
import Derived.Test.YtpiidddccmohdaaDoorNibs
import Derived.Test.YtpiidddccmohdaaDoorRowsK
import Derived.Test.YtpiidddccmohdaaDoorGate2
import Derived.Test.YtpiidddccmohdaaDoorCat
/-! trie: nodes in memory; nibbles, common, with. -/
namespace Go.Proofs.YtpiidddccmohdaaDoor.B
open Go
set_option linter.unusedVariables false
set_option maxHeartbeats 2000000
set_option maxRecDepth 100000
attribute [local irreducible] W OpsW OpsQ retP
theorem comm_eq : ∀ (k : Nat) (a b : List UInt8), a.take k = b.take k → k ≤ a.length → k ≤ b.length → (k = a.length ∨ k = b.length ∨ a[k]? ≠ b[k]?) → comm a b = k
  | 0, a, b, _, _, _, h => by
    cases a with
    | nil => unfold comm; rfl
    | cons x a =>
      cases b with
      | nil => unfold comm; rfl
      | cons y b =>
        unfold comm
        rcases h with h | h | h
        · simp at h
        · simp at h
        · rw [if_neg (fun e => h (by rw [e]; rfl))]
  | k + 1, a, b, ht, ha, hb, h => by
    cases a with
    | nil => simp at ha
    | cons x a =>
      cases b with
      | nil => simp at hb
      | cons y b =>
        rw [List.take_succ_cons, List.take_succ_cons] at ht
        injection ht with h1 h2
        subst h1
        unfold comm
        rw [if_pos rfl, comm_eq k a b h2 (by simpa using ha) (by simpa using hb) (by simpa using h)]
end Go.Proofs.YtpiidddccmohdaaDoor.B
/-! trie: put. -/
namespace Go.Proofs.YtpiidddccmohdaaDoor.B
open Go
set_option linter.unusedVariables false
set_option maxHeartbeats 2000000
set_option maxRecDepth 100000
attribute [local irreducible] W OpsW OpsQ retP
theorem Sl.one1 {w : World} {v : Value} {n sz : Nat} {cs : List Value} (h : Sl w v n sz cs) : one v = true := by obtain ⟨_, _, rfl, _⟩ := h.form; rfl
theorem By.dropS {w : World} {a : Option Addr} {n c k : Nat} {xs : List UInt8} (h : By w (.slice a n c) xs) (hk : k ≤ n) : By w (subSl a 1 k n c) (xs.drop k) := by
  obtain ⟨a', c', e, h1, h2⟩ := h.form
  injection e with e1 e2 e3; subst e1; subst e2; subst e3
  have := Sl.sub (l := k) (h := xs.length) (m := c) h hk (Nat.le_refl _) h1 (Nat.le_refl _)
  rw [Nat.mul_one, Nat.mul_one, List.take_of_length_le (by simp), ← List.map_drop] at this
  unfold By
  rw [List.length_drop]; exact this
theorem By.takeS {w : World} {a : Option Addr} {n c k : Nat} {xs : List UInt8} (h : By w (.slice a n c) xs) (hk : k ≤ n) : By w (subSl a 1 0 k c) (xs.take k) := by
  obtain ⟨a', c', e, h1, h2⟩ := h.form
  injection e with e1 e2 e3; subst e1; subst e2; subst e3
  have := Sl.sub (l := 0) (h := k) (m := c) h (Nat.zero_le _) hk (by omega) (Nat.le_refl _)
  rw [List.drop_zero, Nat.sub_zero, ← List.map_take, Nat.mul_one] at this
  unfold By
  rw [List.length_take, Nat.min_eq_left hk]; exact this
theorem putT_split {T : Tre} {rest val : List UInt8} (hT : T ≠ .no) (h : comm (begT T) rest < (begT T).length) : putT T rest val = splitT T rest val (comm (begT T) rest) := by
  cases T with
  | no => exact absurd rfl hT
  | leaf b v => rw [putT]; exact if_pos h
  | branch b k => rw [putT]; exact if_pos h
theorem wf_beg {T : Tre} {L : Nat} (h : T.wf L) : (begT T).length ≤ L ∧ nib16 (begT T) := by
  cases T with
  | no => exact ⟨Nat.zero_le _, fun x h => by cases h⟩
  | leaf b v => exact ⟨by rw [show (begT (.leaf b v)).length = L from h.1]; exact Nat.le_refl _, h.2⟩
  | branch b k => exact ⟨Nat.le_of_lt h.1, h.2.1⟩
end Go.Proofs.YtpiidddccmohdaaDoor.B
/-! trie: whole, drop, New, Put. -/
namespace Go.Proofs.YtpiidddccmohdaaDoor.B
open Go
set_option linter.unusedVariables false
set_option maxHeartbeats 2000000
set_option maxRecDepth 100000
attribute [local irreducible] W OpsW OpsQ retP
def onesTo (K : Nat → Tre) (k : Nat) : List Nat := (List.range k).filter fun i => !(K i).isNo
theorem onesTo_no {K : Nat → Tre} {k : Nat} (h : K k = .no) : onesTo K (k + 1) = onesTo K k := by
  unfold onesTo; rw [List.range_succ, List.filter_append, List.filter_cons, h]; simp [Tre.isNo]
theorem onesTo_is {K : Nat → Tre} {k : Nat} (h : K k ≠ .no) : onesTo K (k + 1) = onesTo K k ++ [k] := by
  unfold onesTo; rw [List.range_succ, List.filter_append, List.filter_cons, Tre.notNo.2 h]; simp
theorem onesTo_pre {K : Nat → Tre} {k : Nat} (h : k ≤ 16) : onesTo K k <+: ones K := by
  obtain ⟨j, hj⟩ : ∃ j, 16 = k + j := ⟨16 - k, by omega⟩
  unfold ones onesTo
  rw [hj, List.range_add, List.filter_append]; exact List.prefix_append _ _
theorem wholeT_two {beg : List UInt8} {K : Nat → Tre} {l k : Nat} (hk : k < 16) (h : onesTo K (k + 1) = [l, k]) : wholeT beg K = .branch beg K := by
  obtain ⟨t, ht⟩ := onesTo_pre (K := K) (k := k + 1) (by omega)
  unfold wholeT
  rw [← ht, h]; rfl
theorem wholeT_one {beg : List UInt8} {K : Nat → Tre} {l : Nat} (h : onesTo K 16 = [l]) : wholeT beg K = reB (K l) ((beg ++ [l.toUInt8]) ++ begT (K l)) := by
  unfold wholeT
  rw [show ones K = onesTo K 16 from rfl, h]
end Go.Proofs.YtpiidddccmohdaaDoor.B
