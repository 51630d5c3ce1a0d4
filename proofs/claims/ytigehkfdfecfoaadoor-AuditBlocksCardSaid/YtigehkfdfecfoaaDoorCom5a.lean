/-
  Commits of bytes: the parts that are read.
-/
import Derived.Test.YtigehkfdfecfoaaDoorCom4
namespace Go.Proofs.YtigehkfdfecfoaaDoor.B
open Go
set_option linter.unusedVariables false
set_option maxHeartbeats 2000000
set_option maxRecDepth 100000
attribute [local irreducible] W OpsW OpsQ retP
attribute [local irreducible] numR
abbrev nilV : Value := .slice none 0 0
def dA (bs : List UInt8) := numR 18446744073709551615 bs false
def dP (bs : List UInt8) := rfR (dA bs).2.1 (dA bs).2.2
def dV (bs : List UInt8) := rfR (dP bs).2.1 (dP bs).2.2
def dI (bs : List UInt8) := rfR (dV bs).2.1 (dV bs).2.2
def dB (bs : List UInt8) := manyR bnR (dI bs).2.1 (dI bs).2.2
def dS (bs : List UInt8) := digR (dB bs).2.1 (dB bs).2.2
def dE (bs : List UInt8) := manyR (bytsR 65536) (dS bs).2.1 (dS bs).2.2
def cmR (bs : List UInt8) : Cm := ⟨(dA bs).1, (dP bs).1, (dV bs).1, (dI bs).1, (dB bs).1, (dS bs).1, (dE bs).1⟩
theorem rdC_def (bs : List UInt8) : rdC bs = (cmR bs, (dE bs).2.1, (dE bs).2.2) := by simp only [rdC, cmR, dE, dS, dB, dI, dV, dP, dA]
theorem mid_set {A C : List Value} {n : Nat} (hA : A.length = n) (x y : Value) : (A ++ ([x] ++ C)).set n y = A ++ ([y] ++ C) := by
  rw [List.set_append_right _ _ (by omega), hA, Nat.sub_self]; rfl
theorem cmV_setP (c : Cm) (vb ve : Value) (r : Rf) : splice (cmV c vb ve) 1 (refR r) = cmV { c with prev := r } vb ve := mid_splice (A := [.int .u64 c.epoch]) rfl (by rw [refR_len, refR_len])
theorem cmV_setV (c : Cm) (vb ve : Value) (r : Rf) : splice (cmV c vb ve) 35 (refR r) = cmV { c with vols := r } vb ve := by
  unfold cmV; rw [← List.append_assoc]
  rw [mid_splice (by rw [List.length_append, refR_len]; rfl) (by rw [refR_len, refR_len]), List.append_assoc]
theorem cmV_setI (c : Cm) (vb ve : Value) (r : Rf) : splice (cmV c vb ve) 69 (refR r) = cmV { c with idx := r } vb ve := by
  unfold cmV; rw [← List.append_assoc, ← List.append_assoc]
  rw [mid_splice (by simp only [List.length_append, refR_len]; rfl) (by rw [refR_len, refR_len]), List.append_assoc, List.append_assoc]
theorem cmV_setB (c : Cm) (vb ve y : Value) : (cmV c vb ve).set 103 y = cmV c y ve := by
  unfold cmV; rw [← List.append_assoc, ← List.append_assoc, ← List.append_assoc]
  rw [mid_set (by simp only [List.length_append, refR_len]; rfl), List.append_assoc, List.append_assoc, List.append_assoc]
theorem cmV_setS (c : Cm) (vb ve : Value) (d : Dig) : splice (cmV c vb ve) 104 (dgR d) = cmV { c with state := d } vb ve := by
  unfold cmV; rw [← List.append_assoc, ← List.append_assoc, ← List.append_assoc, ← List.append_assoc]
  rw [mid_splice (by simp only [List.length_append, refR_len]; rfl) (by rw [dgR_len, dgR_len]), List.append_assoc, List.append_assoc, List.append_assoc, List.append_assoc]
theorem cmV_setE (c : Cm) (vb ve y : Value) : (cmV c vb ve).set 136 y = cmV c vb y := by
  unfold cmV; rw [← List.append_assoc, ← List.append_assoc, ← List.append_assoc, ← List.append_assoc, ← List.append_assoc]
  have h := mid_set (A := [Value.int .u64 c.epoch] ++ refR c.prev ++ refR c.vols ++ refR c.idx ++ [vb] ++ dgR c.state) (C := []) (n := 136) (by simp only [List.length_append, refR_len, dgR_len]; rfl) ve y
  rw [List.append_nil, List.append_nil] at h
  rw [h]; simp only [List.append_assoc]
def stR (bs : List UInt8) : Nat → List UInt8 × Bool
  | 0 => (dA bs).2
  | 1 => (dP bs).2
  | 2 => (dV bs).2
  | _ + 3 => (dI bs).2
def stC (bs : List UInt8) : Nat → Cm
  | 0 => ⟨(dA bs).1, Rf.zero, Rf.zero, Rf.zero, [], Dig.zero, []⟩
  | 1 => ⟨(dA bs).1, (dP bs).1, Rf.zero, Rf.zero, [], Dig.zero, []⟩
  | 2 => ⟨(dA bs).1, (dP bs).1, (dV bs).1, Rf.zero, [], Dig.zero, []⟩
  | _ + 3 => ⟨(dA bs).1, (dP bs).1, (dV bs).1, (dI bs).1, [], Dig.zero, []⟩
theorem st_step (bs : List UInt8) {k : Nat} (hk : k < 3) : ∃ o, ([1, 35, 69] : List Nat)[k]? = some o ∧ o + 34 ≤ 137 ∧
    splice (cmV (stC bs k) nilV nilV) o (refR (rfR (stR bs k).1 (stR bs k).2).1) = cmV (stC bs (k + 1)) nilV nilV ∧ (rfR (stR bs k).1 (stR bs k).2).2 = stR bs (k + 1) := by
  match k, hk with
  | 0, _ => exact ⟨1, rfl, by decide, cmV_setP _ _ _ _, rfl⟩
  | 1, _ => exact ⟨35, rfl, by decide, cmV_setV _ _ _ _, rfl⟩
  | 2, _ => exact ⟨69, rfl, by decide, cmV_setI _ _ _ _, rfl⟩
theorem decC_some {bs : List UInt8} (h1 : rising (-1) (dB bs).1) (h2 : (dE bs).2.1 = [] ∧ (dE bs).2.2 = false ∧ (dA bs).1 ≠ 0 ∧ bs.length ≤ 65536) : decC bs = some (cmR bs) := by
  unfold decC; rw [rdC_def]; exact if_pos ⟨h1, h2.1, h2.2.1, h2.2.2.1, h2.2.2.2⟩
theorem decC_noR {bs : List UInt8} (h1 : ¬ rising (-1) (dB bs).1) : decC bs = none := by
  unfold decC; rw [rdC_def]; exact if_neg fun h => h1 h.1
theorem decC_noC {bs : List UInt8} (h2 : ¬ ((dE bs).2.1 = [] ∧ (dE bs).2.2 = false ∧ (dA bs).1 ≠ 0 ∧ bs.length ≤ 65536)) : decC bs = none := by
  unfold decC; rw [rdC_def]; exact if_neg fun h => h2 ⟨h.2.1, h.2.2.1, h.2.2.2.1, h.2.2.2.2⟩
theorem cmIn_zero (w : World) : CmIn w Cm.zero nilV nilV [] := ⟨Sl.nil _ _, rfl, Sl.nil _ _, fun i u x hu => by simp at hu⟩
theorem done_iff {l : List UInt8} {bad : Bool} : ((if bad = true ∨ 0 < l.length then (3 : Int) else 0) ≠ 0) ↔ ¬ (l = [] ∧ bad = false) := by
  cases bad with
  | true => simp
  | false =>
    cases l with
    | nil => simp
    | cons x l => simp
end Go.Proofs.YtigehkfdfecfoaaDoor.B
