/-
  Trees of digests: the plain law. H gives the digest of tagged rows.
-/
import Derived.Test.YtigehkfdfecfoaaMLib
namespace Go.Proofs.Ytigehkfdfecfoaa.B
set_option linter.unusedVariables false
/-- How many of n things are the first ones. -/
def splitN (n : Nat) : Nat := 2 ^ Nat.log2 (n - 1)
theorem splitN_pos (n : Nat) : 0 < splitN n := Nat.pow_pos (by decide)
theorem splitN_lt {n : Nat} (h : 2 ≤ n) : splitN n < n := by
  have := Nat.log2_self_le (n := n - 1) (by omega)
  unfold splitN; omega
theorem splitN_ge {n : Nat} (h : 2 ≤ n) : n ≤ 2 * splitN n := by
  have := (Nat.log2_lt (n := n - 1) (k := Nat.log2 (n - 1) + 1) (by omega)).1 (Nat.lt_succ_self _)
  unfold splitN; rw [Nat.pow_succ] at this; omega
section
variable (H : UInt8 → List (List UInt8) → Dig)
def rootD (rows : List (List UInt8)) : Dig :=
  if h : 2 ≤ rows.length then H 1 [(rootD (rows.take (splitN rows.length))).val, (rootD (rows.drop (splitN rows.length))).val]
  else match rows with
    | [] => H 2 []
    | r :: _ => H 0 [r]
termination_by rows.length
decreasing_by
  · have := splitN_lt h; rw [List.length_take]; omega
  · have := splitN_pos rows.length; rw [List.length_drop]; omega
theorem rootD_0 : rootD H [] = H 2 [] := by rw [rootD]; rfl
theorem rootD_1 (r : List UInt8) : rootD H [r] = H 0 [r] := by rw [rootD]; rfl
theorem rootD_2 {rows : List (List UInt8)} (h : 2 ≤ rows.length) : rootD H rows = H 1 [(rootD H (rows.take (splitN rows.length))).val, (rootD H (rows.drop (splitN rows.length))).val] := by rw [rootD, dif_pos h]
/-- From the top down: does the row stand in the first part? -/
def sidesD (count pos : Nat) : List Bool :=
  if h : 2 ≤ count then (if pos < splitN count then true :: sidesD (splitN count) pos else false :: sidesD (count - splitN count) (pos - splitN count)) else []
termination_by count
decreasing_by
  · exact splitN_lt h
  · have := splitN_pos count; omega
theorem sidesD_1 {count pos : Nat} (h : ¬ 2 ≤ count) : sidesD count pos = [] := by rw [sidesD, dif_neg h]
theorem sidesD_l {count pos : Nat} (h : 2 ≤ count) (hp : pos < splitN count) : sidesD count pos = true :: sidesD (splitN count) pos := by rw [sidesD, dif_pos h, if_pos hp]
theorem sidesD_r {count pos : Nat} (h : 2 ≤ count) (hp : ¬ pos < splitN count) : sidesD count pos = false :: sidesD (count - splitN count) (pos - splitN count) := by rw [sidesD, dif_pos h, if_neg hp]
/-- One step up. -/
def stepD (b : Bool) (p d : Dig) : Dig := if b then H 1 [d.val, p.val] else H 1 [p.val, d.val]
/-- Up along a proof. -/
def upD : List (Bool × Dig) → Dig → Dig
  | [], d => d
  | x :: l, d => upD l (stepD H x.1 x.2 d)
theorem upD_snoc (x : Bool × Dig) : ∀ (l : List (Bool × Dig)) (d : Dig), upD H (l ++ [x]) d = stepD H x.1 x.2 (upD H l d)
  | [], d => rfl
  | y :: l, d => upD_snoc x l _
/-- The root that a proof leads to. -/
def leadD (count pos : Nat) (row : List UInt8) (proof : List Dig) : Dig × Bool :=
  if h : 2 ≤ count then
    (if proof = [] then (Dig.zero, false)
    else if pos < splitN count then (H 1 [(leadD (splitN count) pos row proof.dropLast).1.val, (proof.getLastD Dig.zero).val], (leadD (splitN count) pos row proof.dropLast).2)
    else (H 1 [(proof.getLastD Dig.zero).val, (leadD (count - splitN count) (pos - splitN count) row proof.dropLast).1.val], (leadD (count - splitN count) (pos - splitN count) row proof.dropLast).2))
  else (H 0 [row], decide (proof = []))
termination_by count
decreasing_by
  all_goals first | exact splitN_lt h | (have := splitN_pos count; omega)
theorem leadD_1 {count pos : Nat} {row : List UInt8} {proof : List Dig} (h : ¬ 2 ≤ count) : leadD H count pos row proof = (H 0 [row], decide (proof = [])) := by rw [leadD, dif_neg h]
theorem leadD_0 {count pos : Nat} {row : List UInt8} (h : 2 ≤ count) : leadD H count pos row [] = (Dig.zero, false) := by rw [leadD, dif_pos h, if_pos rfl]
theorem leadD_l {count pos : Nat} {row : List UInt8} {proof : List Dig} {p : Dig} (h : 2 ≤ count) (hp : pos < splitN count) : leadD H count pos row (proof ++ [p]) = (H 1 [(leadD H (splitN count) pos row proof).1.val, p.val], (leadD H (splitN count) pos row proof).2) := by
  rw [leadD, dif_pos h, if_neg (by simp), if_pos hp]; simp
theorem leadD_r {count pos : Nat} {row : List UInt8} {proof : List Dig} {p : Dig} (h : 2 ≤ count) (hp : ¬ pos < splitN count) : leadD H count pos row (proof ++ [p]) = (H 1 [p.val, (leadD H (count - splitN count) (pos - splitN count) row proof).1.val], (leadD H (count - splitN count) (pos - splitN count) row proof).2) := by
  rw [leadD, dif_pos h, if_neg (by simp), if_neg hp]; simp
theorem snoc_of {α : Type} (l : List α) : l = [] ∨ ∃ m x, l = m ++ [x] := by
  rcases List.eq_nil_or_concat l with h | ⟨m, x, h⟩
  · exact .inl h
  · exact .inr ⟨m, x, by simpa using h⟩
/-- Up and down are one. -/
theorem lead_up : ∀ (n count pos : Nat) (row : List UInt8) (proof : List Dig), count ≤ n → (leadD H count pos row proof).2 = decide ((sidesD count pos).length = proof.length) ∧
    ((sidesD count pos).length = proof.length → (leadD H count pos row proof).1 = upD H ((sidesD count pos).reverse.zip proof) (H 0 [row])) := by
  intro n
  induction n with
  | zero =>
    intro count pos row proof hn
    rw [leadD_1 H (by omega), sidesD_1 (by omega)]
    refine ⟨?_, fun _ => rfl⟩
    simp only [List.length_nil]
    cases proof <;> simp
  | succ n ih =>
    intro count pos row proof hn
    by_cases h : 2 ≤ count
    · have h1 := splitN_lt h
      have h2 := splitN_pos count
      rcases snoc_of proof with rfl | ⟨m, p, rfl⟩
      · rw [leadD_0 H h]
        by_cases hp : pos < splitN count
        · rw [sidesD_l h hp]; simp
        · rw [sidesD_r h hp]; simp
      · by_cases hp : pos < splitN count
        · obtain ⟨i1, i2⟩ := ih (splitN count) pos row m (by omega)
          rw [leadD_l H h hp, sidesD_l h hp, i1]
          refine ⟨by simp, fun hl => ?_⟩
          have hl' : (sidesD (splitN count) pos).length = m.length := by simpa using hl
          rw [List.reverse_cons, List.zip_append (by simpa using hl'), List.zip_cons_cons, List.zip_nil_right, upD_snoc, ← i2 hl']
          rfl
        · obtain ⟨i1, i2⟩ := ih (count - splitN count) (pos - splitN count) row m (by omega)
          rw [leadD_r H h hp, sidesD_r h hp, i1]
          refine ⟨by simp, fun hl => ?_⟩
          have hl' : (sidesD (count - splitN count) (pos - splitN count)).length = m.length := by simpa using hl
          rw [List.reverse_cons, List.zip_append (by simpa using hl'), List.zip_cons_cons, List.zip_nil_right, upD_snoc, ← i2 hl']
          rfl
    · rw [leadD_1 H h, sidesD_1 h]
      refine ⟨?_, fun _ => rfl⟩
      simp only [List.length_nil]
      cases proof <;> simp
/-- The proof of a row. -/
def proveD (rows : List (List UInt8)) (pos : Nat) : List Dig :=
  if h : 2 ≤ rows.length then (if pos < splitN rows.length then proveD (rows.take (splitN rows.length)) pos ++ [rootD H (rows.drop (splitN rows.length))]
    else proveD (rows.drop (splitN rows.length)) (pos - splitN rows.length) ++ [rootD H (rows.take (splitN rows.length))]) else []
termination_by rows.length
decreasing_by
  · have := splitN_lt h; rw [List.length_take]; omega
  · have := splitN_pos rows.length; rw [List.length_drop]; omega
theorem proveD_1 {rows : List (List UInt8)} {pos : Nat} (h : ¬ 2 ≤ rows.length) : proveD H rows pos = [] := by rw [proveD, dif_neg h]
theorem proveD_l {rows : List (List UInt8)} {pos : Nat} (h : 2 ≤ rows.length) (hp : pos < splitN rows.length) : proveD H rows pos = proveD H (rows.take (splitN rows.length)) pos ++ [rootD H (rows.drop (splitN rows.length))] := by rw [proveD, dif_pos h, if_pos hp]
theorem proveD_r {rows : List (List UInt8)} {pos : Nat} (h : 2 ≤ rows.length) (hp : ¬ pos < splitN rows.length) : proveD H rows pos = proveD H (rows.drop (splitN rows.length)) (pos - splitN rows.length) ++ [rootD H (rows.take (splitN rows.length))] := by rw [proveD, dif_pos h, if_neg hp]
theorem prove_lead : ∀ (n : Nat) (rows : List (List UInt8)) (pos : Nat) (row : List UInt8), rows.length ≤ n → rows[pos]? = some row → leadD H rows.length pos row (proveD H rows pos) = (rootD H rows, true) := by
  intro n
  induction n with
  | zero => intro rows pos row hn hr; have := (List.getElem?_eq_some_iff.1 hr).1; omega
  | succ n ih =>
    intro rows pos row hn hr
    have hpos := (List.getElem?_eq_some_iff.1 hr).1
    by_cases h : 2 ≤ rows.length
    · have h1 := splitN_lt h
      have h2 := splitN_pos rows.length
      have ht : (rows.take (splitN rows.length)).length = splitN rows.length := by rw [List.length_take]; omega
      have hd : (rows.drop (splitN rows.length)).length = rows.length - splitN rows.length := List.length_drop
      by_cases hp : pos < splitN rows.length
      · have := ih (rows.take (splitN rows.length)) pos row (by omega) (by rw [List.getElem?_take, if_pos hp]; exact hr)
        rw [ht] at this
        rw [proveD_l H h hp, leadD_l H h hp, this, rootD_2 H h]
      · have := ih (rows.drop (splitN rows.length)) (pos - splitN rows.length) row (by omega) (by rw [List.getElem?_drop, show splitN rows.length + (pos - splitN rows.length) = pos by omega]; exact hr)
        rw [hd] at this
        rw [proveD_r H h hp, leadD_r H h hp, this, rootD_2 H h]
    · match rows, hr, hpos, h with
      | [x], hr, hpos, h =>
        obtain rfl : pos = 0 := by simpa using hpos
        injection hr with hr; subst hr
        rw [proveD_1 H h, leadD_1 H h, rootD_1]; rfl
      | [], hr, hpos, h => simp at hpos
      | _ :: _ :: _, hr, hpos, h => simp at h
theorem sides_len : ∀ (n count pos : Nat), count ≤ n → (sidesD count pos).length < max 1 count := by
  intro n
  induction n with
  | zero => intro count pos hn; rw [sidesD_1 (by omega)]; simp; omega
  | succ n ih =>
    intro count pos hn
    by_cases h : 2 ≤ count
    · have h1 := splitN_lt h
      have h2 := splitN_pos count
      by_cases hp : pos < splitN count
      · have := ih (splitN count) pos (by omega)
        rw [sidesD_l h hp, List.length_cons]; omega
      · have := ih (count - splitN count) (pos - splitN count) (by omega)
        rw [sidesD_r h hp, List.length_cons]; omega
    · rw [sidesD_1 h]; simp; omega
/-- Is a clash found on the ways up? -/
def clashD (rows : List (List UInt8)) (pos : Nat) (row : List UInt8) (proof : List Dig) : Bool :=
  if h : 2 ≤ rows.length then
    (if proof = [] then false
    else if pos < splitN rows.length then
      (if (leadD H (splitN rows.length) pos row proof.dropLast).1 ≠ rootD H (rows.take (splitN rows.length)) ∨ proof.getLastD Dig.zero ≠ rootD H (rows.drop (splitN rows.length)) then
        decide (H 1 [(leadD H (splitN rows.length) pos row proof.dropLast).1.val, (proof.getLastD Dig.zero).val] = rootD H rows)
      else clashD (rows.take (splitN rows.length)) pos row proof.dropLast)
    else
      (if (leadD H (rows.length - splitN rows.length) (pos - splitN rows.length) row proof.dropLast).1 ≠ rootD H (rows.drop (splitN rows.length)) ∨ proof.getLastD Dig.zero ≠ rootD H (rows.take (splitN rows.length)) then
        decide (H 1 [(proof.getLastD Dig.zero).val, (leadD H (rows.length - splitN rows.length) (pos - splitN rows.length) row proof.dropLast).1.val] = rootD H rows)
      else clashD (rows.drop (splitN rows.length)) (pos - splitN rows.length) row proof.dropLast))
  else decide (H 0 [row] = H 0 [rows.headD []] ∧ row ≠ rows.headD [])
termination_by rows.length
decreasing_by
  · have := splitN_lt h; rw [List.length_take]; omega
  · have := splitN_pos rows.length; rw [List.length_drop]; omega
/-- Where another row, or another proof, leads to the root, a clash is found. -/
theorem clash_found : ∀ (n : Nat) (rows : List (List UInt8)) (pos : Nat) (row : List UInt8) (proof : List Dig), rows.length ≤ n → pos < rows.length → leadD H rows.length pos row proof = (rootD H rows, true) →
    (rows[pos]? ≠ some row ∨ proof ≠ proveD H rows pos) → clashD H rows pos row proof = true := by
  intro n
  induction n with
  | zero => intro rows pos row proof hn hpos; omega
  | succ n ih =>
    intro rows pos row proof hn hpos hl hne
    by_cases h : 2 ≤ rows.length
    · have h1 := splitN_lt h
      have h2 := splitN_pos rows.length
      have ht : (rows.take (splitN rows.length)).length = splitN rows.length := by rw [List.length_take]; omega
      have hd : (rows.drop (splitN rows.length)).length = rows.length - splitN rows.length := List.length_drop
      rcases snoc_of proof with rfl | ⟨m, p, rfl⟩
      · rw [leadD_0 H h] at hl; injection hl with _ hl; cases hl
      · by_cases hp : pos < splitN rows.length
        · rw [leadD_l H h hp] at hl
          injection hl with e1 e2
          rw [clashD, dif_pos h, if_neg (by simp), if_pos hp]
          simp only [List.dropLast_concat, List.getLastD_concat]
          split
          · rw [e1]; simp
          · rename_i hn2
            have e3 : (leadD H (splitN rows.length) pos row m).1 = rootD H (rows.take (splitN rows.length)) := Decidable.byContradiction fun e => hn2 (.inl e)
            have e4 : p = rootD H (rows.drop (splitN rows.length)) := Decidable.byContradiction fun e => hn2 (.inr e)
            refine ih _ pos row m (by omega) (by omega) (by rw [ht]; exact Prod.ext e3 e2) ?_
            rcases hne with hne | hne
            · left; rw [List.getElem?_take, if_pos hp]; exact hne
            · right; intro e; apply hne; rw [proveD_l H h hp, ← e, e4]
        · rw [leadD_r H h hp] at hl
          injection hl with e1 e2
          rw [clashD, dif_pos h, if_neg (by simp), if_neg hp]
          simp only [List.dropLast_concat, List.getLastD_concat]
          split
          · rw [e1]; simp
          · rename_i hn2
            have e3 : (leadD H (rows.length - splitN rows.length) (pos - splitN rows.length) row m).1 = rootD H (rows.drop (splitN rows.length)) := Decidable.byContradiction fun e => hn2 (.inl e)
            have e4 : p = rootD H (rows.take (splitN rows.length)) := Decidable.byContradiction fun e => hn2 (.inr e)
            refine ih _ (pos - splitN rows.length) row m (by omega) (by omega) (by rw [hd]; exact Prod.ext e3 e2) ?_
            rcases hne with hne | hne
            · left; rw [List.getElem?_drop, show splitN rows.length + (pos - splitN rows.length) = pos by omega]; exact hne
            · right; intro e; apply hne; rw [proveD_r H h hp, ← e, e4]
    · match rows, hpos, h, hl, hne with
      | [x], hpos, h, hl, hne =>
        obtain rfl : pos = 0 := by simpa using hpos
        rw [leadD_1 H h, rootD_1] at hl
        injection hl with e1 e2
        have e2 := of_decide_eq_true e2
        rw [clashD, dif_neg h]
        refine decide_eq_true ⟨e1, fun e => ?_⟩
        have e : row = x := e
        rcases hne with hne | hne
        · exact hne (by rw [e]; rfl)
        · exact hne (by rw [e2, proveD_1 H h])
      | [], hpos, h, _, _ => simp at hpos
      | _ :: _ :: _, hpos, h, _, _ => simp at h
end
end Go.Proofs.Ytigehkfdfecfoaa.B
