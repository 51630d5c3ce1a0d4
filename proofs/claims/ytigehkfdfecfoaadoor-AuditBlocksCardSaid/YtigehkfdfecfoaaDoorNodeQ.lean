/-
  Nodes of a trie: the two readings are one; the cells of the document's node.
-/
import Derived.Test.YtigehkfdfecfoaaDoorNode1
import Derived.Test.YtigehkfdfecfoaaDoorIn01b
namespace Go.Proofs.YtigehkfdfecfoaaDoor.B
open Go
set_option linter.unusedVariables false
set_option maxHeartbeats 2000000
set_option maxRecDepth 100000
attribute [local irreducible] W OpsW OpsQ retP
attribute [local irreducible] numR
theorem numR_badT (most : Nat) (bs : List UInt8) : (numR most bs true).2.2 = true := by
  cases h : decN most 0 0 bs with
  | none => rw [numR_none h]
  | some p => obtain ⟨v, r⟩ := p; rw [numR_some h]
theorem bytsR_bad (most : Nat) (bs : List UInt8) : (bytsR most bs true).2.2 = true := by
  unfold bytsR; simp only; unfold tkR; rw [if_pos (.inl (numR_badT _ _))]
theorem kdR_bad (m : Nat) (bs : List UInt8) (i : Nat) : (kdR m bs true i).2.2 = true := by
  induction i with
  | zero => rfl
  | succ i ih =>
    by_cases h : m / 2 ^ i % 2 = 1
    · rw [kdR_yes h]; show (digR _ _).2.2 = true; rw [ih]; unfold digR; rw [dif_pos (.inl rfl)]
    · rw [kdR_no h]; exact ih
theorem nd_bad {most : Nat} {bs : List UInt8} (h : (gA bs).2.2 = true) : (ndR most bs).2.2 = true := by
  by_cases hn : (nA bs).1 = 0
  · rw [ndR_leaf hn]; show (vA most bs).2.2 = true; unfold vA; rw [h]; exact bytsR_bad _ _
  · rw [ndR_branch hn]; show (kA bs 16).2.2 = true; unfold kA mA; rw [h, numR_badT]; exact kdR_bad _ _ _
theorem triple_eta {α β γ : Type} (p : α × β × γ) {b : β} {c : γ} (h1 : p.2.1 = b) (h2 : p.2.2 = c) : p = (p.1, b, c) := by obtain ⟨a, b', c'⟩ := p; subst h1; subst h2; rfl
theorem vA_most {m1 m2 : Nat} {bs : List UInt8} (h2 : bs.length ≤ m2) (hl : bs.length < 2 ^ 60) (h : (vA m1 bs).2.1 = [] ∧ (vA m1 bs).2.2 = false) : vA m2 bs = vA m1 bs := by
  have e := triple_eta (vA m1 bs) h.1 h.2
  have e1 : bytsR m1 (gA bs).2.1 (gA bs).2.2 = ((vA m1 bs).1, [], false) := e
  obtain ⟨c1, c2, c3⟩ := bytsR_can e1
  have g := triple_eta (gA bs) rfl c1
  have g1 : bytsR 64 (nA bs).2.1 (nA bs).2.2 = ((gA bs).1, (gA bs).2.1, false) := g
  obtain ⟨d1, d2, d3⟩ := bytsR_can g1
  have n1 : numR 1 bs false = ((nA bs).1, (nA bs).2.1, false) := triple_eta (nA bs) rfl d1
  obtain ⟨_, f2, _⟩ := numR_can n1
  have l1 := congrArg List.length c2
  have l2 := congrArg List.length d2
  have l3 := congrArg List.length f2
  rw [List.append_nil] at l1
  rw [List.length_append] at l2 l3
  have l4 : (vA m1 bs).1.length ≤ (encB (vA m1 bs).1).length := by unfold encB; rw [List.length_append]; omega
  have k := bytsR_enc (b := (vA m1 bs).1) (most := m2) (by omega) (by omega) []
  show bytsR m2 (gA bs).2.1 (gA bs).2.2 = _
  rw [c1, c2]
  exact k.trans e.symm
/-- The two readings are one. -/
theorem nd_most {m1 m2 left : Nat} {bs : List UInt8} (h2 : bs.length ≤ m2) (hl : bs.length < 2 ^ 60) (h : okN left (ndR m1 bs)) : ndR m2 bs = ndR m1 bs := by
  by_cases hn : (nA bs).1 = 0
  · have h3 := h.2
    rw [ndR_leaf hn] at h3
    rw [ndR_leaf hn, ndR_leaf hn, vA_most h2 hl h3]
  · rw [ndR_branch hn, ndR_branch hn]
theorem okN_most {m1 m2 left : Nat} {bs : List UInt8} (h1 : bs.length ≤ m1) (h2 : bs.length ≤ m2) (hl : bs.length < 2 ^ 60) : okN left (ndR m2 bs) ↔ okN left (ndR m1 bs) :=
  ⟨fun h => by rw [nd_most h1 hl h]; exact h, fun h => by rw [nd_most h2 hl h]; exact h⟩
/-! ### The document's node in memory -/
def hasV (k : Nat → Option Dig) : List Value := (List.range 16).map fun i => Value.bool (k i).isSome
def kidL (k : Nat → Option Dig) : List Dig := (List.range 16).map fun i => (k i).getD Dig.zero
theorem kidL_len (k : Nat → Option Dig) : (kidL k).length = 16 := by unfold kidL; rw [List.length_map, List.length_range]
theorem hasV_len (k : Nat → Option Dig) : (hasV k).length = 16 := by unfold hasV; rw [List.length_map, List.length_range]
def rnV (lf : Bool) (vb vv : Value) (k k' : Nat → Option Dig) : List Value := [.bool lf, vb, vv] ++ (hasV k ++ rows dgR (kidL k'))
theorem rnV_len (lf : Bool) (vb vv : Value) (k k' : Nat → Option Dig) : (rnV lf vb vv k k').length = 531 := by
  unfold rnV; rw [List.length_append, List.length_append, hasV_len, rows_len dgR_len, kidL_len]; rfl
theorem rnV_one (lf : Bool) {vb vv : Value} (k k' : Nat → Option Dig) (h1 : one vb = true) (h2 : one vv = true) : (rnV lf vb vv k k').all one = true := by
  unfold rnV
  rw [List.all_append, List.all_append, rows_one dgR_one]
  have h3 : (hasV k).all one = true := List.all_eq_true.2 fun x hx => by
    unfold hasV at hx; obtain ⟨i, _, rfl⟩ := List.mem_map.1 hx; rfl
  rw [h3]; simp only [List.all_cons, List.all_nil, h1, h2]; rfl
def updK (k : Nat → Option Dig) (i : Nat) (d : Dig) : Nat → Option Dig := fun j => if j = i then some d else k j
theorem range_set {α : Type} (f : Nat → α) (i : Nat) (hi : i < 16) (y : α) : ((List.range 16).map f).set i y = (List.range 16).map fun j => if j = i then y else f j := by
  apply List.ext_getElem
  · simp
  · intro j h1 h2
    simp only [List.length_set, List.length_map, List.length_range] at h1
    rw [List.getElem_set, List.getElem_map, List.getElem_map, List.getElem_range]
    by_cases e : i = j
    · subst e; simp
    · rw [if_neg e, if_neg (fun h => e h.symm)]
theorem hasV_set (k : Nat → Option Dig) {i : Nat} (hi : i < 16) (d : Dig) : (hasV k).set i (.bool true) = hasV (updK k i d) := by
  unfold hasV; rw [range_set _ _ hi]
  apply List.map_congr_left; intro j _
  unfold updK; split <;> rfl
theorem kidL_set (k : Nat → Option Dig) {i : Nat} (hi : i < 16) (d : Dig) : (kidL k).set i d = kidL (updK k i d) := by
  unfold kidL; rw [range_set _ _ hi]
  apply List.map_congr_left; intro j _
  unfold updK; split <;> rfl
theorem rnV_setHas (lf : Bool) (vb vv : Value) (k k' : Nat → Option Dig) {i : Nat} (hi : i < 16) (d : Dig) : (rnV lf vb vv k k').set (3 + i) (.bool true) = rnV lf vb vv (updK k i d) k' := by
  unfold rnV
  rw [List.set_append_right _ _ (by simp)]
  simp only [List.length_cons, List.length_nil]
  rw [show 3 + i - (0 + 1 + 1 + 1) = i by omega, List.set_append_left _ _ (by rw [hasV_len]; exact hi), hasV_set k hi d]
theorem rnV_setKid (lf : Bool) (vb vv : Value) (k k' : Nat → Option Dig) {i : Nat} (hi : i < 16) (d : Dig) : splice (rnV lf vb vv k k') (19 + i * 32) (dgR d) = rnV lf vb vv k (updK k' i d) := by
  have e : rnV lf vb vv k k' = ([.bool lf, vb, vv] ++ hasV k) ++ rows dgR (kidL k') := by unfold rnV; rw [List.append_assoc]
  have hl : ([.bool lf, vb, vv] ++ hasV k).length = 19 := by rw [List.length_append, hasV_len]; rfl
  have e2 : rnV lf vb vv k (updK k' i d) = ([.bool lf, vb, vv] ++ hasV k) ++ rows dgR (kidL (updK k' i d)) := by unfold rnV; rw [List.append_assoc]
  rw [e2, e, ← kidL_set k' hi d, ← rows_set dgR_len (by rw [kidL_len]; exact hi)]
  unfold splice
  rw [List.take_append, List.take_of_length_le (by rw [hl]; omega), hl, Nat.add_sub_cancel_left, List.append_assoc, List.append_assoc, List.drop_append, List.drop_of_length_le (by rw [hl]; omega), List.nil_append, hl, Nat.add_assoc, Nat.add_sub_cancel_left]
  simp only [List.append_assoc]
theorem rnV_has (lf : Bool) (vb vv : Value) (k k' : Nat → Option Dig) {i : Nat} (hi : i < 16) : (rnV lf vb vv k k')[3 + i]? = some (.bool (k i).isSome) := by
  unfold rnV
  rw [List.getElem?_append_right (by simp), List.getElem?_append_left (by simp only [List.length_cons, List.length_nil, hasV_len]; omega)]
  simp only [List.length_cons, List.length_nil]
  rw [show 3 + i - (0 + 1 + 1 + 1) = i by omega]
  unfold hasV; rw [List.getElem?_map, List.getElem?_range hi]; rfl
theorem rnV_kid (lf : Bool) (vb vv : Value) (k k' : Nat → Option Dig) {i : Nat} (hi : i < 16) {j : Nat} {v : Value} (h : (dgR ((k' i).getD Dig.zero))[j]? = some v) : (rnV lf vb vv k k')[19 + i * 32 + j]? = some v := by
  have hj : j < 32 := by have := (List.getElem?_eq_some_iff.1 h).1; rwa [dgR_len] at this
  have e : rnV lf vb vv k k' = ([.bool lf, vb, vv] ++ hasV k) ++ rows dgR (kidL k') := by unfold rnV; rw [List.append_assoc]
  have hl : ([.bool lf, vb, vv] ++ hasV k).length = 19 := by rw [List.length_append, hasV_len]; rfl
  rw [e, List.getElem?_append_right (by rw [hl]; omega), hl, show 19 + i * 32 + j - 19 = i * 32 + j by omega, rows_get dgR_len (by rw [kidL_len]; exact hi) hj]
  have e2 : (kidL k')[i]'(by rw [kidL_len]; exact hi) = (k' i).getD Dig.zero := by unfold kidL; rw [List.getElem_map, List.getElem_range]
  rw [e2]; exact h
def knone : Nat → Option Dig := fun _ => none
end Go.Proofs.YtigehkfdfecfoaaDoor.B
