/-
  Volumes from bytes (plain).
-/
import Derived.Test.YtkmciohghhffnaaVImgP
import Derived.Test.YtkmciohghhffnaaPackCan
import Derived.Test.YtkmciohghhffnaaMRef
import Derived.Test.YtkmciohghhffnaaMPack
namespace Go.Proofs.Ytkmciohghhffnaa.B
open Go
set_option linter.unusedVariables false
set_option maxHeartbeats 2000000
set_option maxRecDepth 100000
attribute [local irreducible] W OpsW OpsQ retP
/-- Cells from bytes. -/
def cellsR : Nat → Int → List UInt8 → Option (List (Int × Bk) × List UInt8)
  | 0, _, bs => some ([], bs)
  | k + 1, last, bs =>
    let n := numR 1048575 bs false
    let d := digR n.2.1 n.2.2
    if (n.1 : Int) ≤ last ∨ d.2.2 = true then none else
    match cellsR k n.1 d.2.1 with
    | none => none
    | some r => some ((((n.1 : Nat) : Int), d.1) :: r.1, r.2)
/-- A volume behind its name. -/
def volR1 (bs : List UInt8) : Option (VA × List UInt8) :=
  let q := numR 2097153 bs false
  let m := numR (q.1 / 2) q.2.1 q.2.2
  if m.2.2 = true then none else
  match cellsR m.1 (-1) m.2.1 with
  | none => none
  | some r => some (⟨((q.1 / 2 : Nat) : Int), decide (q.1 % 2 = 1), r.1⟩, r.2)
/-- Volumes from bytes. -/
def volsR : Nat → List UInt8 → List UInt8 → Option (AL × List UInt8)
  | 0, _, bs => some ([], bs)
  | k + 1, last, bs =>
    let nm := bytsR 20 bs false
    if nm.2.2 = true then none else
    match volR1 nm.2.1 with
    | none => none
    | some v => if ¬ namedB nm.1 ∨ ¬ last < nm.1 then none else
      match volsR k nm.1 v.2 with
      | none => none
      | some r => some ((nm.1, v.1) :: r.1, r.2)
def setR12 (bs : List UInt8) : Option AL :=
  let n := numR 1073741824 bs false
  if n.2.2 = true then none else
  match volsR n.1 [] n.2.1 with
  | none => none
  | some r => if r.2 = [] then some r.1 else none
def encC (c : Int × Bk) : List UInt8 := encN c.1.toNat ++ c.2.val
def qN (v : VA) : Nat := 2 * v.q.toNat + (if v.fr = true then 1 else 0)
def encV (x : List UInt8 × VA) : List UInt8 := encB x.1 ++ (encN (qN x.2) ++ (encN x.2.bl.length ++ x.2.bl.flatMap encC))
def encL (l : AL) : List UInt8 := encN l.length ++ l.flatMap encV
/-- Rising cells. -/
def UpC (last : Int) (l : List (Int × Bk)) : Prop := (∀ p ∈ l, last < p.1 ∧ 0 ≤ p.1 ∧ p.1 < 1048576) ∧ l.Pairwise fun a b => a.1 < b.1
theorem cellsR_can : ∀ (k : Nat) (last : Int) (bs r : List UInt8) (l : List (Int × Bk)), cellsR k last bs = some (l, r) → l.length = k ∧ bs = l.flatMap encC ++ r ∧ UpC last l
  | 0, last, bs, r, l, h => by
    injection h with h; injection h with h1 h2; subst h1; subst h2
    exact ⟨rfl, rfl, (fun p hp => by cases hp), List.Pairwise.nil⟩
  | k + 1, last, bs, r, l, h => by
    unfold cellsR at h
    simp only at h
    split at h
    · cases h
    · rename_i hc
      split at h
      · cases h
      · rename_i p hp
        obtain ⟨pl, pr⟩ := p
        injection h with h; injection h with h1 h2; subst h1; subst h2
        obtain ⟨i1, i2, i3, i4⟩ := cellsR_can k _ _ _ _ hp
        have hd : (digR (numR 1048575 bs false).2.1 (numR 1048575 bs false).2.2).2.2 = false := by
          cases hb : (digR (numR 1048575 bs false).2.1 (numR 1048575 bs false).2.2).2.2 with
          | false => rfl
          | true => exact absurd (.inr hb) hc
        obtain ⟨c1, c2⟩ := digR_can (hd ▸ trip (digR (numR 1048575 bs false).2.1 (numR 1048575 bs false).2.2))
        obtain ⟨_, c3, c4, _⟩ := numR_can (c1 ▸ trip (numR 1048575 bs false))
        have hl : last < ((numR 1048575 bs false).1 : Int) := by
          by_cases hh : ((numR 1048575 bs false).1 : Int) ≤ last
          · exact absurd (.inl hh) hc
          · omega
        refine ⟨by rw [List.length_cons, i1], ?_, ?_, ?_⟩
        · rw [List.flatMap_cons, List.append_assoc, ← i2]
          show bs = (encN (((numR 1048575 bs false).1 : Int)).toNat ++ _) ++ _
          rw [Int.toNat_natCast, List.append_assoc, ← c2]
          exact c3
        · intro p hp
          rcases List.mem_cons.1 hp with rfl | hp
          · exact ⟨hl, by show (0 : Int) ≤ ((numR 1048575 bs false).1 : Nat); omega, by show (((numR 1048575 bs false).1 : Nat) : Int) < _; omega⟩
          · have h3 := i3 p hp
            exact ⟨by omega, h3.2⟩
        · exact List.pairwise_cons.2 ⟨fun p hp => (i3 p hp).1, i4⟩
def VOk (v : VA) : Prop := 0 ≤ v.q ∧ v.q ≤ 1048576 ∧ (v.bl.length : Int) ≤ v.q ∧ UpC (-1) v.bl
theorem volR1_can {bs r : List UInt8} {v : VA} (h : volR1 bs = some (v, r)) : bs = encN (qN v) ++ (encN v.bl.length ++ (v.bl.flatMap encC ++ r)) ∧ VOk v := by
  unfold volR1 at h
  simp only at h
  split at h
  · cases h
  · rename_i hb
    have hb : (numR ((numR 2097153 bs false).1 / 2) (numR 2097153 bs false).2.1 (numR 2097153 bs false).2.2).2.2 = false := by simpa using hb
    split at h
    · cases h
    · rename_i p hp
      obtain ⟨pl, pr⟩ := p
      injection h with h; injection h with h1 h2; subst h1; subst h2
      obtain ⟨i1, i2, i3⟩ := cellsR_can _ _ _ _ _ hp
      obtain ⟨c1, c2, c3, _⟩ := numR_can (hb ▸ trip (numR ((numR 2097153 bs false).1 / 2) (numR 2097153 bs false).2.1 (numR 2097153 bs false).2.2))
      obtain ⟨_, c5, c6, _⟩ := numR_can (c1 ▸ trip (numR 2097153 bs false))
      have eq : qN ⟨((numR 2097153 bs false).1 / 2 : Nat), decide ((numR 2097153 bs false).1 % 2 = 1), pl⟩ = (numR 2097153 bs false).1 := by
        unfold qN
        show 2 * ((((numR 2097153 bs false).1 / 2 : Nat) : Int)).toNat + (if decide ((numR 2097153 bs false).1 % 2 = 1) = true then 1 else 0) = _
        rw [Int.toNat_natCast]
        by_cases h1 : (numR 2097153 bs false).1 % 2 = 1
        · rw [if_pos (by simpa using h1)]; omega
        · rw [if_neg (by simpa using h1)]; omega
      refine ⟨?_, ?_, ?_, ?_, i3⟩
      · rw [eq]
        show bs = encN _ ++ (encN pl.length ++ (pl.flatMap encC ++ _))
        rw [← i2, i1, ← c2]; exact c5
      · show (0 : Int) ≤ (((numR 2097153 bs false).1 / 2 : Nat) : Int); omega
      · show (((numR 2097153 bs false).1 / 2 : Nat) : Int) ≤ _; omega
      · show (pl.length : Int) ≤ (((numR 2097153 bs false).1 / 2 : Nat) : Int); rw [i1]; omega
/-- Rising names. -/
def UpN (last : List UInt8) (l : AL) : Prop := (∀ x ∈ l, last < x.1 ∧ namedB x.1 ∧ VOk x.2) ∧ l.Pairwise fun a b => a.1 < b.1
theorem volsR_can : ∀ (k : Nat) (last bs r : List UInt8) (l : AL), volsR k last bs = some (l, r) → l.length = k ∧ bs = l.flatMap encV ++ r ∧ UpN last l
  | 0, last, bs, r, l, h => by
    injection h with h; injection h with h1 h2; subst h1; subst h2
    exact ⟨rfl, rfl, (fun p hp => by cases hp), List.Pairwise.nil⟩
  | k + 1, last, bs, r, l, h => by
    unfold volsR at h
    simp only at h
    split at h
    · cases h
    · rename_i hb
      have hb : (bytsR 20 bs false).2.2 = false := by simpa using hb
      split at h
      · cases h
      · rename_i pv hv
        obtain ⟨v, vr⟩ := pv
        split at h
        · cases h
        · rename_i hn
          split at h
          · cases h
          · rename_i p hp
            obtain ⟨pl, pr⟩ := p
            injection h with h; injection h with h1 h2; subst h1; subst h2
            obtain ⟨i1, i2, i3, i4⟩ := volsR_can k _ _ _ _ hp
            obtain ⟨v1, v2⟩ := volR1_can hv
            obtain ⟨_, b2, _⟩ := bytsR_can (hb ▸ trip (bytsR 20 bs false))
            have hnm : namedB (bytsR 20 bs false).1 := Classical.byContradiction fun hh => hn (.inl hh)
            have hlt : last < (bytsR 20 bs false).1 := Classical.byContradiction fun hh => hn (.inr hh)
            refine ⟨by rw [List.length_cons, i1], ?_, ?_, ?_⟩
            · rw [List.flatMap_cons, List.append_assoc, ← i2]
              unfold encV
              rw [List.append_assoc, List.append_assoc, List.append_assoc, ← v1]
              exact b2
            · intro x hx
              rcases List.mem_cons.1 hx with rfl | hx
              · exact ⟨hlt, hnm, v2⟩
              · have h3 := i3 x hx
                exact ⟨List.lt_trans hlt h3.1, h3.2⟩
            · exact List.pairwise_cons.2 ⟨fun x hx => (i3 x hx).1, i4⟩
theorem setR12_can {bs : List UInt8} {l : AL} (h : setR12 bs = some l) : bs = encL l ∧ UpN [] l := by
  unfold setR12 at h
  simp only at h
  split at h
  · cases h
  · rename_i hb
    have hb : (numR 1073741824 bs false).2.2 = false := by simpa using hb
    split at h
    · cases h
    · rename_i p hp
      obtain ⟨pl, pr⟩ := p
      split at h
      · rename_i hr
        injection h with h; subst h
        obtain ⟨i1, i2, i3⟩ := volsR_can _ _ _ _ _ hp
        obtain ⟨_, c2, _, _⟩ := numR_can (hb ▸ trip (numR 1073741824 bs false))
        have hr : pr = [] := hr
        refine ⟨?_, i3⟩
        unfold encL
        rw [i1]
        rw [hr, List.append_nil] at i2
        rw [← i2]; exact c2
      · cases h
/-- How long volumes' bytes are. -/
theorem encL_len (l : AL) : l.length ≤ (encL l).length ∧ ∀ x ∈ l, x.2.bl.length ≤ (encL l).length := by
  have hc : ∀ (bl : List (Int × Bk)), bl.length ≤ (bl.flatMap encC).length := fun bl => by
    induction bl with
    | nil => exact Nat.le_refl _
    | cons p bl ih =>
      rw [List.flatMap_cons, List.length_append, List.length_cons]
      have : 1 ≤ (encC p).length := by unfold encC; rw [List.length_append]; have := encN_pos p.1.toNat; omega
      omega
  have hv : ∀ (x : List UInt8 × VA), x.2.bl.length + 1 ≤ (encV x).length := fun x => by
    unfold encV
    rw [List.length_append, List.length_append, List.length_append]
    have h1 := hc x.2.bl
    have h2 := encN_pos (qN x.2)
    omega
  have key : ∀ (l : AL), l.length ≤ (l.flatMap encV).length ∧ ∀ x ∈ l, x.2.bl.length ≤ (l.flatMap encV).length := fun l => by
    induction l with
    | nil => exact ⟨Nat.le_refl _, fun x hx => by cases hx⟩
    | cons y l ih =>
      rw [List.flatMap_cons, List.length_append, List.length_cons]
      have h1 := hv y
      refine ⟨by have := ih.1; omega, fun x hx => ?_⟩
      rcases List.mem_cons.1 hx with rfl | hx
      · omega
      · have := ih.2 x hx; omega
  unfold encL
  rw [List.length_append]
  exact ⟨by have := (key l).1; omega, fun x hx => by have := (key l).2 x hx; omega⟩
end Go.Proofs.Ytkmciohghhffnaa.B
