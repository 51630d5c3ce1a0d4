/-
  Tries: the plain law. A trie that is well formed is told by what it has.
-/
import Derived.Test.YtpiidddccmohdabDoorMBase
namespace Go.Proofs.YtpiidddccmohdabDoor.B
open Go
set_option linter.unusedVariables false
set_option maxHeartbeats 2000000
set_option maxRecDepth 100000
attribute [local irreducible] W OpsW OpsQ retP
/-- A trie: nothing, a leaf, or a branch with kids by nibbles. -/
inductive Tre where
  | no
  | leaf (beg val : List UInt8)
  | branch (beg : List UInt8) (kids : Nat → Tre)
def Tre.isNo : Tre → Bool
  | .no => true
  | _ => false
theorem Tre.isNo_iff {T : Tre} : T.isNo = true ↔ T = .no := by cases T <;> simp [Tre.isNo]
theorem Tre.notNo {T : Tre} : T.isNo = false ↔ T ≠ .no := by cases T <;> simp [Tre.isNo]
/-- How long the beginning is that two rows have. -/
def comm : List UInt8 → List UInt8 → Nat
  | a :: l, b :: r => if a = b then comm l r + 1 else 0
  | _, _ => 0
theorem comm_le : ∀ (l r : List UInt8), comm l r ≤ l.length ∧ comm l r ≤ r.length
  | [], r => by unfold comm; exact ⟨Nat.le_refl _, Nat.zero_le _⟩
  | a :: l, [] => by unfold comm; exact ⟨Nat.zero_le _, Nat.zero_le _⟩
  | a :: l, b :: r => by
    have h := comm_le l r
    unfold comm; split
    · simp only [List.length_cons]; omega
    · exact ⟨Nat.zero_le _, Nat.zero_le _⟩
theorem comm_take : ∀ (l r : List UInt8), l.take (comm l r) = r.take (comm l r)
  | [], r => by simp [comm]
  | a :: l, [] => by simp [comm]
  | a :: l, b :: r => by
    unfold comm; split
    · rename_i h; subst h; simp [comm_take l r]
    · rfl
theorem comm_ne : ∀ (l r : List UInt8) (x y : UInt8), l[comm l r]? = some x → r[comm l r]? = some y → x ≠ y
  | [], r, x, y, h, _ => by simp at h
  | a :: l, [], x, y, _, h => by simp at h
  | a :: l, b :: r, x, y, h1, h2 => by
    by_cases e : a = b
    · subst e
      have hc : comm (a :: l) (a :: r) = comm l r + 1 := by conv => lhs; unfold comm
                                                            rw [if_pos rfl]
      rw [hc] at h1 h2
      exact comm_ne l r x y (by simpa using h1) (by simpa using h2)
    · have hc : comm (a :: l) (b :: r) = 0 := by conv => lhs; unfold comm
                                                 rw [if_neg e]
      rw [hc] at h1 h2
      simp at h1 h2
      subst h1; subst h2; exact e
theorem comm_full {l r : List UInt8} (h : comm l r = l.length) : l <+: r := by
  have h1 := comm_take l r
  rw [h, List.take_length] at h1
  rw [h1]; exact List.take_prefix _ _
theorem comm_pre {l r : List UInt8} (h : l <+: r) : comm l r = l.length := by
  obtain ⟨t, rfl⟩ := h
  induction l with
  | nil => rfl
  | cons a l ih => rw [List.cons_append]; unfold comm; rw [if_pos rfl, ih]; rfl
def nib16 (l : List UInt8) : Prop := ∀ x ∈ l, x.toNat < 16
/-- It is as it should be, with so many nibbles left. -/
def Tre.wf : Tre → Nat → Prop
  | .no, _ => True
  | .leaf beg _, L => beg.length = L ∧ nib16 beg
  | .branch beg kids, L => beg.length < L ∧ nib16 beg ∧ (∀ i, (kids i).wf (L - beg.length - 1)) ∧ (∀ i, 16 ≤ i → kids i = .no) ∧ ∃ i j, i ≠ j ∧ kids i ≠ .no ∧ kids j ≠ .no
/-- What it has under a key. -/
def Tre.get : Tre → List UInt8 → Option (List UInt8)
  | .no, _ => none
  | .leaf beg v, r => if beg = r then some v else none
  | .branch beg kids, r => if beg <+: r then (match r[beg.length]? with | some x => (kids x.toNat).get (r.drop (beg.length + 1)) | none => none) else none
theorem Tre.get_eq (beg : List UInt8) (kids : Nat → Tre) (r : List UInt8) : (Tre.branch beg kids).get r = if beg <+: r then (match r[beg.length]? with | some x => (kids x.toNat).get (r.drop (beg.length + 1)) | none => none) else none := by
  rw [Tre.get]
theorem Tre.get_br {beg : List UInt8} {kids : Nat → Tre} {x : UInt8} {r : List UInt8} : (Tre.branch beg kids).get (beg ++ x :: r) = (kids x.toNat).get r := by
  have h1 : beg <+: beg ++ x :: r := List.prefix_append _ _
  have h2 : (beg ++ x :: r)[beg.length]? = some x := by rw [List.getElem?_append_right (Nat.le_refl _), Nat.sub_self]; rfl
  have h3 : (beg ++ x :: r).drop (beg.length + 1) = r := by rw [List.drop_append, List.drop_of_length_le (by omega), List.nil_append, Nat.add_sub_cancel_left]; rfl
  rw [Tre.get_eq, if_pos h1, h2]
  simp only [h3]
/-- What is in a branch begins so. -/
theorem Tre.get_some {beg : List UInt8} {kids : Nat → Tre} {r v : List UInt8} (h : (Tre.branch beg kids).get r = some v) : ∃ x r', r = beg ++ x :: r' ∧ (kids x.toNat).get r' = some v := by
  have h' := h
  rw [Tre.get_eq] at h'
  by_cases hp : beg <+: r
  · rw [if_pos hp] at h'
    obtain ⟨t, rfl⟩ := hp
    cases t with
    | nil => simp at h'
    | cons x t =>
      rw [List.getElem?_append_right (Nat.le_refl _), Nat.sub_self] at h'
      simp only [List.getElem?_cons_zero] at h'
      rw [List.drop_append, List.drop_of_length_le (by omega), List.nil_append, Nat.add_sub_cancel_left] at h'
      exact ⟨x, t, rfl, h'⟩
  · rw [if_neg hp] at h'; cases h'
/-- Whatever isn't nothing has something. -/
theorem Tre.has : ∀ (T : Tre) (L : Nat), T.wf L → T ≠ .no → ∃ r v, r.length = L ∧ nib16 r ∧ T.get r = some v := by
  intro T
  induction T with
  | no => intro L _ h; exact absurd rfl h
  | leaf beg v => intro L h _; exact ⟨beg, v, h.1, h.2, if_pos rfl⟩
  | branch beg kids ih =>
    rintro L ⟨h1, h2, h3, h4, i, j, hij, hi, hj⟩ _
    obtain ⟨r, v, hr, hn, hg⟩ := ih i _ (h3 i) hi
    have hi16 : i < 16 := Nat.lt_of_not_le fun h => hi (h4 i h)
    have hx : (i.toUInt8).toNat = i := by
      have : i.toUInt8.toNat = i % 256 := by simp [Nat.toUInt8]
      omega
    refine ⟨beg ++ i.toUInt8 :: r, v, by rw [List.length_append, List.length_cons]; omega, fun x hx2 => ?_, by rw [Tre.get_br, hx]; exact hg⟩
    rcases List.mem_append.1 hx2 with h | h
    · exact h2 x h
    · rcases List.mem_cons.1 h with rfl | h
      · omega
      · exact hn x h
theorem u8_of {i : Nat} (h : i < 16) : (i.toUInt8).toNat = i := by
  have : i.toUInt8.toNat = i % 256 := by simp [Nat.toUInt8]
  omega
/-- In a branch there are two that part behind its beginning. -/
theorem Tre.two {beg : List UInt8} {kids : Nat → Tre} {L : Nat} (h : (Tre.branch beg kids).wf L) : ∃ x y r s v u, x ≠ y ∧ (beg ++ x :: r).length = L ∧ (beg ++ y :: s).length = L ∧ nib16 (beg ++ x :: r) ∧ nib16 (beg ++ y :: s) ∧
    (Tre.branch beg kids).get (beg ++ x :: r) = some v ∧ (Tre.branch beg kids).get (beg ++ y :: s) = some u := by
  obtain ⟨h1, h2, h3, h4, i, j, hij, hi, hj⟩ := h
  obtain ⟨r, v, hr, hn, hg⟩ := (kids i).has _ (h3 i) hi
  obtain ⟨s, u, hs, hm, hk⟩ := (kids j).has _ (h3 j) hj
  have hi16 : i < 16 := Nat.lt_of_not_le fun h => hi (h4 i h)
  have hj16 : j < 16 := Nat.lt_of_not_le fun h => hj (h4 j h)
  have nb : ∀ (k : Nat) (t : List UInt8), k < 16 → nib16 t → nib16 (beg ++ k.toUInt8 :: t) := fun k t hk ht x hx => by
    rcases List.mem_append.1 hx with h | h
    · exact h2 x h
    · rcases List.mem_cons.1 h with rfl | h
      · rw [u8_of hk]; exact hk
      · exact ht x h
  refine ⟨i.toUInt8, j.toUInt8, r, s, v, u, fun e => hij ?_, by rw [List.length_append, List.length_cons]; omega, by rw [List.length_append, List.length_cons]; omega, nb i r hi16 hn, nb j s hj16 hm, by rw [Tre.get_br, u8_of hi16]; exact hg, by rw [Tre.get_br, u8_of hj16]; exact hk⟩
  have := congrArg UInt8.toNat e
  rw [u8_of hi16, u8_of hj16] at this; exact this
theorem app_split {a b : List UInt8} {x y p q : UInt8} {r s t u : List UInt8} (h1 : a ++ x :: r = b ++ p :: t) (h2 : a ++ y :: s = b ++ q :: u) (hxy : x ≠ y) : b.length ≤ a.length := by
  apply Nat.le_of_not_lt
  intro hlt
  have e1 : (a ++ x :: r)[a.length]? = some x := by rw [List.getElem?_append_right (Nat.le_refl _), Nat.sub_self]; rfl
  have e2 : (a ++ y :: s)[a.length]? = some y := by rw [List.getElem?_append_right (Nat.le_refl _), Nat.sub_self]; rfl
  rw [h1, List.getElem?_append_left hlt] at e1
  rw [h2, List.getElem?_append_left hlt, e1] at e2
  exact hxy (Option.some.inj e2)
/-- A trie is told by what it has. -/
theorem Tre.uniq : ∀ (T S : Tre) (L : Nat), T.wf L → S.wf L → (∀ r, r.length = L → nib16 r → T.get r = S.get r) → T = S := by
  intro T
  induction T with
  | no =>
    intro S L _ hS h
    by_cases hn : S = .no
    · exact hn.symm
    · obtain ⟨r, v, hr, hrn, hg⟩ := S.has L hS hn
      have := h r hr hrn
      rw [hg] at this; cases this
  | leaf beg v =>
    intro S L hT hS h
    have hv := h beg hT.1 hT.2
    have e0 : (Tre.leaf beg v).get beg = some v := if_pos rfl
    rw [e0] at hv
    cases S with
    | no => cases hv
    | leaf b2 v2 =>
      have hv : some v = if b2 = beg then some v2 else none := hv
      by_cases hb : b2 = beg
      · rw [if_pos hb] at hv; injection hv with hv; rw [hb, hv]
      · rw [if_neg hb] at hv; cases hv
    | branch b2 kids =>
      obtain ⟨x, y, r, s, v1, u1, hxy, l1, l2, n1, n2, g1, g2⟩ := Tre.two hS
      have a1 := h _ l1 n1
      have a2 := h _ l2 n2
      rw [g1] at a1; rw [g2] at a2
      have a1 : (if beg = b2 ++ x :: r then some v else none) = some v1 := a1
      have a2 : (if beg = b2 ++ y :: s then some v else none) = some u1 := a2
      by_cases e1 : beg = b2 ++ x :: r
      · by_cases e2 : beg = b2 ++ y :: s
        · have e3 := List.append_cancel_left (e1.symm.trans e2)
          injection e3 with e3; exact absurd e3 hxy
        · rw [if_neg e2] at a2; cases a2
      · rw [if_neg e1] at a1; cases a1
  | branch beg kids ih =>
    intro S L hT hS h
    obtain ⟨x, y, r, s, v1, u1, hxy, l1, l2, n1, n2, g1, g2⟩ := Tre.two hT
    have a1 := h _ l1 n1
    have a2 := h _ l2 n2
    rw [g1] at a1; rw [g2] at a2
    cases S with
    | no => cases a1
    | leaf b2 v2 =>
      have a1 : some v1 = if b2 = beg ++ x :: r then some v2 else none := a1
      have a2 : some u1 = if b2 = beg ++ y :: s then some v2 else none := a2
      by_cases e1 : b2 = beg ++ x :: r
      · by_cases e2 : b2 = beg ++ y :: s
        · have e3 := List.append_cancel_left (e1.symm.trans e2)
          injection e3 with e3; exact absurd e3 hxy
        · rw [if_neg e2] at a2; cases a2
      · rw [if_neg e1] at a1; cases a1
    | branch b2 k2 =>
      obtain ⟨p, t, e1, _⟩ := Tre.get_some a1.symm
      obtain ⟨q, u, e2, _⟩ := Tre.get_some a2.symm
      have le1 := app_split e1 e2 hxy
      obtain ⟨x', y', r', s', v1', u1', hxy', l1', l2', n1', n2', g1', g2'⟩ := Tre.two hS
      have b1 := h _ l1' n1'
      have b2_ := h _ l2' n2'
      rw [g1'] at b1; rw [g2'] at b2_
      obtain ⟨p', t', e1', _⟩ := Tre.get_some b1
      obtain ⟨q', u', e2', _⟩ := Tre.get_some b2_
      have le2 := app_split e1' e2' hxy'
      have hbeg : beg = b2 := List.append_inj_left e1 (by omega)
      subst hbeg
      have hk : kids = k2 := by
        funext i
        by_cases hi : 16 ≤ i
        · rw [hT.2.2.2.1 i hi, hS.2.2.2.1 i hi]
        · have hi16 : i < 16 := by omega
          refine ih i (k2 i) (L - beg.length - 1) (hT.2.2.1 i) (hS.2.2.1 i) fun z hz hzn => ?_
          have hlt := hT.1
          have := h (beg ++ i.toUInt8 :: z) (by rw [List.length_append, List.length_cons]; omega) (fun w hw => by
            rcases List.mem_append.1 hw with hw | hw
            · exact hT.2.1 w hw
            · rcases List.mem_cons.1 hw with rfl | hw
              · rw [u8_of hi16]; exact hi16
              · exact hzn w hw)
          rwa [Tre.get_br, Tre.get_br, u8_of hi16] at this
      rw [hk]
end Go.Proofs.YtpiidddccmohdabDoor.B
