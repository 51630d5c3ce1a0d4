/-
  Tries: putting and dropping.
-/
import Derived.Test.YtpiidddccmohdabDoorTre
namespace Go.Proofs.YtpiidddccmohdabDoor.B
open Go
set_option linter.unusedVariables false
set_option maxHeartbeats 2000000
set_option maxRecDepth 100000
attribute [local irreducible] W OpsW OpsQ retP
def begT : Tre → List UInt8
  | .no => []
  | .leaf b _ => b
  | .branch b _ => b
/-- The same node with another beginning. -/
def reB : Tre → List UInt8 → Tre
  | .no, _ => .no
  | .leaf _ v, b => .leaf b v
  | .branch _ k, b => .branch b k
theorem reB_beg {T : Tre} {b : List UInt8} (h : T ≠ .no) : begT (reB T b) = b := by cases T <;> first | exact absurd rfl h | rfl
theorem reB_self (T : Tre) : reB T (begT T) = T := by cases T <;> rfl
theorem reB_re (T : Tre) (a b : List UInt8) : reB (reB T a) b = reB T b := by cases T <;> rfl
theorem reB_no {T : Tre} {b : List UInt8} : reB T b = .no ↔ T = .no := by cases T <;> simp [reB]
theorem get_pre {T : Tre} {r v : List UInt8} (h : T.get r = some v) : begT T <+: r := by
  cases T with
  | no => cases h
  | leaf b u =>
    have h : (if b = r then some u else none) = some v := h
    by_cases e : b = r
    · rw [e]; exact List.prefix_refl _
    · rw [if_neg e] at h; cases h
  | branch b k =>
    obtain ⟨x, r', rfl, _⟩ := Tre.get_some h
    exact List.prefix_append _ _
theorem get_noPre {T : Tre} {r : List UInt8} (h : ¬ begT T <+: r) : T.get r = none := by
  cases hg : T.get r with
  | none => rfl
  | some v => exact absurd (get_pre hg) h
/-- What is ahead of the beginning may go. -/
theorem get_re (T : Tre) (q bs r : List UInt8) (h : begT T = q ++ bs) : (reB T bs).get r = T.get (q ++ r) := by
  cases T with
  | no => rfl
  | leaf b v =>
    have h : b = q ++ bs := h
    subst h
    show (if bs = r then some v else none) = (if q ++ bs = q ++ r then some v else none)
    by_cases e : bs = r
    · rw [if_pos e, if_pos (by rw [e])]
    · rw [if_neg e, if_neg (fun h => e (List.append_cancel_left h))]
  | branch b k =>
    have h : b = q ++ bs := h
    subst h
    show (Tre.branch bs k).get r = (Tre.branch (q ++ bs) k).get (q ++ r)
    rw [Tre.get_eq, Tre.get_eq]
    by_cases e : bs <+: r
    · have hd : (q ++ r).drop (q.length + bs.length + 1) = r.drop (bs.length + 1) := by
        rw [List.drop_append, List.drop_of_length_le (by omega), List.nil_append, show q.length + bs.length + 1 - q.length = bs.length + 1 by omega]
      rw [if_pos e, if_pos ((List.prefix_append_right_inj q).2 e), List.getElem?_append_right (by rw [List.length_append]; omega), List.length_append, Nat.add_sub_cancel_left, hd]
    · rw [if_neg e, if_neg (fun h => e ((List.prefix_append_right_inj q).1 h))]
theorem wf_re {T : Tre} {L : Nat} {q bs : List UInt8} (h : T.wf L) (hb : begT T = q ++ bs) : (reB T bs).wf (L - q.length) := by
  cases T with
  | no => trivial
  | leaf b v =>
    have hb : b = q ++ bs := hb
    subst hb
    obtain ⟨h1, h2⟩ := h
    exact ⟨by rw [List.length_append] at h1; omega, fun x hx => h2 x (List.mem_append.2 (.inr hx))⟩
  | branch b k =>
    have hb : b = q ++ bs := hb
    subst hb
    obtain ⟨h1, h2, h3, h4, h5⟩ := h
    rw [List.length_append] at h1 h3
    exact ⟨by omega, fun x hx => h2 x (List.mem_append.2 (.inr hx)), fun i => by rw [show L - q.length - bs.length - 1 = L - (q.length + bs.length) - 1 by omega]; exact h3 i, h4, h5⟩
theorem wf_up {T : Tre} {L : Nat} {q : List UInt8} (h : T.wf (L - q.length)) (hq : q.length ≤ L) (hn : nib16 q) : (reB T (q ++ begT T)).wf L := by
  have nb : ∀ b, nib16 b → nib16 (q ++ b) := fun b hb x hx => by
    rcases List.mem_append.1 hx with h | h
    · exact hn x h
    · exact hb x h
  cases T with
  | no => trivial
  | leaf b v => exact ⟨by show (q ++ b).length = L; rw [List.length_append, h.1]; omega, nb _ h.2⟩
  | branch b k =>
    obtain ⟨h1, h2, h3, h4, h5⟩ := h
    exact ⟨by show (q ++ b).length < L; rw [List.length_append]; omega, nb _ h2, fun i => by show (k i).wf (L - (q ++ b).length - 1); rw [List.length_append, show L - (q.length + b.length) - 1 = L - q.length - b.length - 1 by omega]; exact h3 i, h4, h5⟩
theorem get_up {T : Tre} {q r : List UInt8} : (reB T (q ++ begT T)).get (q ++ r) = T.get r := by
  by_cases h : T = .no
  · subst h; rfl
  · have h1 := get_re (reB T (q ++ begT T)) q (begT T) r (reB_beg h)
    rw [reB_re, reB_self] at h1; exact h1.symm
/-! ### Put -/
def splitT (T : Tre) (rest val : List UInt8) (k : Nat) : Tre :=
  .branch (rest.take k) fun i => if i = (rest.getD k 0).toNat then .leaf (rest.drop (k + 1)) val else if i = ((begT T).getD k 0).toNat then reB T ((begT T).drop (k + 1)) else .no
def putT : Tre → List UInt8 → List UInt8 → Tre
  | .no, rest, val => .leaf rest val
  | .leaf beg v, rest, val => if comm beg rest < beg.length then splitT (.leaf beg v) rest val (comm beg rest) else .leaf rest val
  | .branch beg kids, rest, val => if comm beg rest < beg.length then splitT (.branch beg kids) rest val (comm beg rest)
      else .branch beg fun i => if i = (rest.getD beg.length 0).toNat then putT (kids i) (rest.drop (beg.length + 1)) val else kids i
theorem splits {beg rest : List UInt8} (h : comm beg rest < beg.length) (h2 : beg.length ≤ rest.length) : ∃ p x y bs rs, beg = p ++ x :: bs ∧ rest = p ++ y :: rs ∧ x ≠ y ∧ p.length = comm beg rest := by
  obtain ⟨k, hk⟩ : ∃ k, k = comm beg rest := ⟨_, rfl⟩
  have ht := comm_take beg rest
  have hne := comm_ne beg rest
  rw [← hk] at h ht hne ⊢
  have hx : beg[k]? = some beg[k] := List.getElem?_eq_getElem h
  have hy : rest[k]? = some (rest[k]'(by omega)) := List.getElem?_eq_getElem (by omega)
  refine ⟨beg.take k, beg[k], rest[k]'(by omega), beg.drop (k + 1), rest.drop (k + 1), ?_, ?_, hne _ _ hx hy, by rw [List.length_take]; omega⟩
  · rw [← List.drop_eq_getElem_cons h, List.take_append_drop]
  · rw [ht, ← List.drop_eq_getElem_cons (by omega), List.take_append_drop]
theorem getD_mid {p : List UInt8} {x : UInt8} {bs : List UInt8} : (p ++ x :: bs).getD p.length 0 = x := by
  rw [List.getD_eq_getElem?_getD, List.getElem?_append_right (Nat.le_refl _), Nat.sub_self]; rfl
theorem drop_mid {p : List UInt8} {x : UInt8} {bs : List UInt8} : (p ++ x :: bs).drop (p.length + 1) = bs := by
  rw [List.drop_append, List.drop_of_length_le (by omega), List.nil_append, Nat.add_sub_cancel_left]; rfl
theorem splitT_eq {T : Tre} {p : List UInt8} {x y : UInt8} {bs rs val : List UInt8} (hb : begT T = p ++ x :: bs) :
    splitT T (p ++ y :: rs) val p.length = .branch p fun i => if i = y.toNat then .leaf rs val else if i = x.toNat then reB T bs else .no := by
  unfold splitT
  rw [getD_mid, drop_mid, hb, getD_mid, drop_mid, List.take_append, List.take_of_length_le (Nat.le_refl _), Nat.sub_self, List.take_zero, List.append_nil]
theorem splitT_wf {T : Tre} {L : Nat} {p : List UInt8} {x y : UInt8} {bs rs val : List UInt8} (h : T.wf L) (hT : T ≠ .no) (hb : begT T = p ++ x :: bs) (hx : x ≠ y) (hx16 : x.toNat < 16) (hn : nib16 (p ++ y :: rs)) (hl : (p ++ y :: rs).length = L) :
    (splitT T (p ++ y :: rs) val p.length).wf L := by
  rw [splitT_eq hb]
  rw [List.length_append, List.length_cons] at hl
  have hne : x.toNat ≠ y.toNat := fun e => hx (UInt8.toNat_inj.1 e)
  have hy16 : y.toNat < 16 := hn y (List.mem_append.2 (.inr (List.mem_cons_self ..)))
  have hre : (reB T bs).wf (L - p.length - 1) := by
    have h1 := wf_re (q := p ++ [x]) (bs := bs) h (by rw [hb, List.append_assoc]; rfl)
    rw [List.length_append] at h1
    rw [show L - p.length - 1 = L - (p.length + [x].length) by simp; omega]; exact h1
  refine ⟨by omega, fun z hz => hn z (List.mem_append.2 (.inl hz)), fun i => ?_, fun i hi => ?_, y.toNat, x.toNat, fun e => hne e.symm, ?_, ?_⟩
  · show Tre.wf (if i = y.toNat then _ else if i = x.toNat then _ else _) _
    split
    · exact ⟨by omega, fun z hz => hn z (List.mem_append.2 (.inr (List.mem_cons_of_mem _ hz)))⟩
    · split
      · exact hre
      · trivial
  · show (if i = y.toNat then _ else if i = x.toNat then _ else _) = _
    rw [if_neg (by omega), if_neg (by omega)]
  · show (if y.toNat = y.toNat then _ else _) ≠ _
    rw [if_pos rfl]; exact fun h => by cases h
  · show (if x.toNat = y.toNat then _ else if x.toNat = x.toNat then _ else _) ≠ _
    rw [if_neg hne, if_pos rfl]; exact fun h => hT (reB_no.1 h)
theorem splitT_get {T : Tre} {p : List UInt8} {x y : UInt8} {bs rs val r : List UInt8} (hb : begT T = p ++ x :: bs) (hx : x ≠ y) (hr : r.length = (p ++ y :: rs).length) :
    (splitT T (p ++ y :: rs) val p.length).get r = if r = p ++ y :: rs then some val else T.get r := by
  rw [splitT_eq hb]
  by_cases hp : p <+: r
  · obtain ⟨t, rfl⟩ := hp
    cases t with
    | nil => simp at hr
    | cons z t =>
      rw [Tre.get_br]
      by_cases hz : z = y
      · subst hz
        rw [if_pos rfl]
        have hT : T.get (p ++ z :: t) = none := get_noPre (by
          rw [hb]; intro h
          obtain ⟨s, hs⟩ := h
          rw [List.append_assoc] at hs
          have := List.append_cancel_left hs
          injection this with this; exact hx this)
        rw [hT]
        show (if rs = t then some val else none) = _
        by_cases e : rs = t
        · rw [if_pos e, if_pos (by rw [e])]
        · rw [if_neg e, if_neg (fun h => e (by have := List.append_cancel_left h; injection this with _ this; exact this.symm))]
      · rw [if_neg (fun h => hz (UInt8.toNat_inj.1 h)), if_neg (show ¬ p ++ z :: t = p ++ y :: rs from fun h => hz (by have := List.append_cancel_left h; injection this))]
        by_cases hzx : z = x
        · subst hzx
          rw [if_pos rfl, get_re T (p ++ [z]) bs t (by rw [hb, List.append_assoc]; rfl), List.append_assoc]; rfl
        · rw [if_neg (fun h => hzx (UInt8.toNat_inj.1 h))]
          symm; apply get_noPre
          rw [hb]; intro h
          obtain ⟨s, hs⟩ := h
          rw [List.append_assoc] at hs
          have := List.append_cancel_left hs
          injection this with this; exact hzx this.symm
  · rw [get_noPre (show ¬ begT (Tre.branch p _) <+: r from hp), if_neg (fun h => hp (by rw [h]; exact List.prefix_append _ _)), get_noPre]
    rw [hb]; exact fun h => hp (List.IsPrefix.trans (List.prefix_append _ _) h)
theorem begT_le {T : Tre} {L : Nat} (h : T.wf L) : (begT T).length ≤ L ∧ nib16 (begT T) := by
  cases T with
  | no => exact ⟨Nat.zero_le _, fun x hx => by cases hx⟩
  | leaf b v => exact ⟨Nat.le_of_eq h.1, h.2⟩
  | branch b k => exact ⟨Nat.le_of_lt h.1, h.2.1⟩
theorem putT_ne (T : Tre) (rest val : List UInt8) : putT T rest val ≠ .no := by
  cases T with
  | no => rw [putT]; exact fun h => by cases h
  | leaf b v => rw [putT]; split <;> (intro h; cases h)
  | branch b k => rw [putT]; split <;> (intro h; cases h)
theorem putT_all : ∀ (T : Tre) (L : Nat) (rest val : List UInt8), T.wf L → rest.length = L → nib16 rest →
    (putT T rest val).wf L ∧ ∀ r, r.length = L → (putT T rest val).get r = if r = rest then some val else T.get r := by
  intro T
  induction T with
  | no =>
    intro L rest val _ hl hn
    rw [putT]
    refine ⟨⟨hl, hn⟩, fun r _ => ?_⟩
    show (if rest = r then some val else none) = (if r = rest then some val else none)
    by_cases e : r = rest
    · rw [if_pos e, if_pos e.symm]
    · rw [if_neg e, if_neg (fun h => e h.symm)]
  | leaf beg v =>
    intro L rest val h hl hn
    rw [putT]
    by_cases hk : comm beg rest < beg.length
    · rw [if_pos hk]
      obtain ⟨p, x, y, bs, rs, e1, e2, hxy, hp⟩ := splits hk (by have := h.1; omega)
      rw [← hp]
      subst e2
      have hb : begT (.leaf beg v) = p ++ x :: bs := e1
      exact ⟨splitT_wf h (fun h => by cases h) hb hxy (h.2 x (by rw [e1]; exact List.mem_append.2 (.inr (List.mem_cons_self ..)))) hn hl, fun r hr => splitT_get hb hxy (by omega)⟩
    · rw [if_neg hk]
      have hle := (comm_le beg rest).1
      have hpre := comm_full (l := beg) (r := rest) (by omega)
      have hbr : beg = rest := hpre.eq_of_length (by have := h.1; omega)
      refine ⟨⟨hl, hn⟩, fun r _ => ?_⟩
      subst hbr
      show (if beg = r then some val else none) = (if r = beg then some val else if beg = r then some v else none)
      by_cases e : r = beg
      · rw [if_pos e, if_pos e.symm]
      · rw [if_neg e, if_neg (fun h => e h.symm), if_neg (fun h => e h.symm)]
  | branch beg kids ih =>
    intro L rest val h hl hn
    rw [putT]
    have hbl := h.1
    by_cases hk : comm beg rest < beg.length
    · rw [if_pos hk]
      obtain ⟨p, x, y, bs, rs, e1, e2, hxy, hp⟩ := splits hk (by omega)
      rw [← hp]
      subst e2
      have hb : begT (.branch beg kids) = p ++ x :: bs := e1
      exact ⟨splitT_wf h (fun h => by cases h) hb hxy (h.2.1 x (by rw [e1]; exact List.mem_append.2 (.inr (List.mem_cons_self ..)))) hn hl, fun r hr => splitT_get hb hxy (by omega)⟩
    · rw [if_neg hk]
      have hle := (comm_le beg rest).1
      obtain ⟨t, ht⟩ := comm_full (l := beg) (r := rest) (by omega)
      cases t with
      | nil => rw [List.append_nil] at ht; rw [ht] at hbl; omega
      | cons y rs =>
        subst ht
        rw [getD_mid, drop_mid]
        rw [List.length_append, List.length_cons] at hl
        have hy16 : y.toNat < 16 := hn y (List.mem_append.2 (.inr (List.mem_cons_self ..)))
        obtain ⟨w1, w2⟩ := ih y.toNat (L - beg.length - 1) rs val (h.2.2.1 _) (by omega) (fun z hz => hn z (List.mem_append.2 (.inr (List.mem_cons_of_mem _ hz))))
        obtain ⟨i, j, hij, hi, hj⟩ := h.2.2.2.2
        have hne : ∀ m, kids m ≠ .no → (if m = y.toNat then putT (kids m) rs val else kids m) ≠ .no := fun m hm => by
          split
          · exact putT_ne _ _ _
          · exact hm
        refine ⟨⟨h.1, h.2.1, fun m => ?_, fun m hm => ?_, i, j, hij, hne i hi, hne j hj⟩, fun r hr => ?_⟩
        · show Tre.wf (if m = y.toNat then _ else _) _
          split
          · rename_i e; subst e; exact w1
          · exact h.2.2.1 m
        · show (if m = y.toNat then _ else _) = _
          rw [if_neg (by omega)]; exact h.2.2.2.1 m hm
        · by_cases hp : beg <+: r
          · obtain ⟨s, rfl⟩ := hp
            cases s with
            | nil => rw [List.append_nil] at hr; omega
            | cons z s =>
              rw [List.length_append, List.length_cons] at hr
              rw [Tre.get_br, Tre.get_br]
              by_cases hz : z = y
              · subst hz
                rw [if_pos rfl, w2 s (by omega)]
                by_cases e : s = rs
                · rw [if_pos e, if_pos (by rw [e])]
                · rw [if_neg e, if_neg (fun h => e (by have := List.append_cancel_left h; injection this))]
              · rw [if_neg (fun h => hz (UInt8.toNat_inj.1 h)), if_neg (fun h => hz (by have := List.append_cancel_left h; injection this))]
          · rw [get_noPre (show ¬ begT (Tre.branch beg _) <+: r from hp), if_neg (fun h => hp (by rw [h]; exact List.prefix_append _ _)), get_noPre (show ¬ begT (Tre.branch beg kids) <+: r from hp)]
/-! ### Drop -/
def ones (K : Nat → Tre) : List Nat := (List.range 16).filter fun i => !(K i).isNo
def wholeT (beg : List UInt8) (K : Nat → Tre) : Tre := match ones K with
  | [i] => reB (K i) ((beg ++ [i.toUInt8]) ++ begT (K i))
  | _ => .branch beg K
def dropT : Tre → List UInt8 → Tre
  | .no, _ => .no
  | .leaf _ _, _ => .no
  | .branch beg kids, rest => wholeT beg fun i => if i = (rest.getD beg.length 0).toNat then dropT (kids i) (rest.drop (beg.length + 1)) else kids i
theorem mem_ones {K : Nat → Tre} {i : Nat} : i ∈ ones K ↔ i < 16 ∧ K i ≠ .no := by
  unfold ones; rw [List.mem_filter, List.mem_range]
  constructor
  · rintro ⟨h1, h2⟩; exact ⟨h1, Tre.notNo.1 (by simpa using h2)⟩
  · rintro ⟨h1, h2⟩; exact ⟨h1, by rw [Tre.notNo.2 h2]; rfl⟩
theorem wholeT_all {beg : List UInt8} {K : Nat → Tre} {L : Nat} (hb : beg.length < L) (hn : nib16 beg) (hK : ∀ i, (K i).wf (L - beg.length - 1)) (h16 : ∀ i, 16 ≤ i → K i = .no) (h1 : ∃ i, K i ≠ .no) :
    (wholeT beg K).wf L ∧ ∀ r, (wholeT beg K).get r = (Tre.branch beg K).get r := by
  obtain ⟨i0, hi0⟩ := h1
  have hi016 : i0 < 16 := Nat.lt_of_not_le fun h => hi0 (h16 i0 h)
  have hm0 := mem_ones.2 ⟨hi016, hi0⟩
  have hnd : (ones K).Nodup := List.Nodup.sublist List.filter_sublist List.nodup_range
  unfold wholeT
  split
  · rename_i i hi
    have hii : i < 16 ∧ K i ≠ .no := mem_ones.1 (by rw [hi]; exact List.mem_singleton.2 rfl)
    have honly : ∀ j, K j ≠ .no → j = i := fun j hj => by
      have := mem_ones.2 ⟨Nat.lt_of_not_le fun h => hj (h16 j h), hj⟩
      rw [hi] at this; exact List.mem_singleton.1 this
    have hql : (beg ++ [i.toUInt8]).length = beg.length + 1 := by rw [List.length_append]; rfl
    refine ⟨wf_up (by rw [hql, show L - (beg.length + 1) = L - beg.length - 1 by omega]; exact hK i) (by rw [hql]; omega) (fun x hx => ?_), fun r => ?_⟩
    · rcases List.mem_append.1 hx with h | h
      · exact hn x h
      · obtain rfl := List.mem_singleton.1 h; rw [u8_of hii.1]; exact hii.1
    · by_cases hp : beg <+: r
      · obtain ⟨s, rfl⟩ := hp
        cases s with
        | nil =>
          rw [Tre.get_eq, List.append_nil, if_pos (List.prefix_refl _), List.getElem?_eq_none (Nat.le_refl _)]
          apply get_noPre
          rw [reB_beg hii.2]; intro h
          have := h.length_le
          rw [List.length_append, hql] at this; omega
        | cons z s =>
          rw [Tre.get_br]
          by_cases hz : z = i.toUInt8
          · subst hz
            rw [u8_of hii.1, show beg ++ i.toUInt8 :: s = (beg ++ [i.toUInt8]) ++ s by rw [List.append_assoc]; rfl, get_up]
          · have hzi : K z.toNat = .no := Classical.byContradiction fun h => hz (by
              have := honly _ h
              apply UInt8.toNat_inj.1; rw [u8_of hii.1]; exact this)
            rw [hzi]
            apply get_noPre
            rw [reB_beg hii.2]; intro h
            obtain ⟨t, ht⟩ := h
            rw [List.append_assoc, List.append_assoc] at ht
            have := List.append_cancel_left ht
            injection this with this; exact hz this.symm
      · rw [get_noPre (show ¬ begT (Tre.branch beg K) <+: r from hp)]
        apply get_noPre
        rw [reB_beg hii.2]; exact fun h => hp (List.IsPrefix.trans (by rw [List.append_assoc]; exact List.prefix_append _ _) h)
  · rename_i hne
    refine ⟨⟨hb, hn, hK, h16, ?_⟩, fun r => rfl⟩
    match hl : ones K with
    | [] => rw [hl] at hm0; cases hm0
    | [i] => exact absurd hl (hne i)
    | i :: j :: l =>
      rw [hl] at hnd
      refine ⟨i, j, fun e => ?_, (mem_ones.1 (by rw [hl]; exact List.mem_cons_self ..)).2, (mem_ones.1 (by rw [hl]; exact List.mem_cons_of_mem _ (List.mem_cons_self ..))).2⟩
      subst e
      exact (List.nodup_cons.1 hnd).1 (List.mem_cons_self ..)
theorem dropT_all : ∀ (T : Tre) (L : Nat) (rest v : List UInt8), T.wf L → rest.length = L → T.get rest = some v →
    (dropT T rest).wf L ∧ ∀ r, r.length = L → (dropT T rest).get r = if r = rest then none else T.get r := by
  intro T
  induction T with
  | no => intro L rest v _ _ h; cases h
  | leaf beg u =>
    intro L rest v h hl hg
    have hbr : beg = rest := (get_pre hg).eq_of_length (by have := h.1; show beg.length = rest.length; omega)
    refine ⟨trivial, fun r hr => ?_⟩
    show none = (if r = rest then none else if beg = r then some u else none)
    by_cases e : r = rest
    · rw [if_pos e]
    · rw [if_neg e, if_neg (fun h => e (by rw [← h, hbr]))]
  | branch beg kids ih =>
    intro L rest v h hl hg
    obtain ⟨y, rs, rfl, hg2⟩ := Tre.get_some hg
    rw [dropT, getD_mid, drop_mid]
    rw [List.length_append, List.length_cons] at hl
    have hbl := h.1
    obtain ⟨w1, w2⟩ := ih y.toNat (L - beg.length - 1) rs v (h.2.2.1 _) (by omega) hg2
    obtain ⟨i, j, hij, hi, hj⟩ := h.2.2.2.2
    have hy16 : y.toNat < 16 := Nat.lt_of_not_le fun hh => by rw [h.2.2.2.1 _ hh] at hg2; cases hg2
    obtain ⟨a1, a2⟩ := wholeT_all (beg := beg) (K := fun m => if m = y.toNat then dropT (kids m) rs else kids m) (L := L) h.1 h.2.1 (fun m => by
      show Tre.wf (if m = y.toNat then _ else _) _
      split
      · rename_i e; subst e; exact w1
      · exact h.2.2.1 m) (fun m hm => by
      show (if m = y.toNat then _ else _) = _
      rw [if_neg (by omega)]; exact h.2.2.2.1 m hm) (by
      by_cases e : i = y.toNat
      · exact ⟨j, by show (if j = y.toNat then _ else _) ≠ _; rw [if_neg (by omega)]; exact hj⟩
      · exact ⟨i, by show (if i = y.toNat then _ else _) ≠ _; rw [if_neg e]; exact hi⟩)
    refine ⟨a1, fun r hr => ?_⟩
    rw [a2]
    by_cases hp : beg <+: r
    · obtain ⟨s, rfl⟩ := hp
      cases s with
      | nil => rw [List.append_nil] at hr; omega
      | cons z s =>
        rw [List.length_append, List.length_cons] at hr
        rw [Tre.get_br, Tre.get_br]
        by_cases hz : z = y
        · subst hz
          rw [if_pos rfl, w2 s (by omega)]
          by_cases e : s = rs
          · rw [if_pos e, if_pos (by rw [e])]
          · rw [if_neg e, if_neg (fun h => e (by have := List.append_cancel_left h; injection this))]
        · rw [if_neg (fun h => hz (UInt8.toNat_inj.1 h)), if_neg (fun h => hz (by have := List.append_cancel_left h; injection this))]
    · rw [get_noPre (show ¬ begT (Tre.branch beg _) <+: r from hp), if_neg (fun h => hp (by rw [h]; exact List.prefix_append _ _)), get_noPre (show ¬ begT (Tre.branch beg kids) <+: r from hp)]
end Go.Proofs.YtpiidddccmohdabDoor.B
