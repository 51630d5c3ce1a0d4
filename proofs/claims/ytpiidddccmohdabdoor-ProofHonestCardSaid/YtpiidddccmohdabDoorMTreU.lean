/-
  Texts merged (mtpl.py): TreU1 TreU2 TreU3 TreU4 TreU5.
-/
import Derived.Test.YtpiidddccmohdabDoorTreK2
import Derived.Test.YtpiidddccmohdabDoorNib8
import Derived.Test.YtpiidddccmohdabDoorTreP
import Derived.Test.YtpiidddccmohdabDoorTreTw
/-! Tries: the items of a node, whose keys begin alike. -/
namespace Go.Proofs.YtpiidddccmohdabDoor.B
open Go
set_option linter.unusedVariables false
set_option maxHeartbeats 2000000
set_option maxRecDepth 100000
attribute [local irreducible] W OpsW OpsQ retP
/-- All keys from a place on have the same nibbles up to another one, and part there. -/
def ShP (l : List It) (a to : Nat) : Prop := a ≤ to ∧ to ≤ 64 ∧ (∀ i, a ≤ i → i < to → ∀ x ∈ l, ∀ y ∈ l, (nibs x.1.val)[i]? = (nibs y.1.val)[i]?) ∧ (to < 64 → ∃ x ∈ l, ∃ y ∈ l, (nibs x.1.val)[to]? ≠ (nibs y.1.val)[to]?)
def partI (l : List It) (at_ : Nat) (n : UInt8) : List It := l.filter fun x => (nibs x.1.val)[at_]? = some n
/-- A trie has just the items, behind a beginning. -/
structure AtI (a : List UInt8) (T : Tre) (l : List It) : Prop where
  wf : T.wf (64 - a.length)
  la : a.length ≤ 64
  nd : (l.map (·.1)).Nodup
  fw : ∀ x ∈ l, ∃ r, nibs x.1.val = a ++ r ∧ T.get r = some x.2
  bw : ∀ r v, r.length = 64 - a.length → nib16 r → T.get r = some v → ∃ x ∈ l, nibs x.1.val = a ++ r
theorem look_nodup : ∀ {l : List It} {x : It}, (l.map (·.1)).Nodup → x ∈ l → lookI l x.1 = some x.2
  | y :: l, x, hn, hx => by
    obtain ⟨h1, h2⟩ := List.nodup_cons.1 (show (y.1 :: l.map (·.1)).Nodup from hn)
    unfold lookI
    rcases List.mem_cons.1 hx with rfl | hx
    · exact if_pos rfl
    · rw [if_neg (fun e => h1 (by rw [e]; exact List.mem_map.2 ⟨x, hx, rfl⟩))]
      exact look_nodup h2 hx
theorem Agree.atI {T : Tre} {l : List It} (h : Agree T l) (hw : T.wf 64) (hn : (l.map (·.1)).Nodup) : AtI [] T l := by
  refine ⟨hw, Nat.zero_le _, hn, fun x hx => ⟨nibs x.1.val, rfl, by rw [h x.1]; exact look_nodup hn hx⟩, fun r v hr h16 hg => ?_⟩
  have hr : r.length = 64 := hr
  obtain ⟨d, hd, rfl⟩ := nibs_surj 32 r (by omega) h16
  have h1 := h ⟨d, hd⟩
  rw [hg] at h1
  exact ⟨_, look_mem h1.symm, rfl⟩
theorem AtI.no {a : List UInt8} {l : List It} (h : AtI a .no l) : l = [] := by
  cases l with
  | nil => rfl
  | cons x l =>
    obtain ⟨r, _, h2⟩ := h.fw x (List.mem_cons_self ..)
    cases h2
theorem AtI.some_ {a : List UInt8} {T : Tre} {l : List It} (h : AtI a T l) (hT : T ≠ .no) : l ≠ [] := by
  obtain ⟨r, v, h1, h2, h3⟩ := T.has _ h.wf hT
  obtain ⟨x, hx, _⟩ := h.bw r v h1 h2 h3
  exact fun e => by rw [e] at hx; cases hx
theorem nd_one {l : List It} {x : It} (hn : (l.map (·.1)).Nodup) (hx : x ∈ l) (h : ∀ y ∈ l, y.1 = x.1) : l = [x] := by
  match l with
  | [] => cases hx
  | [y] => rw [List.mem_singleton.1 hx]
  | y :: z :: l =>
    obtain ⟨h1, _⟩ := List.nodup_cons.1 (show (y.1 :: z.1 :: l.map (·.1)).Nodup from hn)
    refine absurd ?_ h1
    rw [h y (List.mem_cons_self ..), h z (List.mem_cons_of_mem _ (List.mem_cons_self ..))]
    exact List.mem_cons_self ..
theorem AtI.leaf {a b v : List UInt8} {l : List It} (h : AtI a (.leaf b v) l) : ∃ x, l = [x] ∧ nibs x.1.val = a ++ b ∧ x.2 = v := by
  obtain ⟨x, hx, he⟩ := h.bw b v h.wf.1 h.wf.2 (if_pos rfl)
  have hall : ∀ y ∈ l, nibs y.1.val = a ++ b ∧ y.2 = v := fun y hy => by
    obtain ⟨r, h1, h2⟩ := h.fw y hy
    have h2 : (if b = r then some v else none) = some y.2 := h2
    by_cases e : b = r
    · rw [if_pos e] at h2; injection h2 with h2
      exact ⟨by rw [h1, e], h2.symm⟩
    · rw [if_neg e] at h2; cases h2
  exact ⟨x, nd_one h.nd hx fun y hy => Subtype.ext (nibs_inj (by rw [(hall y hy).1, he])), hall x hx⟩
theorem at_mid {a b r : List UInt8} {x : UInt8} : (a ++ (b ++ x :: r))[a.length + b.length]? = some x := by
  rw [← List.append_assoc, List.getElem?_append_right (by rw [List.length_append]; exact Nat.le_refl _), List.length_append, Nat.sub_self]; rfl
theorem at_ahead {a b r : List UInt8} {i : Nat} (hi : i < a.length + b.length) : (a ++ (b ++ r))[i]? = (a ++ b)[i]? := by
  rw [← List.append_assoc, List.getElem?_append_left (by rw [List.length_append]; exact hi)]
theorem AtI.mem {a b : List UInt8} {k : Nat → Tre} {l : List It} (h : AtI a (.branch b k) l) {x : It} (hx : x ∈ l) : ∃ y r, nibs x.1.val = a ++ (b ++ y :: r) ∧ (k y.toNat).get r = some x.2 := by
  obtain ⟨r, h1, h2⟩ := h.fw x hx
  obtain ⟨y, r', rfl, h3⟩ := Tre.get_some h2
  exact ⟨y, r', h1, h3⟩
theorem AtI.parts {a b : List UInt8} {k : Nat → Tre} {l : List It} (h : AtI a (.branch b k) l) : ∃ x ∈ l, ∃ y ∈ l, (nibs x.1.val)[a.length + b.length]? ≠ (nibs y.1.val)[a.length + b.length]? := by
  obtain ⟨x, y, r, s, v, u, hxy, h1, h2, h3, h4, h5, h6⟩ := Tre.two h.wf
  obtain ⟨p, hp, e1⟩ := h.bw _ _ h1 h3 h5
  obtain ⟨q, hq, e2⟩ := h.bw _ _ h2 h4 h6
  refine ⟨p, hp, q, hq, ?_⟩
  rw [e1, e2, at_mid, at_mid]
  exact fun e => hxy (Option.some.inj e)
theorem AtI.two {a b : List UInt8} {k : Nat → Tre} {l : List It} (h : AtI a (.branch b k) l) : 2 ≤ l.length := by
  obtain ⟨x, hx, y, hy, hne⟩ := h.parts
  match l with
  | [] => cases hx
  | [z] => rw [List.mem_singleton.1 hx, List.mem_singleton.1 hy] at hne; exact absurd rfl hne
  | _ :: _ :: l => show 2 ≤ l.length + 1 + 1; omega
theorem AtI.shared {a b : List UInt8} {k : Nat → Tre} {l : List It} (h : AtI a (.branch b k) l) {to : Nat} (hs : ShP l a.length to) : to = a.length + b.length := by
  obtain ⟨h1, h2, h3, h4⟩ := hs
  have hbl := h.wf.1
  have hla := h.la
  rcases Nat.lt_trichotomy to (a.length + b.length) with hlt | he | hgt
  · obtain ⟨x, hx, y, hy, hne⟩ := h4 (by omega)
    obtain ⟨p, r, e1, _⟩ := h.mem hx
    obtain ⟨q, s, e2, _⟩ := h.mem hy
    rw [e1, e2, at_ahead hlt, at_ahead hlt] at hne
    exact absurd rfl hne
  · exact he
  · obtain ⟨x, hx, y, hy, hne⟩ := h.parts
    exact absurd (h3 _ (by omega) hgt x hx y hy) hne
theorem AtI.kid {a b : List UInt8} {k : Nat → Tre} {l : List It} (h : AtI a (.branch b k) l) (n : UInt8) : AtI ((a ++ b) ++ [n]) (k n.toNat) (partI l (a.length + b.length) n) := by
  have hbl := h.wf.1
  have hla := h.la
  have hlen : ((a ++ b) ++ [n]).length = a.length + b.length + 1 := by rw [List.length_append, List.length_append]; rfl
  have he : 64 - ((a ++ b) ++ [n]).length = 64 - a.length - b.length - 1 := by omega
  refine ⟨by rw [he]; exact h.wf.2.2.1 _, by omega, List.Nodup.sublist (List.Sublist.map _ List.filter_sublist) h.nd, fun x hx => ?_, fun r v hr h16 hg => ?_⟩
  · unfold partI at hx
    obtain ⟨hx, hn⟩ := List.mem_filter.1 hx
    obtain ⟨y, r, e1, e2⟩ := h.mem hx
    have hn : (nibs x.1.val)[a.length + b.length]? = some n := by simpa using hn
    rw [e1, at_mid] at hn
    obtain rfl := Option.some.inj hn
    exact ⟨r, by rw [e1]; simp, e2⟩
  · have hn16 : n.toNat < 16 := Nat.lt_of_not_le fun hh => by rw [h.wf.2.2.2.1 _ hh] at hg; cases hg
    obtain ⟨x, hx, e⟩ := h.bw (b ++ n :: r) v (by rw [List.length_append, List.length_cons]; omega) (fun z hz => by
      rcases List.mem_append.1 hz with hz | hz
      · exact h.wf.2.1 z hz
      · rcases List.mem_cons.1 hz with rfl | hz
        · exact hn16
        · exact h16 z hz) (by rw [Tre.get_br]; exact hg)
    refine ⟨x, List.mem_filter.2 ⟨hx, ?_⟩, by rw [e]; simp⟩
    rw [e, at_mid]; simp
/-- The nibbles of a node's keys. -/
theorem AtI.beg {a : List UInt8} {T : Tre} {l : List It} (h : AtI a T l) {x : It} (hx : x ∈ l) : ((nibs x.1.val).drop a.length).take (begT T).length = begT T := by
  obtain ⟨r, h1, h2⟩ := h.fw x hx
  obtain ⟨t, ht⟩ := get_pre h2
  rw [h1, List.drop_left' rfl, ← ht, List.take_left' rfl]
theorem partI_len (l : List It) (at_ : Nat) (n : UInt8) : (partI l at_ n).length ≤ l.length := List.length_filter_le _ _
end Go.Proofs.YtpiidddccmohdabDoor.B
/-! The document's tries: rest, Shared, part. -/
namespace Go.Proofs.YtpiidddccmohdabDoor.B
open Go
set_option linter.unusedVariables false
set_option maxHeartbeats 2000000
set_option maxRecDepth 100000
attribute [local irreducible] W OpsW OpsQ retP
theorem nib_at (k : Dig) {i : Nat} (h : i < 64) : ∃ x, (nibs k.val)[i]? = some x := ⟨_, List.getElem?_eq_getElem (by rw [nibs_len, k.2]; omega)⟩
theorem partI_s {l : List It} {k : Nat} {y : It} (hy : l[k]? = some y) (at_ : Nat) (n : UInt8) : partI (l.take (k + 1)) at_ n = partI (l.take k) at_ n ++ if (nibs y.1.val)[at_]? = some n then [y] else [] := by
  obtain ⟨h1, h2⟩ := List.getElem?_eq_some_iff.1 hy
  rw [List.take_succ_eq_append_getElem h1, h2]
  unfold partI
  rw [List.filter_append, List.filter_cons]
  by_cases e : (nibs y.1.val)[at_]? = some n
  · rw [if_pos e, if_pos (by simpa using e)]; rfl
  · rw [if_neg e, if_neg (by simpa using e)]; rfl
end Go.Proofs.YtpiidddccmohdabDoor.B
/-! The document's tries: a node's bytes. -/
namespace Go.Proofs.YtpiidddccmohdabDoor.B
open Go
set_option linter.unusedVariables false
set_option maxHeartbeats 2000000
set_option maxRecDepth 100000
attribute [local irreducible] W OpsW OpsQ retP
theorem itR_v32 {d : Dig} {vv : Value} : (itR (d, vv))[32]? = some vv := by
  unfold itR; rw [List.getElem?_append_right (by rw [dgR_len]; exact Nat.le_refl _), dgR_len]; rfl
theorem encN_0 : encN 0 = [0] := by unfold encN; rfl
theorem encN_1 : encN 1 = [1] := by unfold encN; rfl
end Go.Proofs.YtpiidddccmohdabDoor.B
/-! The document's tries: the nodes on the way to a key. -/
namespace Go.Proofs.YtpiidddccmohdabDoor.B
open Go
set_option linter.unusedVariables false
set_option maxHeartbeats 2000000
set_option maxRecDepth 100000
attribute [local irreducible] W OpsW OpsQ retP
theorem AtI.stop {a r : List UInt8} {T : Tre} {l : List It} {y0 : It} {to : Nat} {key : Dig} (h : AtI a T l) (hy : y0 ∈ l) (hs : ShP l a.length to) (hk : nibs key.val = a ++ r)
    (hc : l.length = 1 ∨ ¬ ((nibs y0.1.val).drop a.length).take (to - a.length) = ((nibs key.val).drop a.length).take (to - a.length)) : wayT T r = [(T, r)] := by
  have hb := h.beg hy
  cases T with
  | no => rw [h.no] at hy; cases hy
  | leaf b v => rfl
  | branch b k =>
    have h2 := h.two
    obtain rfl := h.shared hs
    have hc := hc.resolve_left (by omega)
    rw [Nat.add_sub_cancel_left] at hc
    have hb : ((nibs y0.1.val).drop a.length).take b.length = b := hb
    rw [hb, hk, List.drop_left' rfl] at hc
    refine wayT_stop (Nat.lt_of_not_le fun hge => hc ?_)
    obtain ⟨t, rfl⟩ := comm_ge (beg := b) (r := r) (by omega)
    rw [List.take_left' rfl]
theorem AtI.go {a r : List UInt8} {T : Tre} {l : List It} {y0 : It} {to : Nat} {key : Dig} (h : AtI a T l) (hy : y0 ∈ l) (hs : ShP l a.length to) (hk : nibs key.val = a ++ r)
    (hc : ¬ (l.length = 1 ∨ ¬ ((nibs y0.1.val).drop a.length).take (to - a.length) = ((nibs key.val).drop a.length).take (to - a.length))) :
    ∃ b k y rs, T = .branch b k ∧ r = b ++ y :: rs ∧ to = a.length + b.length ∧ wayT T r = (T, r) :: wayT (k y.toNat) rs := by
  have hb := h.beg hy
  have hlen := congrArg List.length hk
  rw [nibs_len, key.2, List.length_append] at hlen
  cases T with
  | no => rw [h.no] at hy; cases hy
  | leaf b v => obtain ⟨x, rfl, _⟩ := h.leaf; exact absurd (Or.inl rfl) hc
  | branch b k =>
    have hto := h.shared hs
    have hbl := h.wf.1
    have hc : ((nibs y0.1.val).drop a.length).take (to - a.length) = ((nibs key.val).drop a.length).take (to - a.length) := Classical.byContradiction fun e => hc (.inr e)
    rw [hto, Nat.add_sub_cancel_left] at hc
    have hb : ((nibs y0.1.val).drop a.length).take b.length = b := hb
    rw [hb, hk, List.drop_left' rfl] at hc
    obtain ⟨t, ht⟩ : b <+: r := by rw [hc]; exact List.take_prefix _ _
    cases t with
    | nil => rw [List.append_nil] at ht; rw [← ht] at hlen; omega
    | cons y rs => subst ht; exact ⟨b, k, y, rs, rfl, rfl, hto, wayT_go⟩
end Go.Proofs.YtpiidddccmohdabDoor.B
/-! Tries: two that aren't one have unlike roots, or two of their nodes clash; items that rise. -/
namespace Go.Proofs.YtpiidddccmohdabDoor.B
open Go
set_option linter.unusedVariables false
set_option maxHeartbeats 2000000
set_option maxRecDepth 100000
attribute [local irreducible] W OpsW OpsQ retP
theorem toU8_inj {x y : Nat} (hx : x < 256) (hy : y < 256) (h : x.toUInt8 = y.toUInt8) : x = y := by
  have := congrArg UInt8.toNat h
  rwa [toU8_lt hx, toU8_lt hy] at this
theorem encN_inj0 : ∀ (n v u : Nat) (r s : List UInt8), v ≤ n → encN v ++ r = encN u ++ s → v = u ∧ r = s := by
  intro n
  induction n with
  | zero =>
    intro v u r s hv h
    rw [encN_last (show v < 128 by omega)] at h
    by_cases hu : u < 128
    · rw [encN_last hu] at h
      injection h with h1 h2
      exact ⟨toU8_inj (by omega) (by omega) h1, h2⟩
    · rw [encN_more (by omega)] at h
      injection h with h1 h2
      have := toU8_inj (by omega) (by omega) h1
      omega
  | succ n ih =>
    intro v u r s hv h
    by_cases hv8 : v < 128
    · rw [encN_last hv8] at h
      by_cases hu : u < 128
      · rw [encN_last hu] at h
        injection h with h1 h2
        exact ⟨toU8_inj (by omega) (by omega) h1, h2⟩
      · rw [encN_more (by omega)] at h
        injection h with h1 h2
        have := toU8_inj (by omega) (by omega) h1
        omega
    · rw [encN_more (show 128 ≤ v by omega)] at h
      by_cases hu : u < 128
      · rw [encN_last hu] at h
        injection h with h1 h2
        have := toU8_inj (by omega) (by omega) h1
        omega
      · rw [encN_more (show 128 ≤ u by omega)] at h
        injection h with h1 h2
        have := toU8_inj (by omega) (by omega) h1
        obtain ⟨h3, h4⟩ := ih (v / 128) (u / 128) r s (by omega) h2
        exact ⟨by omega, h4⟩
theorem encN_inj {v u : Nat} {r s : List UInt8} (h : encN v ++ r = encN u ++ s) : v = u ∧ r = s := encN_inj0 v v u r s (Nat.le_refl _) h
theorem encB_inj {b c r s : List UInt8} (h : encB b ++ r = encB c ++ s) : b = c ∧ r = s := by
  unfold encB at h
  rw [List.append_assoc, List.append_assoc] at h
  obtain ⟨h1, h2⟩ := encN_inj h
  exact List.append_inj h2 h1
theorem maskTo_inj {K J : Nat → Tre} : ∀ n, maskTo K n = maskTo J n → ∀ i, i < n → (K i).isNo = (J i).isNo
  | 0, _, i, hi => by omega
  | n + 1, h, i, hi => by
    have hK := maskTo_lt K n
    have hJ := maskTo_lt J n
    have h : maskTo K n + (if (K n).isNo = true then 0 else 2 ^ n) = maskTo J n + (if (J n).isNo = true then 0 else 2 ^ n) := h
    have key : (K n).isNo = (J n).isNo ∧ maskTo K n = maskTo J n := by
      generalize 2 ^ n = p at *
      cases h1 : (K n).isNo <;> cases h2 : (J n).isNo <;> rw [h1, h2] at h <;> simp at h ⊢ <;> omega
    by_cases e : i = n
    · rw [e]; exact key.1
    · exact maskTo_inj n key.2 i (by omega)
theorem digsTo_inj {K J : Nat → Tre} : ∀ n, (∀ i, i < n → (K i).isNo = (J i).isNo) → digsTo K n = digsTo J n → ∀ i, i < n → K i ≠ .no → tagD 4 [nodeB (K i)] = tagD 4 [nodeB (J i)]
  | 0, _, _, i, hi, _ => by omega
  | n + 1, hm, h, i, hi, hn => by
    rw [digsTo_s, digsTo_s, ← hm n (by omega)] at h
    by_cases hno : (K n).isNo = true
    · rw [if_pos hno, if_pos hno, List.append_nil, List.append_nil] at h
      by_cases e : i = n
      · rw [e] at hn; exact absurd (Tre.isNo_iff.1 hno) hn
      · exact digsTo_inj n (fun j hj => hm j (by omega)) h i (by omega) hn
    · rw [if_neg hno, if_neg hno] at h
      obtain ⟨h1, h2⟩ := List.append_inj' h (by rw [(tagD 4 [nodeB (K n)]).2, (tagD 4 [nodeB (J n)]).2])
      by_cases e : i = n
      · rw [e]; exact Subtype.ext h2
      · exact digsTo_inj n (fun j hj => hm j (by omega)) h1 i (by omega) hn
theorem nodeB_ll {b v c u : List UInt8} (h : nodeB (.leaf b v) = nodeB (.leaf c u)) : b = c ∧ v = u := by
  rw [nodeB, nodeB, List.append_assoc, List.append_assoc] at h
  obtain ⟨_, h⟩ := encN_inj h
  obtain ⟨e1, h⟩ := encB_inj h
  have h : encB v ++ [] = encB u ++ [] := by rw [h]
  exact ⟨e1, (encB_inj h).1⟩
theorem nodeB_lb {b v c : List UInt8} {k : Nat → Tre} (h : nodeB (.leaf b v) = nodeB (.branch c k)) : False := by
  rw [nodeB, nodeB_br, List.append_assoc, List.append_assoc, List.append_assoc] at h
  have := (encN_inj h).1
  omega
theorem nodeB_bb {b c : List UInt8} {k j : Nat → Tre} (h : nodeB (.branch b k) = nodeB (.branch c j)) :
    b = c ∧ (∀ i, i < 16 → (k i).isNo = (j i).isNo) ∧ ∀ i, i < 16 → k i ≠ .no → tagD 4 [nodeB (k i)] = tagD 4 [nodeB (j i)] := by
  rw [nodeB_br, nodeB_br, List.append_assoc, List.append_assoc, List.append_assoc, List.append_assoc] at h
  obtain ⟨_, h⟩ := encN_inj h
  obtain ⟨e1, h⟩ := encB_inj h
  obtain ⟨e2, h⟩ := encN_inj h
  have hm := maskTo_inj 16 e2
  exact ⟨e1, hm, digsTo_inj 16 hm h⟩
def wayB (T : Tre) (r : List UInt8) : List (List UInt8) := (wayT T r).map fun x => nodeB x.1
theorem wayB_0 {T : Tre} {r x : List UInt8} (h : (wayB T r)[0]? = some x) : x = nodeB T ∧ T ≠ .no := by
  by_cases hT : T = .no
  · subst hT; cases h
  · obtain ⟨t, ht⟩ := wayT_head r hT
    unfold wayB at h
    rw [ht] at h
    exact ⟨(Option.some.inj h).symm, hT⟩
theorem wayB_leaf {b v r : List UInt8} {k : Nat} : (wayB (.leaf b v) r)[k + 1]? = none := rfl
theorem wayB_br {b r x : List UInt8} {kd : Nat → Tre} {k : Nat} (h : (wayB (.branch b kd) r)[k + 1]? = some x) : ¬ comm b r < b.length ∧ (wayB (kd (r.getD b.length 0).toNat) (r.drop (b.length + 1)))[k]? = some x := by
  unfold wayB at h
  rw [wayT] at h
  by_cases hc : comm b r < b.length
  · rw [if_pos hc] at h; cases h
  · rw [if_neg hc] at h; exact ⟨hc, h⟩
theorem wayB_br' {b r : List UInt8} {kd : Nat → Tre} {k : Nat} (hc : ¬ comm b r < b.length) : (wayB (.branch b kd) r)[k + 1]? = (wayB (kd (r.getD b.length 0).toNat) (r.drop (b.length + 1)))[k]? := by
  unfold wayB
  rw [wayT, if_neg hc]; rfl
theorem wayB_some {T : Tre} {r x : List UInt8} {k : Nat} (h : (wayB T r)[k]? = some x) : T ≠ .no := fun e => by subst e; cases h
/-- The first two nodes on the way to a key that aren't one have one digest, where the roots are one. -/
theorem way_first : ∀ (T S : Tre) (r : List UInt8) (L L' k : Nat) (x y : List UInt8), T.wf L → S.wf L' → tagD 4 [nodeB T] = tagD 4 [nodeB S] →
    (wayB T r)[k]? = some x → (wayB S r)[k]? = some y → (∀ j : Nat, j < k → (wayB T r)[j]? = (wayB S r)[j]?) → tagD 4 [x] = tagD 4 [y] := by
  intro T
  induction T with
  | no => intro S r L L' k x y _ _ _ h; cases h
  | leaf b v =>
    intro S r L L' k x y _ _ hd hx hy _
    cases k with
    | zero => rw [(wayB_0 hx).1, (wayB_0 hy).1]; exact hd
    | succ k => cases hx
  | branch b kd ih =>
    intro S r L L' k x y hw hw' hd hx hy hj
    cases k with
    | zero => rw [(wayB_0 hx).1, (wayB_0 hy).1]; exact hd
    | succ k =>
      have h0 := hj 0 (by omega)
      cases S with
      | no => cases hy
      | leaf c u => cases hy
      | branch c jd =>
        have e0 : nodeB (.branch b kd) = nodeB (.branch c jd) := Option.some.inj h0
        obtain ⟨rfl, hm, hdg⟩ := nodeB_bb e0
        obtain ⟨hc, hx'⟩ := wayB_br hx
        obtain ⟨_, hy'⟩ := wayB_br hy
        have hne := wayB_some hx'
        have h16 : (r.getD b.length 0).toNat < 16 := Nat.lt_of_not_le fun hh => hne (hw.2.2.2.1 _ hh)
        refine ih _ (jd (r.getD b.length 0).toNat) _ _ _ k x y (hw.2.2.1 _) (hw'.2.2.1 _) (hdg _ h16 hne) hx' hy' fun j hjk => ?_
        have := hj (j + 1) (by omega)
        rwa [wayB_br' hc, wayB_br' hc] at this
/-- Where the nodes on the way to each key of both are one, aa_ far aa_ both go, the tries are. -/
theorem same_all : ∀ (T S : Tre) (L : Nat), T.wf L → S.wf L → T ≠ .no → S ≠ .no →
    (∀ r, r.length = L → nib16 r → (T.get r ≠ none ∨ S.get r ≠ none) → ∀ (k : Nat) (x y : List UInt8), (wayB T r)[k]? = some x → (wayB S r)[k]? = some y → x = y) → T = S := by
  intro T
  induction T with
  | no => intro S L _ _ h; exact absurd rfl h
  | leaf b v =>
    intro S L hw hw' hT hS h
    have h0 := h b hw.1 hw.2 (.inl (by rw [show (Tre.leaf b v).get b = some v from if_pos rfl]; exact fun e => by cases e)) 0 (nodeB (.leaf b v)) (nodeB S) rfl (by
      obtain ⟨t, ht⟩ := wayT_head b hS
      unfold wayB; rw [ht]; rfl)
    cases S with
    | no => exact absurd rfl hS
    | leaf c u => obtain ⟨rfl, rfl⟩ := nodeB_ll h0; rfl
    | branch c j => exact (nodeB_lb h0).elim
  | branch b kd ih =>
    intro S L hw hw' hT hS h
    obtain ⟨r0, v0, hr0, hn0, hg0⟩ := Tre.has _ L hw hT
    have h0 := h r0 hr0 hn0 (.inl (by rw [hg0]; exact fun e => by cases e)) 0 (nodeB (.branch b kd)) (nodeB S) (by
      obtain ⟨t, ht⟩ := wayT_head r0 hT
      unfold wayB; rw [ht]; rfl) (by
      obtain ⟨t, ht⟩ := wayT_head r0 hS
      unfold wayB; rw [ht]; rfl)
    cases S with
    | no => exact absurd rfl hS
    | leaf c u => exact (nodeB_lb h0.symm).elim
    | branch c jd =>
      obtain ⟨rfl, hm, _⟩ := nodeB_bb h0
      have hk : kd = jd := by
        funext i
        by_cases hi : 16 ≤ i
        · rw [hw.2.2.2.1 i hi, hw'.2.2.2.1 i hi]
        · have hi16 : i < 16 := by omega
          have hmi := hm i hi16
          by_cases hno : kd i = .no
          · rw [hno] at hmi ⊢
            exact (Tre.isNo_iff.1 hmi.symm).symm
          · have hno' : jd i ≠ .no := fun e => hno (by rw [e] at hmi; exact Tre.isNo_iff.1 hmi)
            have hbl := hw.1
            refine ih i (jd i) (L - b.length - 1) (hw.2.2.1 i) (hw'.2.2.1 i) hno hno' fun r hr hn hg k x y hx hy => ?_
            have hbr : ∀ (z : Nat → Tre) (k : Nat), (wayB (.branch b z) (b ++ i.toUInt8 :: r))[k + 1]? = (wayB (z i) r)[k]? := fun z k => by
              unfold wayB
              rw [wayT_go, u8_of hi16]; rfl
            refine h (b ++ i.toUInt8 :: r) (by rw [List.length_append, List.length_cons]; omega) (fun z hz => ?_) ?_ (k + 1) x y (by rw [hbr]; exact hx) (by rw [hbr]; exact hy)
            · rcases List.mem_append.1 hz with hz | hz
              · exact hw.2.1 z hz
              · rcases List.mem_cons.1 hz with rfl | hz
                · rw [u8_of hi16]; exact hi16
                · exact hn z hz
            · rw [Tre.get_br, Tre.get_br, u8_of hi16]; exact hg
      rw [hk]
/-! ### Items that rise -/
theorem lessB_trans : ∀ {a b c : List UInt8}, lessB a b = true → lessB b c = true → lessB a c = true
  | x :: a, y :: b, z :: c, h1, h2 => by
    unfold lessB at h1 h2 ⊢
    by_cases e1 : x = y
    · subst e1
      rw [if_pos rfl] at h1
      by_cases e2 : x = z
      · subst e2
        rw [if_pos rfl] at h2 ⊢
        exact lessB_trans h1 h2
      · rw [if_neg e2] at h2 ⊢
        exact h2
    · rw [if_neg e1] at h1
      by_cases e2 : y = z
      · subst e2
        rw [if_neg e1]; exact h1
      · rw [if_neg e2] at h2
        have h1 := of_decide_eq_true h1
        have h2 := of_decide_eq_true h2
        rw [if_neg (fun e => by subst e; omega)]
        exact decide_eq_true (by omega)
  | [], _, _, h, _ => by unfold lessB at h; cases h
  | _ :: _, [], _, h, _ => by unfold lessB at h; cases h
  | _ :: _, _ :: _, [], _, h => by unfold lessB at h; cases h
theorem lessB_total : ∀ {a b : List UInt8}, a.length = b.length → a ≠ b → lessB a b = false → lessB b a = true
  | [], [], _, h, _ => absurd rfl h
  | x :: a, y :: b, hl, hne, h => by
    unfold lessB at h ⊢
    by_cases e : x = y
    · subst e
      rw [if_pos rfl] at h ⊢
      exact lessB_total (by simpa using hl) (fun e => hne (by rw [e])) h
    · rw [if_neg e] at h
      rw [if_neg (fun e2 => e e2.symm)]
      have h := of_decide_eq_false h
      have : x.toNat ≠ y.toNat := fun e2 => e (UInt8.toNat_inj.1 e2)
      exact decide_eq_true (by omega)
  | [], _ :: _, h, _, _ => by cases h
  | _ :: _, [], h, _, _ => by cases h
def Rise (l : List It) : Prop := l.Pairwise fun x y => lessB x.1.val y.1.val = true
theorem putGo_true (key : Dig) (val : List UInt8) : ∀ l : List It, putGo key val true l = dropI l key
  | [] => rfl
  | x :: l => by
    have ih := putGo_true key val l
    unfold putGo
    rw [show (true || !lessB x.1.val key.val) = true from rfl, ih]
    unfold dropI
    rw [List.filter_cons]
    by_cases e : x.1 = key
    · simp [e]
    · simp [e]
theorem dropI_rise {l : List It} (h : Rise l) (key : Dig) : Rise (dropI l key) := List.Pairwise.sublist List.filter_sublist h
theorem putGo_rise (key : Dig) (val : List UInt8) : ∀ l : List It, Rise l → Rise (putGo key val false l)
  | [], _ => by unfold putGo; exact List.pairwise_singleton _ _
  | x :: l, h => by
    obtain ⟨h1, h2⟩ := List.pairwise_cons.1 h
    unfold putGo
    by_cases hl : lessB x.1.val key.val = true
    · have hne : x.1 ≠ key := fun e => by rw [e, lessB_self] at hl; cases hl
      rw [hl, if_pos hne]
      simp only [Bool.not_true, Bool.and_false, Bool.false_eq_true, if_false, List.nil_append, Bool.or_false, List.singleton_append]
      refine List.pairwise_cons.2 ⟨fun y hy => ?_, putGo_rise key val l h2⟩
      rcases putGo_mem _ _ _ _ _ hy with rfl | hy
      · exact hl
      · exact h1 y hy
    · have hl : lessB x.1.val key.val = false := by simpa using hl
      rw [hl]
      simp only [Bool.not_false, Bool.and_true, if_true, Bool.or_true]
      rw [putGo_true]
      by_cases e : x.1 = key
      · rw [if_neg (fun h => h e)]
        refine List.pairwise_cons.2 ⟨fun y hy => ?_, dropI_rise h2 key⟩
        have := h1 y (List.mem_filter.1 hy).1
        rw [e] at this; exact this
      · rw [if_pos e]
        have hlt : lessB key.val x.1.val = true := lessB_total (by rw [x.1.2, key.2]) (fun h => e (Subtype.ext h)) hl
        refine List.pairwise_cons.2 ⟨fun y hy => ?_, List.pairwise_cons.2 ⟨fun y hy => h1 y (List.mem_filter.1 hy).1, dropI_rise h2 key⟩⟩
        rcases List.mem_cons.1 hy with rfl | hy
        · exact hlt
        · exact lessB_trans hlt (h1 y (List.mem_filter.1 hy).1)
theorem play_rise : ∀ (cs : List Cl) (s : Tre × List It), Rise s.2 → Rise (cs.foldl stepC s).2
  | [], _, h => h
  | c :: cs, s, h => play_rise cs _ (by
    unfold stepC; split
    · exact putGo_rise _ _ _ h
    · exact dropI_rise h _)
theorem look_rise {x : It} {l : List It} (h : Rise (x :: l)) : lookI l x.1 = none := by
  cases e : lookI l x.1 with
  | none => rfl
  | some v =>
    have := (List.pairwise_cons.1 h).1 _ (look_mem e)
    rw [lessB_self] at this; cases this
/-- Rows that rise, and in which the same is found, are one. -/
theorem rise_ext : ∀ {l m : List It}, Rise l → Rise m → (∀ k, lookI l k = lookI m k) → l = m
  | [], [], _, _, _ => rfl
  | x :: l, [], _, _, h => by have := h x.1; unfold lookI at this; rw [if_pos rfl] at this; cases this
  | [], y :: m, _, _, h => by have := h y.1; unfold lookI at this; rw [if_pos rfl] at this; cases this
  | x :: l, y :: m, hl, hm, h => by
    have hx := h x.1
    have hy := h y.1
    have e1 : lookI (x :: l) x.1 = some x.2 := by unfold lookI; exact if_pos rfl
    have e2 : lookI (y :: m) y.1 = some y.2 := by unfold lookI; exact if_pos rfl
    by_cases e : x.1 = y.1
    · have exy : x = y := by
        rw [e1, e, e2] at hx
        exact Prod.ext e (Option.some.inj hx)
      subst exy
      rw [rise_ext (List.pairwise_cons.1 hl).2 (List.pairwise_cons.1 hm).2 fun k => by
        by_cases ek : x.1 = k
        · subst ek; rw [look_rise hl, look_rise hm]
        · have := h k
          unfold lookI at this
          rwa [if_neg ek, if_neg ek] at this]
    · rw [e1] at hx
      rw [e2] at hy
      have m1 := look_mem hx.symm
      have m2 := look_mem hy
      have a1 := (List.pairwise_cons.1 hm).1 (x.1, x.2) ((List.mem_cons.1 m1).resolve_left fun h => e (by rw [← h]))
      have a2 := (List.pairwise_cons.1 hl).1 (y.1, y.2) ((List.mem_cons.1 m2).resolve_left fun h => e (by rw [← h]))
      have := lessB_trans a1 a2
      rw [lessB_self] at this; cases this
end Go.Proofs.YtpiidddccmohdabDoor.B
