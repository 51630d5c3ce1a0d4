/-
  Tries: the items of a node, whose keys begin alike.
-/
import Derived.Test.YtpiidddccmohdaaTreK2
namespace Go.Proofs.Ytpiidddccmohdaa.B
open Go
set_option linter.unusedVariables false
set_option maxHeartbeats 2000000
set_option maxRecDepth 100000
attribute [local irreducible] W OpsW OpsQ retP
/-- All keys from a place on have the same nibbles up to another one, and part there. -/
def ShP (l : List It) (a to : Nat) : Prop := a ≤ to ∧ to ≤ 64 ∧ (∀ i, a ≤ i → i < to → ∀ x ∈ l, ∀ y ∈ l, (nibs x.1.val)[i]? = (nibs y.1.val)[i]?) ∧ (to < 64 → ∃ x ∈ l, ∃ y ∈ l, (nibs x.1.val)[to]? ≠ (nibs y.1.val)[to]?)
def partI (l : List It) (at_ : Nat) (n : UInt8) : List It := l.filter fun x => (nibs x.1.val)[at_]? = some n
/-- A trie has just the items, behind a beginning. -/
structure AtI (a : List UInt8) (T : Tre) (l : List It) : Prop where
  wf : T.wf (64 - a.length)
  la : a.length ≤ 64
  nd : (l.map (·.1)).Nodup
  fw : ∀ x ∈ l, ∃ r, nibs x.1.val = a ++ r ∧ T.get r = some x.2
  bw : ∀ r v, r.length = 64 - a.length → nib16 r → T.get r = some v → ∃ x ∈ l, nibs x.1.val = a ++ r
theorem look_nodup : ∀ {l : List It} {x : It}, (l.map (·.1)).Nodup → x ∈ l → lookI l x.1 = some x.2
  | y :: l, x, hn, hx => by
    obtain ⟨h1, h2⟩ := List.nodup_cons.1 (show (y.1 :: l.map (·.1)).Nodup from hn)
    unfold lookI
    rcases List.mem_cons.1 hx with rfl | hx
    · exact if_pos rfl
    · rw [if_neg (fun e => h1 (by rw [e]; exact List.mem_map.2 ⟨x, hx, rfl⟩))]
      exact look_nodup h2 hx
theorem Agree.atI {T : Tre} {l : List It} (h : Agree T l) (hw : T.wf 64) (hn : (l.map (·.1)).Nodup) : AtI [] T l := by
  refine ⟨hw, Nat.zero_le _, hn, fun x hx => ⟨nibs x.1.val, rfl, by rw [h x.1]; exact look_nodup hn hx⟩, fun r v hr h16 hg => ?_⟩
  have hr : r.length = 64 := hr
  obtain ⟨d, hd, rfl⟩ := nibs_surj 32 r (by omega) h16
  have h1 := h ⟨d, hd⟩
  rw [hg] at h1
  exact ⟨_, look_mem h1.symm, rfl⟩
theorem AtI.no {a : List UInt8} {l : List It} (h : AtI a .no l) : l = [] := by
  cases l with
  | nil => rfl
  | cons x l =>
    obtain ⟨r, _, h2⟩ := h.fw x (List.mem_cons_self ..)
    cases h2
theorem AtI.some_ {a : List UInt8} {T : Tre} {l : List It} (h : AtI a T l) (hT : T ≠ .no) : l ≠ [] := by
  obtain ⟨r, v, h1, h2, h3⟩ := T.has _ h.wf hT
  obtain ⟨x, hx, _⟩ := h.bw r v h1 h2 h3
  exact fun e => by rw [e] at hx; cases hx
theorem nd_one {l : List It} {x : It} (hn : (l.map (·.1)).Nodup) (hx : x ∈ l) (h : ∀ y ∈ l, y.1 = x.1) : l = [x] := by
  match l with
  | [] => cases hx
  | [y] => rw [List.mem_singleton.1 hx]
  | y :: z :: l =>
    obtain ⟨h1, _⟩ := List.nodup_cons.1 (show (y.1 :: z.1 :: l.map (·.1)).Nodup from hn)
    refine absurd ?_ h1
    rw [h y (List.mem_cons_self ..), h z (List.mem_cons_of_mem _ (List.mem_cons_self ..))]
    exact List.mem_cons_self ..
theorem AtI.leaf {a b v : List UInt8} {l : List It} (h : AtI a (.leaf b v) l) : ∃ x, l = [x] ∧ nibs x.1.val = a ++ b ∧ x.2 = v := by
  obtain ⟨x, hx, he⟩ := h.bw b v h.wf.1 h.wf.2 (if_pos rfl)
  have hall : ∀ y ∈ l, nibs y.1.val = a ++ b ∧ y.2 = v := fun y hy => by
    obtain ⟨r, h1, h2⟩ := h.fw y hy
    have h2 : (if b = r then some v else none) = some y.2 := h2
    by_cases e : b = r
    · rw [if_pos e] at h2; injection h2 with h2
      exact ⟨by rw [h1, e], h2.symm⟩
    · rw [if_neg e] at h2; cases h2
  exact ⟨x, nd_one h.nd hx fun y hy => Subtype.ext (nibs_inj (by rw [(hall y hy).1, he])), hall x hx⟩
theorem at_mid {a b r : List UInt8} {x : UInt8} : (a ++ (b ++ x :: r))[a.length + b.length]? = some x := by
  rw [← List.append_assoc, List.getElem?_append_right (by rw [List.length_append]; exact Nat.le_refl _), List.length_append, Nat.sub_self]; rfl
theorem at_ahead {a b r : List UInt8} {i : Nat} (hi : i < a.length + b.length) : (a ++ (b ++ r))[i]? = (a ++ b)[i]? := by
  rw [← List.append_assoc, List.getElem?_append_left (by rw [List.length_append]; exact hi)]
theorem AtI.mem {a b : List UInt8} {k : Nat → Tre} {l : List It} (h : AtI a (.branch b k) l) {x : It} (hx : x ∈ l) : ∃ y r, nibs x.1.val = a ++ (b ++ y :: r) ∧ (k y.toNat).get r = some x.2 := by
  obtain ⟨r, h1, h2⟩ := h.fw x hx
  obtain ⟨y, r', rfl, h3⟩ := Tre.get_some h2
  exact ⟨y, r', h1, h3⟩
theorem AtI.parts {a b : List UInt8} {k : Nat → Tre} {l : List It} (h : AtI a (.branch b k) l) : ∃ x ∈ l, ∃ y ∈ l, (nibs x.1.val)[a.length + b.length]? ≠ (nibs y.1.val)[a.length + b.length]? := by
  obtain ⟨x, y, r, s, v, u, hxy, h1, h2, h3, h4, h5, h6⟩ := Tre.two h.wf
  obtain ⟨p, hp, e1⟩ := h.bw _ _ h1 h3 h5
  obtain ⟨q, hq, e2⟩ := h.bw _ _ h2 h4 h6
  refine ⟨p, hp, q, hq, ?_⟩
  rw [e1, e2, at_mid, at_mid]
  exact fun e => hxy (Option.some.inj e)
theorem AtI.two {a b : List UInt8} {k : Nat → Tre} {l : List It} (h : AtI a (.branch b k) l) : 2 ≤ l.length := by
  obtain ⟨x, hx, y, hy, hne⟩ := h.parts
  match l with
  | [] => cases hx
  | [z] => rw [List.mem_singleton.1 hx, List.mem_singleton.1 hy] at hne; exact absurd rfl hne
  | _ :: _ :: l => show 2 ≤ l.length + 1 + 1; omega
theorem AtI.shared {a b : List UInt8} {k : Nat → Tre} {l : List It} (h : AtI a (.branch b k) l) {to : Nat} (hs : ShP l a.length to) : to = a.length + b.length := by
  obtain ⟨h1, h2, h3, h4⟩ := hs
  have hbl := h.wf.1
  have hla := h.la
  rcases Nat.lt_trichotomy to (a.length + b.length) with hlt | he | hgt
  · obtain ⟨x, hx, y, hy, hne⟩ := h4 (by omega)
    obtain ⟨p, r, e1, _⟩ := h.mem hx
    obtain ⟨q, s, e2, _⟩ := h.mem hy
    rw [e1, e2, at_ahead hlt, at_ahead hlt] at hne
    exact absurd rfl hne
  · exact he
  · obtain ⟨x, hx, y, hy, hne⟩ := h.parts
    exact absurd (h3 _ (by omega) hgt x hx y hy) hne
theorem AtI.kid {a b : List UInt8} {k : Nat → Tre} {l : List It} (h : AtI a (.branch b k) l) (n : UInt8) : AtI ((a ++ b) ++ [n]) (k n.toNat) (partI l (a.length + b.length) n) := by
  have hbl := h.wf.1
  have hla := h.la
  have hlen : ((a ++ b) ++ [n]).length = a.length + b.length + 1 := by rw [List.length_append, List.length_append]; rfl
  have he : 64 - ((a ++ b) ++ [n]).length = 64 - a.length - b.length - 1 := by omega
  refine ⟨by rw [he]; exact h.wf.2.2.1 _, by omega, List.Nodup.sublist (List.Sublist.map _ List.filter_sublist) h.nd, fun x hx => ?_, fun r v hr h16 hg => ?_⟩
  · unfold partI at hx
    obtain ⟨hx, hn⟩ := List.mem_filter.1 hx
    obtain ⟨y, r, e1, e2⟩ := h.mem hx
    have hn : (nibs x.1.val)[a.length + b.length]? = some n := by simpa using hn
    rw [e1, at_mid] at hn
    obtain rfl := Option.some.inj hn
    exact ⟨r, by rw [e1]; simp, e2⟩
  · have hn16 : n.toNat < 16 := Nat.lt_of_not_le fun hh => by rw [h.wf.2.2.2.1 _ hh] at hg; cases hg
    obtain ⟨x, hx, e⟩ := h.bw (b ++ n :: r) v (by rw [List.length_append, List.length_cons]; omega) (fun z hz => by
      rcases List.mem_append.1 hz with hz | hz
      · exact h.wf.2.1 z hz
      · rcases List.mem_cons.1 hz with rfl | hz
        · exact hn16
        · exact h16 z hz) (by rw [Tre.get_br]; exact hg)
    refine ⟨x, List.mem_filter.2 ⟨hx, ?_⟩, by rw [e]; simp⟩
    rw [e, at_mid]; simp
/-- The nibbles of a node's keys. -/
theorem AtI.beg {a : List UInt8} {T : Tre} {l : List It} (h : AtI a T l) {x : It} (hx : x ∈ l) : ((nibs x.1.val).drop a.length).take (begT T).length = begT T := by
  obtain ⟨r, h1, h2⟩ := h.fw x hx
  obtain ⟨t, ht⟩ := get_pre h2
  rw [h1, List.drop_left' rfl, ← ht, List.take_left' rfl]
theorem partI_len (l : List It) (at_ : Nat) (n : UInt8) : (partI l at_ n).length ≤ l.length := List.length_filter_le _ _
end Go.Proofs.Ytpiidddccmohdaa.B
