/-
  Sorted rows of volumes and of cells (plain).
-/
import Derived.Test.YtkmciohghhffnaaVImgF
namespace Go.Proofs.Ytkmciohghhffnaa.B
open Go
set_option linter.unusedVariables false
set_option maxHeartbeats 2000000
set_option maxRecDepth 100000
attribute [local irreducible] W OpsW OpsQ retP
theorem sorted_ext {α : Type} {R : α → α → Prop} (irr : ∀ a, ¬ R a a) (asy : ∀ a b, R a b → R b a → False) {l l' : List α} (h : l.Pairwise R) (h' : l'.Pairwise R) (hm : ∀ x, x ∈ l ↔ x ∈ l') : l = l' := by
  have nd : ∀ {m : List α}, m.Pairwise R → m.Nodup := fun hp => hp.imp (fun {a b} hr e => by rw [e] at hr; exact irr _ hr)
  exact List.Perm.eq_of_pairwise (le := R) (fun a b _ _ h1 h2 => (asy a b h1 h2).elim) h h' ((List.perm_ext_iff_of_nodup (nd h) (nd h')).2 hm)
theorem nodup_sorted {α : Type} {le : α → α → Bool} (tr : ∀ a b c, le a b = true → le b c = true → le a c = true) (to : ∀ a b, (le a b || le b a) = true) {l : List α} (h : l.Nodup) : (l.mergeSort le).Pairwise (fun a b => le a b = true ∧ a ≠ b) := by
  have h1 := List.pairwise_mergeSort tr to l
  have h2 : (l.mergeSort le).Nodup := (List.mergeSort_perm l le).nodup_iff.2 h
  exact h1.and h2
theorem look_of_key {α β : Type} [DecidableEq α] {l : List (α × β)} {k : α} (h : k ∈ l.map (·.1)) : ∃ v, lookP l k = some v := by
  obtain ⟨x, hx, rfl⟩ := List.mem_map.1 h
  cases hv : lookP l x.1 with
  | some v => exact ⟨v, rfl⟩
  | none => exact absurd rfl (lookP_none hv x hx)
theorem key_of_look {α β : Type} [DecidableEq α] {l : List (α × β)} {k : α} {v : β} (h : lookP l k = some v) : k ∈ l.map (·.1) := List.mem_map.2 ⟨_, lookP_mem h, rfl⟩
/-! numbered blocks -/
theorem sortI_lt {l : List Int} (h : l.Nodup) : (sortI l).Pairwise (· < ·) := by
  have tr : ∀ a b c : Int, leZ a b = true → leZ b c = true → leZ a c = true := fun a b c h1 h2 => by simp only [leZ, decide_eq_true_eq] at *; omega
  have to : ∀ a b : Int, (leZ a b || leZ b a) = true := fun a b => by simp only [leZ, Bool.or_eq_true, decide_eq_true_eq]; omega
  refine (nodup_sorted tr to h).imp fun {a b} hh => ?_
  have := of_decide_eq_true hh.1
  have h2 := hh.2
  omega
theorem blkS_lt {bl : List (Int × Bk)} (h : (bl.map (·.1)).Nodup) : (blkS bl).Pairwise (fun p q => p.1 < q.1) := by
  unfold blkS
  rw [List.pairwise_map]
  exact sortI_lt h
theorem blkS_mem {bl : List (Int × Bk)} {p : Int × Bk} : p ∈ blkS bl ↔ lookP bl p.1 = some p.2 := by
  unfold blkS
  rw [List.mem_map]
  constructor
  · rintro ⟨n, hn, rfl⟩
    obtain ⟨v, hv⟩ := look_of_key (((List.mergeSort_perm _ _).mem_iff).1 hn)
    show lookP bl n = some ((lookP bl n).getD Bk.zero)
    rw [hv]; rfl
  · intro h
    exact ⟨p.1, ((List.mergeSort_perm _ _).mem_iff).2 (key_of_look h), by rw [h]; rfl⟩
def stpN (n : Int) (b : Bk) (st : List (Int × Bk) × Bool) (p : Int × Bk) : List (Int × Bk) × Bool :=
  let s1 := if st.2 = false ∧ n ≤ p.1 then (st.1 ++ [(n, b)], true) else st
  if p.1 ≠ n then (s1.1 ++ [p], s1.2) else s1
theorem stp_a {n : Int} {b : Bk} {s : List (Int × Bk)} {d : Bool} {p : Int × Bk} (h : d = true ∨ p.1 < n) (h2 : p.1 ≠ n) : stpN n b (s, d) p = (s ++ [p], d) := by
  have hc : ¬ (d = false ∧ n ≤ p.1) := by
    rintro ⟨rfl, h3⟩
    rcases h with h | h
    · cases h
    · omega
  simp only [stpN]
  rw [if_pos h2, if_neg hc]
theorem stp_b {n : Int} {b : Bk} {s : List (Int × Bk)} {p : Int × Bk} (h2 : p.1 = n) : stpN n b (s, true) p = (s, true) := by
  simp only [stpN]
  rw [if_neg (by simp [h2]), if_neg (by rintro ⟨h, _⟩; cases h)]
theorem stp_c {n : Int} {b : Bk} {s : List (Int × Bk)} {p : Int × Bk} (h : n < p.1) : stpN n b (s, false) p = (s ++ [(n, b)] ++ [p], true) := by
  simp only [stpN]
  rw [if_pos (by omega), if_pos ⟨trivial, by omega⟩]
theorem stp_d {n : Int} {b : Bk} {s : List (Int × Bk)} {p : Int × Bk} (h2 : p.1 = n) : stpN n b (s, false) p = (s ++ [(n, b)], true) := by
  simp only [stpN]
  rw [if_neg (by simp [h2]), if_pos ⟨trivial, by omega⟩]
def accN (n : Int) (b : Bk) (tr : Bool) (l : List (Int × Bk)) : List (Int × Bk) × Bool := l.foldl (stpN n b) ([], tr)
theorem accN_snoc (n : Int) (b : Bk) (tr : Bool) (l : List (Int × Bk)) (p : Int × Bk) : accN n b tr (l ++ [p]) = stpN n b (accN n b tr l) p := by unfold accN; rw [List.foldl_append]; rfl
def finN (n : Int) (b : Bk) (tr : Bool) (l : List (Int × Bk)) : List (Int × Bk) := if (accN n b tr l).2 = false then (accN n b tr l).1 ++ [(n, b)] else (accN n b tr l).1
def loNV (n : Int) (l : List (Int × Bk)) : List (Int × Bk) := l.filter fun p => decide (p.1 < n)
def hiNV (n : Int) (l : List (Int × Bk)) : List (Int × Bk) := l.filter fun p => decide (n < p.1)
def midN (n : Int) (b : Bk) (tr : Bool) : List (Int × Bk) := if tr = true then [] else [(n, b)]
theorem loN_all {n : Int} {l : List (Int × Bk)} (h : ∀ p ∈ l, p.1 < n) : loNV n l = l := List.filter_eq_self.2 fun p hp => decide_eq_true (h p hp)
theorem hiN_none {n : Int} {l : List (Int × Bk)} (h : ∀ p ∈ l, p.1 ≤ n) : hiNV n l = [] := List.filter_eq_nil_iff.2 fun p hp => by have := h p hp; simp; omega
theorem lo_snoc {n : Int} (l : List (Int × Bk)) (p : Int × Bk) : loNV n (l ++ [p]) = loNV n l ++ (if p.1 < n then [p] else []) := by
  unfold loNV; rw [List.filter_append, List.filter_cons, List.filter_nil]; by_cases h : p.1 < n <;> simp [h]
theorem hi_snoc {n : Int} (l : List (Int × Bk)) (p : Int × Bk) : hiNV n (l ++ [p]) = hiNV n l ++ (if n < p.1 then [p] else []) := by
  unfold hiNV; rw [List.filter_append, List.filter_cons, List.filter_nil]; by_cases h : n < p.1 <;> simp [h]
theorem accN_inv (n : Int) (b : Bk) (tr : Bool) (l : List (Int × Bk)) (hl : l.Pairwise (fun p q => p.1 < q.1)) : ∀ k, k ≤ l.length →
    ((accN n b tr (l.take k)) = (l.take k, tr) ∧ ∀ p ∈ l.take k, p.1 < n) ∨ ((accN n b tr (l.take k)) = (loNV n (l.take k) ++ midN n b tr ++ hiNV n (l.take k), true) ∧ ∃ q ∈ l.take k, n ≤ q.1) := by
  intro k
  induction k with
  | zero => intro _; exact .inl ⟨rfl, fun p hp => by cases hp⟩
  | succ k ih =>
    intro hk
    have hkl : k < l.length := hk
    have ih := ih (Nat.le_of_succ_le hk)
    have ht : l.take (k + 1) = l.take k ++ [l[k]] := List.take_succ_eq_append_getElem hkl
    have hbig : ∀ q ∈ l.take k, q.1 < (l[k]).1 := fun q hq => by
      obtain ⟨i, hi, e⟩ := List.mem_iff_getElem.1 hq
      rw [List.getElem_take] at e
      rw [← e]
      rw [List.length_take] at hi
      exact List.pairwise_iff_getElem.1 hl i k (by omega) hkl (by omega)
    generalize hp : l[k] = p at *
    rw [ht, accN_snoc]
    rcases ih with ⟨h1, h2⟩ | ⟨h1, q, hq, hq1⟩
    · rw [h1]
      by_cases hlt : p.1 < n
      · left
        refine ⟨stp_a (.inr hlt) (by omega), fun r hr => ?_⟩
        · rcases List.mem_append.1 hr with hr | hr
          · exact h2 r hr
          · rw [List.mem_singleton.1 hr]; exact hlt
      · right
        refine ⟨?_, p, List.mem_append.2 (.inr (List.mem_singleton.2 rfl)), by omega⟩
        rw [lo_snoc, hi_snoc, loN_all h2, hiN_none (fun r hr => by have := h2 r hr; omega), if_neg hlt, List.append_nil, List.nil_append]
        unfold midN
        cases tr with
        | true =>
          by_cases hn : p.1 = n
          · rw [stp_b hn, if_neg (show ¬ n < p.1 by omega)]; simp
          · rw [stp_a (.inl rfl) hn, if_pos (show n < p.1 by omega)]; simp
        | false =>
          by_cases hn : p.1 = n
          · rw [stp_d hn, if_neg (show ¬ n < p.1 by omega)]; simp
          · rw [stp_c (show n < p.1 by omega), if_pos (show n < p.1 by omega)]; simp
    · right
      have hgt : n < p.1 := by have := hbig q hq; omega
      rw [h1]
      refine ⟨?_, q, List.mem_append.2 (.inl hq), hq1⟩
      rw [lo_snoc, hi_snoc, if_neg (by omega), if_pos hgt, List.append_nil]
      rw [stp_a (.inl rfl) (by omega)]
      simp [List.append_assoc]
theorem finN_eq (n : Int) (b : Bk) (tr : Bool) {l : List (Int × Bk)} (hl : l.Pairwise (fun p q => p.1 < q.1)) : finN n b tr l = loNV n l ++ midN n b tr ++ hiNV n l := by
  have h := accN_inv n b tr l hl l.length (Nat.le_refl _)
  rw [List.take_length] at h
  unfold finN
  rcases h with ⟨h1, h2⟩ | ⟨h1, _⟩
  · rw [h1, loN_all h2, hiN_none (fun r hr => by have := h2 r hr; omega)]
    unfold midN
    cases tr <;> simp
  · rw [h1]; simp
theorem finN_lt (n : Int) (b : Bk) (tr : Bool) {l : List (Int × Bk)} (hl : l.Pairwise (fun p q => p.1 < q.1)) : (finN n b tr l).Pairwise (fun p q => p.1 < q.1) := by
  rw [finN_eq n b tr hl]
  have e1 : ∀ p ∈ loNV n l, p.1 < n := fun p hp => of_decide_eq_true (List.mem_filter.1 hp).2
  have e2 : ∀ p ∈ hiNV n l, n < p.1 := fun p hp => of_decide_eq_true (List.mem_filter.1 hp).2
  have e3 : ∀ p ∈ midN n b tr, p.1 = n := fun p hp => by
    unfold midN at hp
    split at hp
    · cases hp
    · rw [List.mem_singleton.1 hp]
  refine List.pairwise_append.2 ⟨List.pairwise_append.2 ⟨hl.filter _, ?_, fun p hp q hq => by rw [e3 q hq]; exact e1 p hp⟩, hl.filter _, fun p hp q hq => ?_⟩
  · unfold midN; split
    · exact List.Pairwise.nil
    · exact List.pairwise_singleton _ _
  · have := e2 q hq
    rcases List.mem_append.1 hp with hp | hp
    · have := e1 p hp; omega
    · rw [e3 p hp]; omega
theorem finN_mem (n : Int) (b : Bk) (tr : Bool) {l : List (Int × Bk)} (hl : l.Pairwise (fun p q => p.1 < q.1)) (p : Int × Bk) : p ∈ finN n b tr l ↔ (tr = false ∧ p = (n, b)) ∨ (p ∈ l ∧ p.1 ≠ n) := by
  rw [finN_eq n b tr hl, List.mem_append, List.mem_append]
  unfold loNV hiNV
  rw [List.mem_filter, List.mem_filter]
  have e3 : p ∈ midN n b tr ↔ tr = false ∧ p = (n, b) := by unfold midN; cases tr <;> simp
  rw [e3]
  simp only [decide_eq_true_eq]
  constructor
  · rintro ((⟨h1, h2⟩ | h) | ⟨h1, h2⟩)
    · exact .inr ⟨h1, by omega⟩
    · exact .inl h
    · exact .inr ⟨h1, by omega⟩
  · rintro (h | ⟨h1, h2⟩)
    · exact .inl (.inr h)
    · rcases Int.lt_trichotomy p.1 n with h | h | h
      · exact .inl (.inl ⟨h1, h⟩)
      · exact absurd h h2
      · exact .inr ⟨h1, h⟩
theorem blk_ext {l l' : List (Int × Bk)} (h : l.Pairwise (fun p q => p.1 < q.1)) (h' : l'.Pairwise (fun p q => p.1 < q.1)) (hm : ∀ x, x ∈ l ↔ x ∈ l') : l = l' :=
  sorted_ext (R := fun p q : Int × Bk => p.1 < q.1) (fun a h => by have h : a.1 < a.1 := h; omega) (fun a b h1 h2 => by have h1 : a.1 < b.1 := h1; have h2 : b.1 < a.1 := h2; omega) h h' hm
theorem nodup_del {α β : Type} [DecidableEq α] {l : List (α × β)} {k : α} (h : (l.map (·.1)).Nodup) : ((delP l k).map (·.1)).Nodup := List.Nodup.sublist (List.Sublist.map _ List.filter_sublist) h
theorem setP_keys {α β : Type} [DecidableEq α] (l : List (α × β)) (k : α) (v : β) : (setP l k v).map (·.1) = if (lookP l k).isSome = true then l.map (·.1) else l.map (·.1) ++ [k] := by
  unfold setP
  split
  · rw [List.map_map]
    apply List.map_congr_left
    intro x _
    show (if x.1 = k then (k, v) else x).1 = x.1
    by_cases h : x.1 = k
    · rw [if_pos h]; exact h.symm
    · rw [if_neg h]
  · rw [List.map_append]; rfl
theorem nodup_set {α β : Type} [DecidableEq α] {l : List (α × β)} {k : α} {v : β} (h : (l.map (·.1)).Nodup) : ((setP l k v).map (·.1)).Nodup := by
  rw [setP_keys]
  split
  · exact h
  · rename_i hs
    refine List.nodup_append.2 ⟨h, by simp, fun a ha b hb e => hs ?_⟩
    rw [List.mem_singleton.1 hb] at e
    obtain ⟨w, hw⟩ := look_of_key (e ▸ ha)
    rw [hw]; rfl
theorem blkS_set {bl : List (Int × Bk)} (h : (bl.map (·.1)).Nodup) (n : Int) (b : Bk) : blkS (setP bl n b) = finN n b false (blkS bl) := by
  refine blk_ext (blkS_lt (nodup_set h)) (finN_lt n b false (blkS_lt h)) fun p => ?_
  rw [blkS_mem, finN_mem n b false (blkS_lt h), blkS_mem, lookP_set]
  by_cases hp : p.1 = n
  · rw [if_pos hp]
    constructor
    · intro e; exact .inl ⟨rfl, by rw [← hp, Option.some.inj e]⟩
    · rintro (⟨_, e⟩ | ⟨_, e⟩)
      · rw [e]
      · exact absurd hp e
  · rw [if_neg hp]
    constructor
    · intro e; exact .inr ⟨e, hp⟩
    · rintro (⟨_, e⟩ | ⟨e, _⟩)
      · rw [e] at hp; exact absurd rfl hp
      · exact e
theorem blkS_del {bl : List (Int × Bk)} (h : (bl.map (·.1)).Nodup) (n : Int) (b : Bk) : blkS (delP bl n) = finN n b true (blkS bl) := by
  refine blk_ext (blkS_lt (nodup_del h)) (finN_lt n b true (blkS_lt h)) fun p => ?_
  rw [blkS_mem, finN_mem n b true (blkS_lt h), blkS_mem, lookP_del]
  by_cases hp : p.1 = n
  · rw [if_pos hp]
    constructor
    · intro e; cases e
    · rintro (⟨e, _⟩ | ⟨_, e⟩)
      · cases e
      · exact absurd hp e
  · rw [if_neg hp]
    constructor
    · intro e; exact .inr ⟨e, hp⟩
    · rintro (⟨e, _⟩ | ⟨e, _⟩)
      · cases e
      · exact e
theorem accN_len (n : Int) (b : Bk) (tr : Bool) (l : List (Int × Bk)) : (accN n b tr l).1.length ≤ l.length + 1 ∧ ((accN n b tr l).2 = false → (accN n b tr l).1.length ≤ l.length) := by
  suffices h : ∀ (l : List (Int × Bk)) (st : List (Int × Bk) × Bool), (l.foldl (stpN n b) st).1.length ≤ st.1.length + l.length + (if st.2 = false then 1 else 0) ∧ ((l.foldl (stpN n b) st).2 = false → st.2 = false ∧ (l.foldl (stpN n b) st).1.length ≤ st.1.length + l.length) by
    have := h l ([], tr)
    unfold accN
    simp only [List.length_nil, Nat.zero_add] at this
    refine ⟨Nat.le_trans this.1 (by split <;> omega), fun e => (this.2 e).2⟩
  intro l
  induction l with
  | nil => intro st; exact ⟨by rw [List.foldl_nil, List.length_nil]; omega, fun e => ⟨e, by simp⟩⟩
  | cons p l ih =>
    intro st
    rw [List.foldl_cons]
    have h1 := ih (stpN n b st p)
    have h2 : ((stpN n b st p).2 = false → st.2 = false ∧ (stpN n b st p).1.length ≤ st.1.length + 1) ∧ (stpN n b st p).1.length + (if (stpN n b st p).2 = false then 1 else 0) ≤ st.1.length + 1 + (if st.2 = false then 1 else 0) := by
      obtain ⟨s, d⟩ := st
      rcases Int.lt_trichotomy p.1 n with h | h | h
      · rw [stp_a (.inr h) (by omega)]; cases d <;> simp
      · cases d
        · rw [stp_d h]; simp
        · rw [stp_b h]; simp
      · cases d
        · rw [stp_c h]; simp
        · rw [stp_a (.inl rfl) (by omega)]; simp
    refine ⟨by rw [List.length_cons]; omega, fun e => ?_⟩
    obtain ⟨e1, e2⟩ := h1.2 e
    obtain ⟨e3, e4⟩ := h2.1 e1
    exact ⟨e3, by rw [List.length_cons]; omega⟩
/-! images -/
theorem sortS_lt {l : List (List UInt8)} (h : l.Nodup) : (sortS l).Pairwise (· < ·) := by
  have tr : ∀ a b c : List UInt8, leB a b = true → leB b c = true → leB a c = true := fun a b c h1 h2 => by simp only [leB, decide_eq_true_eq] at *; exact List.le_trans h1 h2
  have to : ∀ a b : List UInt8, (leB a b || leB b a) = true := fun a b => by simp only [leB, Bool.or_eq_true, decide_eq_true_eq]; exact List.le_total a b
  refine (nodup_sorted tr to h).imp fun {a b} hh => ?_
  have h1 : a ≤ b := of_decide_eq_true hh.1
  refine Classical.byContradiction fun hn => hh.2 (List.le_antisymm h1 ?_)
  exact List.not_lt.1 hn
abbrev ltN (x y : Img) : Prop := x.nm < y.nm
theorem img_ext {l l' : List Img} (h : l.Pairwise ltN) (h' : l'.Pairwise ltN) (hm : ∀ x, x ∈ l ↔ x ∈ l') : l = l' :=
  sorted_ext (R := ltN) (fun a h => List.lt_irrefl _ h) (fun a b h1 h2 => List.lt_irrefl _ (List.lt_trans h1 h2)) h h' hm
theorem imgD_lt {l : AL} (h : (l.map (·.1)).Nodup) : (imgD l).Pairwise ltN := by
  unfold imgD
  rw [List.pairwise_map]
  refine (sortS_lt h).imp fun {a b} hh => ?_
  show (imgOf l a).nm < (imgOf l b).nm
  rw [imgOf_nm, imgOf_nm]; exact hh
theorem imgD_iff {l : AL} {i : Img} : i ∈ imgD l ↔ ∃ v, lookP l i.nm = some v ∧ i = ⟨i.nm, v.q, v.fr, blkS v.bl⟩ := by
  constructor
  · intro h
    obtain ⟨n, hn, rfl⟩ := List.mem_map.1 h
    obtain ⟨v, hv⟩ := look_of_key (((List.mergeSort_perm _ _).mem_iff).1 hn)
    rw [imgOf_nm]
    exact ⟨v, hv, imgOf_some hv⟩
  · rintro ⟨v, hv, e⟩
    rw [e]; exact imgD_mem hv
theorem imgD_add {l : AL} {nm : List UInt8} {v : VA} {k : Nat} (h : (l.map (·.1)).Nodup) (hno : lookP l nm = none) (hk : k ≤ (imgD l).length) (h1 : ∀ y ∈ (imgD l).take k, y.nm < nm) (h2 : ∀ y, (imgD l)[k]? = some y → ¬ y.nm < nm) :
    (imgD l).take k ++ (⟨nm, v.q, v.fr, blkS v.bl⟩ : Img) :: (imgD l).drop k = imgD (l ++ [(nm, v)]) := by
  have hL := imgD_lt h
  have hne : ∀ y ∈ imgD l, y.nm ≠ nm := fun y hy e => by
    obtain ⟨v', hv', _⟩ := imgD_iff.1 hy
    rw [e, hno] at hv'; cases hv'
  have hbig : ∀ y ∈ (imgD l).drop k, nm < y.nm := fun y hy => by
    obtain ⟨j, hj, e⟩ := List.mem_iff_getElem.1 hy
    rw [List.getElem_drop] at e
    rw [List.length_drop] at hj
    have hk0 : k < (imgD l).length := by omega
    have h3 := h2 _ (List.getElem?_eq_getElem hk0)
    have h4 : nm < ((imgD l)[k]).nm := by
      refine Classical.byContradiction fun hn => hne _ (List.getElem_mem hk0) (List.le_antisymm (List.not_lt.1 hn) (List.not_lt.1 h3))
    by_cases hj0 : j = 0
    · subst hj0; rw [← e]; exact h4
    · have := List.pairwise_iff_getElem.1 hL k (k + j) hk0 (by omega) (by omega)
      rw [e] at this
      exact List.lt_trans h4 this
  have hnd : ((l ++ [(nm, v)]).map (·.1)).Nodup := by
    rw [List.map_append]
    refine List.nodup_append.2 ⟨h, by simp, fun a ha b hb e => ?_⟩
    have hb : b = nm := by simpa using hb
    obtain ⟨w, hw⟩ := look_of_key ha
    rw [e, hb, hno] at hw; cases hw
  refine img_ext (List.pairwise_append.2 ⟨hL.sublist (List.take_sublist _ _), List.pairwise_cons.2 ⟨hbig, hL.sublist (List.drop_sublist _ _)⟩, fun a ha b hb => ?_⟩) (imgD_lt hnd) fun i => ?_
  · rcases List.mem_cons.1 hb with rfl | hb
    · exact h1 a ha
    · exact List.lt_trans (h1 a ha) (hbig b hb)
  · rw [List.mem_append, List.mem_cons]
    have hmem : (i ∈ (imgD l).take k ∨ i ∈ (imgD l).drop k) ↔ i ∈ imgD l := by rw [← List.mem_append, List.take_append_drop]
    constructor
    · rintro (hi | rfl | hi)
      · obtain ⟨v', hv', e⟩ := imgD_iff.1 (hmem.1 (.inl hi))
        exact imgD_iff.2 ⟨v', look_app_some _ hv', e⟩
      · exact imgD_iff.2 ⟨v, by show lookP (l ++ [(nm, v)]) nm = _; rw [look_app_none _ hno]; show (if nm = nm then some v else none) = _; rw [if_pos rfl], rfl⟩
      · obtain ⟨v', hv', e⟩ := imgD_iff.1 (hmem.1 (.inr hi))
        exact imgD_iff.2 ⟨v', look_app_some _ hv', e⟩
    · intro hi
      obtain ⟨v', hv', e⟩ := imgD_iff.1 hi
      cases hl : lookP l i.nm with
      | some v2 =>
        rw [look_app_some _ hl] at hv'
        cases hv'
        have := imgD_iff.2 ⟨_, hl, e⟩
        rcases hmem.2 this with h | h
        · exact .inl h
        · exact .inr (.inr h)
      | none =>
        rw [look_app_none _ hl] at hv'
        have hv' : (if nm = i.nm then some v else none) = some v' := hv'
        split at hv'
        · rename_i en
          cases hv'
          rw [← en] at e
          exact .inr (.inl e)
        · cases hv'
theorem img_at {l : AL} (h : (l.map (·.1)).Nodup) {i j : Nat} {x y : Img} (hi : (imgD l)[i]? = some x) (hj : (imgD l)[j]? = some y) (e : x.nm = y.nm) : i = j := by
  obtain ⟨hi1, hi2⟩ := List.getElem?_eq_some_iff.1 hi
  obtain ⟨hj1, hj2⟩ := List.getElem?_eq_some_iff.1 hj
  have hL := List.pairwise_iff_getElem.1 (imgD_lt h)
  rcases Nat.lt_trichotomy i j with h1 | h1 | h1
  · have := hL i j hi1 hj1 h1
    rw [hi2, hj2] at this
    have this : x.nm < y.nm := this
    rw [e] at this
    exact absurd this (List.lt_irrefl _)
  · exact h1
  · have := hL j i hj1 hi1 h1
    rw [hi2, hj2] at this
    have this : y.nm < x.nm := this
    rw [e] at this
    exact absurd this (List.lt_irrefl _)
theorem putA_keys (l : AL) (nm : List UInt8) (bl : List (Int × Bk)) : (putA l nm bl).map (·.1) = l.map (·.1) := by
  unfold putA
  rw [List.map_map]
  apply List.map_congr_left
  intro x _
  show (if x.1 = nm then (x.1, { x.2 with bl := bl }) else x).1 = x.1
  by_cases h : x.1 = nm
  · rw [if_pos h]
  · rw [if_neg h]
theorem imgD_put {l : AL} {nm : List UInt8} {v : VA} {bl : List (Int × Bk)} {k : Nat} (h : (l.map (·.1)).Nodup) (hv : lookP l nm = some v) (hk : (imgD l)[k]? = some ⟨nm, v.q, v.fr, blkS v.bl⟩) :
    (imgD l).set k ⟨nm, v.q, v.fr, blkS bl⟩ = imgD (putA l nm bl) := by
  have e1 : imgD (putA l nm bl) = (imgD l).map fun x => if x.nm = nm then ⟨nm, v.q, v.fr, blkS bl⟩ else x := by
    unfold imgD namesD
    rw [putA_keys, List.map_map]
    apply List.map_congr_left
    intro n hn
    show imgOf (putA l nm bl) n = if (imgOf l n).nm = nm then _ else imgOf l n
    rw [imgOf_nm]
    by_cases hnn : n = nm
    · rw [if_pos hnn, hnn]
      have : lookP (putA l nm bl) nm = some { v with bl := bl } := by rw [look_put, hv]; rfl
      rw [imgOf_some this]
    · rw [if_neg hnn]
      unfold imgOf
      rw [look_put_ne _ hnn]
  rw [e1]
  apply List.ext_getElem?
  intro j
  rw [List.getElem?_map, List.getElem?_set]
  by_cases hj : k = j
  · subst hj
    rw [if_pos rfl, if_pos (List.getElem?_eq_some_iff.1 hk).1, hk]
    show _ = some (if nm = nm then _ else _)
    rw [if_pos rfl]
  · rw [if_neg hj]
    cases hx : (imgD l)[j]? with
    | none => rfl
    | some x =>
      show some x = some (if x.nm = nm then _ else x)
      rw [if_neg (fun e => hj (img_at h hk hx e.symm))]
theorem imgD_del {l : AL} {nm : List UInt8} {x : Img} {k : Nat} (h : (l.map (·.1)).Nodup) (hk : (imgD l)[k]? = some x) (hx : x.nm = nm) : (imgD l).take k ++ (imgD l).drop (k + 1) = imgD (delP l nm) := by
  have hL := imgD_lt h
  have hkl := (List.getElem?_eq_some_iff.1 hk).1
  rw [← List.eraseIdx_eq_take_drop_succ]
  refine img_ext (hL.sublist (List.eraseIdx_sublist _ _)) (imgD_lt (nodup_del h)) fun i => ?_
  have hmem : i ∈ (imgD l).eraseIdx k ↔ i ∈ imgD l ∧ i.nm ≠ nm := by
    rw [List.mem_eraseIdx_iff_getElem?]
    constructor
    · rintro ⟨j, hj, e⟩
      exact ⟨List.mem_of_getElem? e, fun en => hj (img_at h e hk (by rw [en, hx]))⟩
    · rintro ⟨hi, hne⟩
      obtain ⟨j, hj, e⟩ := List.mem_iff_getElem.1 hi
      have e2 : (imgD l)[j]? = some i := by rw [List.getElem?_eq_getElem hj, e]
      refine ⟨j, fun ejk => hne ?_, e2⟩
      rw [ejk, hk] at e2
      rw [← Option.some.inj e2, hx]
  rw [hmem, imgD_iff, imgD_iff, lookP_del]
  constructor
  · rintro ⟨⟨v, hv, e⟩, hne⟩
    exact ⟨v, by rw [if_neg hne]; exact hv, e⟩
  · rintro ⟨v, hv, e⟩
    split at hv
    · cases hv
    · rename_i hne
      exact ⟨⟨v, hv, e⟩, hne⟩
theorem find_none {l : AL} {nm : List UInt8} {z : Int} (hz : FindP (imgD l) nm z) (h : lookP l nm = none) : z = -1 := by
  rcases hz with ⟨h1, _⟩ | ⟨k, x, rfl, hx, hnm, _⟩
  · exact h1
  · obtain ⟨v, hv, _⟩ := imgD_iff.1 (List.mem_of_getElem? hx)
    rw [hnm, h] at hv; cases hv

end Go.Proofs.Ytkmciohghhffnaa.B
