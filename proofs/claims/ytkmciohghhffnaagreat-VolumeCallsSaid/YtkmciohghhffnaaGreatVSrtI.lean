/-
  slices.Sorted(maps.Keys(m)), of maps with ints for keys.
-/
import Derived.Test.YtkmciohghhffnaaGreatVSrt
import Derived.Shelf.SlIterI.Nil
namespace Go.Proofs
open Go.RowKit Go.Maps Go.Sort Go.Shelf
shelf_lay_g SlLaysZI.n7 Ggz 7 at Tryz 32 as Tryz.keysI
shelf_lay_g SlLaysZI.n6 Ggz 6 at Tryz 31 as Tryz.sortedI
shelf_lay_g SlLaysM.n5 Slgm 5 at Tryz 55 as Tryz.sortI
theorem Tryz.sortsI (m : Nat) : AnyZI.SortsIn Tryz.prog Tryz.sortedI_ren Fence.wide m :=
  ⟨fun blk off cap ss W hH hblk hsz => callsIn_wide.2 (AnyM.slices_Sort_int Tryz.sortI blk off cap ss W hH hblk hsz),
   fun p cap W => callsIn_wide.2 (AnyM.slices_Sort_int_none Tryz.sortI p cap W)⟩
end Go.Proofs
namespace Go.Proofs.YtkmciohghhffnaaGreat.B
open Go
set_option linter.unusedVariables false
set_option maxHeartbeats 2000000
set_option maxRecDepth 100000
attribute [local irreducible] W OpsW OpsQ retP
open Go.RowKit Go.Maps Go.WideElems
theorem rd_int {P : Program} {k : TypeId} (hk : P.underlying k = some (.int .i64)) {x : MapEntry} {n : Int} (hx : x.key = intK n) (hl : 0 ≤ n ∧ n < 1048576) : rd P k noR x = some (.int .i64 n, .nil) := by
  have : keyOf P k x.key = some (.int .i64 n) := by
    rw [hx]; unfold intK
    simp [keyOf, hk, mapKey]
    have h1 : IntKind.i64.min = -9223372036854775808 := by decide
    have h2 : IntKind.i64.max = 9223372036854775807 := by decide
    simp [Lit.wf, h1, h2]
    omega
  unfold rd; rw [this]; rfl
theorem own_int {P : Program} {k : TypeId} {w : World} {b : Nat} {l : List (Int × Value)} (hk : P.underlying k = some (.int .i64)) (h : MapG intK w b l) (hl : ∀ x ∈ l, 0 ≤ x.1 ∧ x.1 < 1048576) (hn : l.length ≤ maxLen) :
    ∃ nn D0, w.ownsMap P k noR b nn D0 ∧ Maps.size D0 = l.length ∧ (intKeys D0).Perm (l.map (·.1)) := by
  obtain ⟨es, cl, h1, h2, h3⟩ := h
  have hsz : es.size = l.length := by have := congrArg List.length h3; simpa using this
  have hkeys : ∀ x ∈ es.toList, ∃ n, x.key = intK n ∧ 0 ≤ n ∧ n < 1048576 := fun x hx => by
    have : (x.key, x.val) ∈ l.map (fun x => (intK x.1, x.2)) := by rw [← h3]; exact List.mem_map.2 ⟨x, hx, rfl⟩
    obtain ⟨y, hy, he⟩ := List.mem_map.1 this
    exact ⟨y.1, (congrArg Prod.fst he).symm, hl y hy⟩
  refine ⟨es.size, _, ⟨es, cl, h1, ⟨by omega, h2, fun x hx => ?_⟩, Nat.le_refl _, rfl⟩, ?_, ?_⟩
  · obtain ⟨n, e, hb⟩ := hkeys x hx
    exact ⟨_, rd_int hk e hb⟩
  · rw [size_eq, length_sorted]; simp [hsz]
  · refine ((Go.WideShapes.sorted_perm _).map _).trans (List.Perm.of_eq ?_)
    apply (List.map_inj_right (f := intK) (fun _ _ e => by injection e)).1
    rw [← ents_keys h3, List.map_map, List.map_map]
    apply List.map_congr_left
    intro x hx
    obtain ⟨n, e, hb⟩ := hkeys x hx
    show intK (Go.intOf (rg P k noR x).1) = x.key
    rw [rg_of (rd_int hk e hb), e]; rfl
def leZ : Int → Int → Bool := fun x y => decide (x ≤ y)
def sortI (l : List Int) : List Int := l.mergeSort leZ
theorem sortI_perm {l l' : List Int} (h : l.Perm l') : l.mergeSort leZ = l'.mergeSort leZ := by
  have tr : ∀ a b c : Int, leZ a b = true → leZ b c = true → leZ a c = true := fun a b c h1 h2 => by simp only [leZ, decide_eq_true_eq] at *; omega
  have to : ∀ a b : Int, (leZ a b || leZ b a) = true := fun a b => by simp only [leZ, Bool.or_eq_true, decide_eq_true_eq]; omega
  refine List.Perm.eq_of_pairwise (le := fun a b => leZ a b = true) (fun a b _ _ h1 h2 => ?_) (List.pairwise_mergeSort tr to l) (List.pairwise_mergeSort tr to l') (((List.mergeSort_perm l leZ).trans h).trans (List.mergeSort_perm l' leZ).symm)
  simp only [leZ, decide_eq_true_eq] at h1 h2
  omega
theorem rowI {w' : World} {base : Nat} {e : TypeId} {v : Value} {n : Nat} {xs : List Int} (h : w'.ownsRow base e 1 v n (xs.map encZ)) : n = xs.length ∧ Sl w' v xs.length 1 (xs.map intK) ∧ InB (fun z => base ≤ z) v := by
  obtain ⟨h1, h2⟩ := h
  have hn : n = xs.length := by rw [List.length_map] at h1; omega
  refine ⟨hn, ?_, ?_⟩
  · rcases h2 with ⟨rfl, h3⟩ | ⟨g, cap, cur, rfl, hb, hg, r1, r2, r3, r4⟩
    · have : xs = [] := List.eq_nil_of_length_eq_zero (by omega)
      subst this; exact Sl.nil w' 1
    · refine ⟨some ⟨g, 0, none⟩, cap, by rw [hn], by omega, r2, by simp, (fun e => by cases e), fun x hx i u hu => ?_⟩
      cases hx
      refine ⟨rfl, ?_⟩
      have hB : Blk w' g cur.toList e := by unfold Blk; simpa using hg
      refine hB.cell ?_
      rw [Nat.zero_add]
      have : (cur.toList.take (n * 1))[i]? = some u := by rw [r4]; exact hu
      rw [List.getElem?_take] at this
      split at this
      · exact this
      · cases this
  · rcases h2 with ⟨rfl, h3⟩ | ⟨g, cap, cur, rfl, hb, hg, r1, r2, r3, r4⟩
    · exact InB.nil
    · intro z hz; cases hz; exact hb
theorem sl_keysI (w : World) (b : Nat) : Ret Tryz.prog 32 [.map (some b)].toArray w fun r w' => r = .func (.func 56) #[] #[.pointer (some ⟨w.heap.size, 0, none⟩)] ∧ w' = w.alloc (.cells #[.map (some b)] 64) := by
  refine ((callsIn_wide (n := 5)).1 (AnyZI.keys_in Tryz.keysI Fence.wide 5 trivial rfl (some b) w)).mono ?_
  rintro e w' ⟨rfl, rfl⟩
  exact ⟨_, rfl, rfl, rfl⟩
theorem sl_sortedI (w : World) (b : Nat) (l : List (Int × Value)) (h : MapG intK w b l) (hl : ∀ x ∈ l, 0 ≤ x.1 ∧ x.1 < 1048576) (hn : l.length ≤ 1000000) : Ret Tryz.prog 31 [.func (.func 56) #[] #[.pointer (some ⟨w.heap.size, 0, none⟩)]].toArray (w.alloc (.cells #[.map (some b)] 64)) fun r w' => Sl w' r l.length 1 ((sortI (l.map (·.1))).map intK) ∧ InB (fun z => w.heap.size ≤ z) r ∧ Keep All w w' := by
  obtain ⟨nn, D0, hown, hD, hP⟩ := own_int (k := 3) Tryz.underlying3 h hl (by unfold maxLen; omega)
  have hbl := hown.lt
  have hseq : SeqGives Fence.wide 2 Tryz.prog 56 #[.pointer (some ⟨w.heap.size, 0, none⟩)] encZ (fun ss => ss.Perm (intKeys D0)) (Maps.size D0) (w.alloc (.cells #[.map (some b)] 64)) :=
    AnyZI.keys_gives (ρ := Tryz.keysI_ren) { Tryz.keysI with } Fence.wide _ trivial rfl (by omega) w.heap.size b nn D0 _ (by simp) (by simp) (by
      obtain ⟨es, clock, hb, Ft, hs, hD⟩ := hown
      exact ⟨es, clock, (Below.heap_alloc _ _ b hbl).trans hb, Ft, hs, hD⟩)
  have cS := AnyZI.sorted_in Tryz.sortedI Fence.wide 5 trivial trivial trivial trivial rfl (by omega) (Tryz.sortsI _) (enters_of Tryz.func55 (by kernel_rfl) rfl) 56 #[.pointer (some ⟨w.heap.size, 0, none⟩)] trivial (enters_of Tryz.func56 (by kernel_rfl) rfl) _ _ (by rw [hD]; unfold maxLen; omega) (by rw [hD]; omega) _ hseq
  refine ((callsIn_wide (n := 5)).1 cS).mono ?_
  rintro e w' ⟨v, ss, rfl, hS, hrow, hnil, hb⟩
  refine ⟨v, rfl, ?_⟩
  have hP2 := hS.trans hP
  have e1 : ss.mergeSort (fun x y => decide (x ≤ y)) = sortI (l.map (·.1)) := sortI_perm hP2
  rw [e1] at hrow
  obtain ⟨r1, r2, r3⟩ := rowI hrow
  have e2 : (sortI (l.map (·.1))).length = l.length := by unfold sortI; rw [List.length_mergeSort, List.length_map]
  rw [e2] at r2
  have hsz := size_alloc w (.cells #[.map (some b)] 64)
  exact ⟨r2, r3.mono fun z hz => by omega, (Keep.alloc w _).trans (Keep.ofBelow hb)⟩
end Go.Proofs.YtkmciohghhffnaaGreat.B
