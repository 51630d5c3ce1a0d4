/-
  slices.Sorted(maps.Keys(m)), of maps with strings for keys.
-/
import Derived.Test.YtkmciohghhffnaaGreatVol1
import Derived.Shelf.SlIter.Nil
import Derived.Shelf.SortM.Plain
import Derived.Shelf.SortM.SortNone
import Derived.Ground.GgzProg
import Derived.Ground.SlgmProg
namespace Go.Proofs
open Go.RowKit Go.Maps Go.Sort Go.Shelf
shelf_lay_g SlLaysZ.n7 Ggz 7 at Tryz 30 as Tryz.keysS
shelf_lay_g SlLaysZ.n6 Ggz 6 at Tryz 29 as Tryz.sortedS
shelf_lay_g SlLaysM.n6 Slgm 6 at Tryz 52 as Tryz.sortS
theorem Tryz.sortsS (m : Nat) : AnyZ.SortsIn Tryz.prog Tryz.sortedS_ren Fence.wide m :=
  ⟨fun blk off cap ss W hH hblk hsz => callsIn_wide.2 (AnyM.slices_Sort_string Tryz.sortS blk off cap ss W hH hblk hsz),
   fun p cap W => callsIn_wide.2 (AnyM.slices_Sort_string_none Tryz.sortS p cap W)⟩
end Go.Proofs
namespace Go.Proofs.YtkmciohghhffnaaGreat.B
open Go
set_option linter.unusedVariables false
set_option maxHeartbeats 2000000
set_option maxRecDepth 100000
attribute [local irreducible] W OpsW OpsQ retP
open Go.RowKit Go.Maps Go.WideElems
theorem Keep.ofBelow {w w' : World} (h : Below w.heap.size w w') : Keep All w w' := ⟨h.os, h.tape, h.output, h.size, fun k hk _ => h.block k hk⟩
def noR : Value → Option (DataW Unit × List MemPlace) := fun _ => some (.nil, [])
theorem rd_str {P : Program} {k : TypeId} (hk : P.underlying k = some .string) {x : MapEntry} {bs : List UInt8} (hx : x.key = strA bs) (hl : bs.length ≤ maxLen) : rd P k noR x = some (.string bs, .nil) := by
  have : keyOf P k x.key = some (.string bs) := by
    rw [hx]; unfold strA
    simp [keyOf, hk, mapKey]
    rw [baSize]; exact hl
  unfold rd; rw [this]; rfl
theorem own_str {P : Program} {k : TypeId} {w : World} {b : Nat} {l : List (List UInt8 × Value)} (hk : P.underlying k = some .string) (h : MapG strA w b l) (hl : ∀ x ∈ l, x.1.length ≤ maxLen) (hn : l.length ≤ maxLen) :
    ∃ nn D0, w.ownsMap P k noR b nn D0 ∧ Maps.size D0 = l.length ∧ (strKeys D0).Perm (l.map (·.1)) := by
  obtain ⟨es, cl, h1, h2, h3⟩ := h
  have hsz : es.size = l.length := by have := congrArg List.length h3; simpa using this
  have hkeys : ∀ x ∈ es.toList, ∃ bs, x.key = strA bs ∧ bs.length ≤ maxLen := fun x hx => by
    have : (x.key, x.val) ∈ l.map (fun x => (strA x.1, x.2)) := by rw [← h3]; exact List.mem_map.2 ⟨x, hx, rfl⟩
    obtain ⟨y, hy, he⟩ := List.mem_map.1 this
    exact ⟨y.1, (congrArg Prod.fst he).symm, hl y hy⟩
  refine ⟨es.size, _, ⟨es, cl, h1, ⟨by omega, h2, fun x hx => ?_⟩, Nat.le_refl _, rfl⟩, ?_, ?_⟩
  · obtain ⟨bs, e, hb⟩ := hkeys x hx
    exact ⟨_, rd_str hk e hb⟩
  · rw [size_eq, length_sorted]; simp [hsz]
  · refine ((Go.WideShapes.sorted_perm _).map _).trans (List.Perm.of_eq ?_)
    apply (List.map_inj_right (fun _ _ e => strA_inj e)).1
    rw [← ents_keys h3, List.map_map, List.map_map]
    apply List.map_congr_left
    intro x hx
    obtain ⟨bs, e, hb⟩ := hkeys x hx
    show strA (strOf (rg P k noR x).1) = x.key
    rw [rg_of (rd_str hk e hb), e]; rfl
def sortS (l : List (List UInt8)) : List (List UInt8) := l.mergeSort leB
theorem rowS {w w' : World} {base : Nat} {e : TypeId} {v : Value} {n : Nat} {xs : List (List UInt8)} (h : w'.ownsRow base e 1 v n (xs.map encStr)) : n = xs.length ∧ Sl w' v xs.length 1 (xs.map strA) ∧ InB (fun z => base ≤ z) v := by
  obtain ⟨h1, h2⟩ := h
  have hn : n = xs.length := by rw [List.length_map] at h1; omega
  refine ⟨hn, ?_, ?_⟩
  · rcases h2 with ⟨rfl, h3⟩ | ⟨g, cap, cur, rfl, hb, hg, r1, r2, r3, r4⟩
    · have : xs = [] := List.eq_nil_of_length_eq_zero (by omega)
      subst this; exact Sl.nil w' 1
    · refine ⟨some ⟨g, 0, none⟩, cap, by rw [hn], by omega, r2, by simp, (fun e => by cases e), fun x hx i u hu => ?_⟩
      cases hx
      refine ⟨rfl, ?_⟩
      have hB : Blk w' g cur.toList e := by unfold Blk; simpa using hg
      refine hB.cell ?_
      rw [Nat.zero_add]
      have hi := (List.getElem?_eq_some_iff.1 hu).1
      rw [List.length_map] at hi
      have : (cur.toList.take (n * 1))[i]? = some u := by rw [r4]; exact hu
      rw [List.getElem?_take] at this
      split at this
      · exact this
      · cases this
  · rcases h2 with ⟨rfl, h3⟩ | ⟨g, cap, cur, rfl, hb, hg, r1, r2, r3, r4⟩
    · exact InB.nil
    · intro z hz; cases hz; exact hb
theorem sl_keysS (w : World) (b : Nat) : Ret Tryz.prog 30 [.map (some b)].toArray w fun r w' => r = .func (.func 53) #[] #[.pointer (some ⟨w.heap.size, 0, none⟩)] ∧ w' = w.alloc (.cells #[.map (some b)] 50) := by
  refine ((callsIn_wide (n := 5)).1 (AnyZ.keys_in Tryz.keysS Fence.wide 5 trivial rfl (some b) w)).mono ?_
  rintro e w' ⟨rfl, rfl⟩
  exact ⟨_, rfl, rfl, rfl⟩
theorem sl_sortedS (w : World) (b : Nat) (l : List (List UInt8 × Value)) (h : MapG strA w b l) (hl : ∀ x ∈ l, x.1.length ≤ maxLen) (hn : l.length ≤ 1000000) : Ret Tryz.prog 29 [.func (.func 53) #[] #[.pointer (some ⟨w.heap.size, 0, none⟩)]].toArray (w.alloc (.cells #[.map (some b)] 50)) fun r w' => Sl w' r l.length 1 ((sortS (l.map (·.1))).map strA) ∧ InB (fun z => w.heap.size ≤ z) r ∧ Keep All w w' := by
  obtain ⟨nn, D0, hown, hD, hP⟩ := own_str (k := 9) Tryz.underlying9 h hl (by unfold maxLen; omega)
  have hbl := hown.lt
  have hseq : SeqGives Fence.wide 2 Tryz.prog 53 #[.pointer (some ⟨w.heap.size, 0, none⟩)] encStr (fun ss => ss.Perm (strKeys D0)) (Maps.size D0) (w.alloc (.cells #[.map (some b)] 50)) :=
    AnyZ.keys_gives (ρ := Tryz.keysS_ren) { Tryz.keysS with } Fence.wide _ trivial rfl (by omega) w.heap.size b nn D0 _ (by simp) (by simp) (by
      obtain ⟨es, clock, hb, Ft, hs, hD⟩ := hown
      exact ⟨es, clock, (Below.heap_alloc _ _ b hbl).trans hb, Ft, hs, hD⟩)
  have cS := AnyZ.sorted_in Tryz.sortedS Fence.wide 5 trivial trivial trivial trivial rfl (by omega) (Tryz.sortsS _) (enters_of Tryz.func52 (by kernel_rfl) rfl) 53 #[.pointer (some ⟨w.heap.size, 0, none⟩)] trivial (enters_of Tryz.func53 (by kernel_rfl) rfl) _ _ (by rw [hD]; unfold maxLen; omega) (by rw [hD]; omega) _ hseq
  refine ((callsIn_wide (n := 5)).1 cS).mono ?_
  rintro e w' ⟨v, ss, rfl, hS, hrow, hnil, hb⟩
  refine ⟨v, rfl, ?_⟩
  have hP2 := hS.trans hP
  have e1 : ss.mergeSort (fun x y => decide (x ≤ y)) = sortS (l.map (·.1)) := mergeSort_of_perm hP2
  rw [e1] at hrow
  obtain ⟨r1, r2, r3⟩ := rowS (w := w) hrow
  have e2 : (sortS (l.map (·.1))).length = l.length := by unfold sortS; rw [List.length_mergeSort, List.length_map]
  rw [e2] at r2
  have hsz := size_alloc w (.cells #[.map (some b)] 50)
  exact ⟨r2, r3.mono fun z hz => by omega, (Keep.alloc w _).trans (Keep.ofBelow hb)⟩
end Go.Proofs.YtkmciohghhffnaaGreat.B
