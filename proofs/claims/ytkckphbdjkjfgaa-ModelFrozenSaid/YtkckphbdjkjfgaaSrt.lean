/-
  slices.Sorted(maps.Keys(m)), of maps with strings for keys.
-/
import Derived.Test.YtkckphbdjkjfgaaMod7
import Derived.Shelf.SlIter.Nil
import Derived.Shelf.SortM.Plain
import Derived.Shelf.SortM.SortNone
import Derived.Ground.GgzProg
import Derived.Ground.SlgmProg
namespace Go.Proofs
open Go.RowKit Go.Maps Go.Sort Go.Shelf
def Try.keysS_ren : Go.Shelf.Ren := ⟨fun | 7 => 28 | 10 => 42 | n => n, fun | 23 => 56 | 26 => 9 | 3 => 60 | 28 => 68 | 0 => 0 | 27 => 67 | 33 => 84 | 4 => 4 | n => n, fun | n => n⟩
theorem Try.keysS : Go.Proofs.SlLaysZ.n7 Try.prog Try.keysS_ren := {
  mixed := by kernel_rfl
  f7 := ⟨Try.f28.name, by decide, Try.func28.trans (congrArg some (by kernel_rfl))⟩
  f10 := ⟨Try.f42.name, by decide, Try.func42.trans (congrArg some (by kernel_rfl))⟩
  t0 := Try.underlying0
  a0 := Try.isAgg0
  z0 := Try.sizeOf0
  v0 := Try.zeroValue0
  t4 := Try.underlying4
  a4 := Try.isAgg4
  z4 := Try.sizeOf4
  v4 := Try.zeroValue4
  t23 := Try.underlying56
  a23 := Try.isAgg56
  z23 := Try.sizeOf56
  v23 := Try.zeroValue56
  t26 := Try.underlying9
  a26 := Try.isAgg9
  z26 := Try.sizeOf9
  v26 := Try.zeroValue9
  t27 := Try.underlying67
  a27 := Try.isAgg67
  z27 := Try.sizeOf67
  v27 := Try.zeroValue67
  t28 := Try.underlying68
  a28 := Try.isAgg68
  z28 := Try.sizeOf68
  v28 := Try.zeroValue68
  t33 := Try.underlying84
  a33 := Try.isAgg84
  z33 := Try.sizeOf84
  v33 := Try.zeroValue84 }
def Try.sortedS_ren : Go.Shelf.Ren := ⟨fun | 6 => 27 | 8 => 40 | 9 => 41 | 11 => 48 | 13 => 50 | 12 => 49 | 23 => 62 | 24 => 63 | 14 => 53 | 15 => 54 | 16 => 55 | 17 => 56 | 18 => 57 | 19 => 58 | 20 => 59 | 21 => 60 | 22 => 61 | 25 => 73 | 26 => 74 | 27 => 75 | 28 => 76 | 29 => 77 | 30 => 78 | 31 => 83 | n => n, fun | 26 => 9 | 28 => 68 | 24 => 32 | 0 => 0 | 3 => 3 | 37 => 91 | 48 => 108 | 50 => 79 | 4 => 4 | 40 => 100 | 39 => 99 | 45 => 105 | 5 => 5 | 9 => 9 | 51 => 116 | 55 => 120 | 57 => 124 | 58 => 125 | 33 => 84 | n => n, fun | n => n⟩
theorem Try.sortedS : Go.Proofs.SlLaysZ.n6 Try.prog Try.sortedS_ren := {
  mixed := by kernel_rfl
  f6 := ⟨Try.f27.name, by decide, Try.func27.trans (congrArg some (by kernel_rfl))⟩
  f8 := ⟨Try.f40.name, by decide, Try.func40.trans (congrArg some (by kernel_rfl))⟩
  f11 := ⟨Try.f48.name, by decide, Try.func48.trans (congrArg some (by kernel_rfl))⟩
  t0 := Try.underlying0
  a0 := Try.isAgg0
  z0 := Try.sizeOf0
  v0 := Try.zeroValue0
  t24 := Try.underlying32
  a24 := Try.isAgg32
  z24 := Try.sizeOf32
  v24 := Try.zeroValue32
  t26 := Try.underlying9
  a26 := Try.isAgg9
  z26 := Try.sizeOf9
  v26 := Try.zeroValue9
  t28 := Try.underlying68
  a28 := Try.isAgg68
  z28 := Try.sizeOf68
  v28 := Try.zeroValue68
  i26 := by kernel_rfl }
def Try.sortS_ren : Go.Shelf.Ren := ⟨fun | 6 => 41 | 8 => 50 | 9 => 49 | 19 => 62 | 20 => 63 | 21 => 53 | 22 => 54 | 23 => 55 | 24 => 56 | 25 => 57 | 26 => 58 | 27 => 59 | 28 => 60 | 29 => 61 | 36 => 73 | 31 => 74 | 32 => 75 | 37 => 76 | 38 => 77 | 39 => 78 | 41 => 83 | n => n, fun | 27 => 32 | 29 => 9 | 3 => 3 | 32 => 91 | 26 => 32 | 0 => 0 | 44 => 108 | 46 => 79 | 4 => 4 | 36 => 100 | 35 => 99 | 41 => 105 | 5 => 5 | 9 => 9 | 53 => 116 | 57 => 120 | 63 => 124 | 64 => 125 | n => n, fun | n => n⟩
theorem Try.sortS : Go.Proofs.SlLaysM.n6 Try.prog Try.sortS_ren := {
  mixed := by kernel_rfl
  f6 := ⟨Try.f41.name, by decide, Try.func41.trans (congrArg some (by kernel_rfl))⟩
  f8 := Try.func50.trans (congrArg some (by kernel_rfl))
  f9 := ⟨Try.f49.name, by decide, Try.func49.trans (congrArg some (by kernel_rfl))⟩
  f19 := Try.func62.trans (congrArg some (by kernel_rfl))
  f20 := Try.func63.trans (congrArg some (by kernel_rfl))
  f21 := ⟨Try.f53.name, by decide, Try.func53.trans (congrArg some (by kernel_rfl))⟩
  f22 := ⟨Try.f54.name, by decide, Try.func54.trans (congrArg some (by kernel_rfl))⟩
  f23 := ⟨Try.f55.name, by decide, Try.func55.trans (congrArg some (by kernel_rfl))⟩
  f24 := ⟨Try.f56.name, by decide, Try.func56.trans (congrArg some (by kernel_rfl))⟩
  f25 := ⟨Try.f57.name, by decide, Try.func57.trans (congrArg some (by kernel_rfl))⟩
  f26 := ⟨Try.f58.name, by decide, Try.func58.trans (congrArg some (by kernel_rfl))⟩
  f27 := ⟨Try.f59.name, by decide, Try.func59.trans (congrArg some (by kernel_rfl))⟩
  f28 := ⟨Try.f60.name, by decide, Try.func60.trans (congrArg some (by kernel_rfl))⟩
  f29 := ⟨Try.f61.name, by decide, Try.func61.trans (congrArg some (by kernel_rfl))⟩
  f31 := Try.func74.trans (congrArg some (by kernel_rfl))
  f32 := Try.func75.trans (congrArg some (by kernel_rfl))
  f36 := ⟨Try.f73.name, by decide, Try.func73.trans (congrArg some (by kernel_rfl))⟩
  f37 := ⟨Try.f76.name, by decide, Try.func76.trans (congrArg some (by kernel_rfl))⟩
  f38 := ⟨Try.f77.name, by decide, Try.func77.trans (congrArg some (by kernel_rfl))⟩
  f39 := ⟨Try.f78.name, by decide, Try.func78.trans (congrArg some (by kernel_rfl))⟩
  f41 := ⟨Try.f83.name, by decide, Try.func83.trans (congrArg some (by kernel_rfl))⟩
  t0 := Try.underlying0
  a0 := Try.isAgg0
  z0 := Try.sizeOf0
  v0 := Try.zeroValue0
  t3 := Try.underlying3
  a3 := Try.isAgg3
  z3 := Try.sizeOf3
  v3 := Try.zeroValue3
  t4 := Try.underlying4
  a4 := Try.isAgg4
  z4 := Try.sizeOf4
  v4 := Try.zeroValue4
  t5 := Try.underlying5
  a5 := Try.isAgg5
  z5 := Try.sizeOf5
  v5 := Try.zeroValue5
  t9 := Try.underlying9
  a9 := Try.isAgg9
  z9 := Try.sizeOf9
  v9 := Try.zeroValue9
  t26 := Try.underlying32
  a26 := Try.isAgg32
  z26 := Try.sizeOf32
  v26 := Try.zeroValue32
  t27 := Try.underlying32
  a27 := Try.isAgg32
  z27 := Try.sizeOf32
  v27 := Try.zeroValue32
  t29 := Try.underlying9
  a29 := Try.isAgg9
  z29 := Try.sizeOf9
  v29 := Try.zeroValue9
  t32 := Try.underlying91
  a32 := Try.isAgg91
  z32 := Try.sizeOf91
  v32 := Try.zeroValue91
  t35 := Try.underlying99
  a35 := Try.isAgg99
  z35 := Try.sizeOf99
  v35 := Try.zeroValue99
  t36 := Try.underlying100
  a36 := Try.isAgg100
  z36 := Try.sizeOf100
  v36 := Try.zeroValue100
  t41 := Try.underlying105
  a41 := Try.isAgg105
  z41 := Try.sizeOf105
  v41 := Try.zeroValue105
  t44 := Try.underlying108
  a44 := Try.isAgg108
  z44 := Try.sizeOf108
  v44 := Try.zeroValue108
  t46 := Try.underlying79
  a46 := Try.isAgg79
  z46 := Try.sizeOf79
  v46 := Try.zeroValue79
  t53 := Try.underlying116
  a53 := Try.isAgg116
  z53 := Try.sizeOf116
  v53 := Try.zeroValue116
  t57 := Try.underlying120
  a57 := Try.isAgg120
  z57 := Try.sizeOf120
  v57 := Try.zeroValue120
  t63 := Try.underlying124
  a63 := Try.isAgg124
  z63 := Try.sizeOf124
  v63 := Try.zeroValue124
  t64 := Try.underlying125
  a64 := Try.isAgg125
  z64 := Try.sizeOf125
  v64 := Try.zeroValue125 }
theorem Try.sortsS (m : Nat) : AnyZ.SortsIn Try.prog Try.sortedS_ren Fence.wide m :=
  ⟨fun blk off cap ss W hH hblk hsz => callsIn_wide.2 (AnyM.slices_Sort_string Try.sortS blk off cap ss W hH hblk hsz),
   fun p cap W => callsIn_wide.2 (AnyM.slices_Sort_string_none Try.sortS p cap W)⟩
end Go.Proofs
namespace Go.Proofs.Ytkckphbdjkjfgaa.B
open Go
set_option linter.unusedVariables false
set_option maxHeartbeats 2000000
set_option maxRecDepth 100000
attribute [local irreducible] W OpsW OpsQ retP
open Go.RowKit Go.Maps Go.WideElems
theorem Keep.ofBelow {w w' : World} (h : Below w.heap.size w w') : Keep All w w' := ⟨h.os, h.tape, h.output, h.size, fun k hk _ => h.block k hk⟩
def noR : Value → Option (DataW Unit × List MemPlace) := fun _ => some (.nil, [])
theorem rd_str {P : Program} {k : TypeId} (hk : P.underlying k = some .string) {x : MapEntry} {bs : List UInt8} (hx : x.key = strA bs) (hl : bs.length ≤ maxLen) : rd P k noR x = some (.string bs, .nil) := by
  have : keyOf P k x.key = some (.string bs) := by
    rw [hx]; unfold strA
    simp [keyOf, hk, mapKey]
    rw [baSize]; exact hl
  unfold rd; rw [this]; rfl
theorem own_str {P : Program} {k : TypeId} {w : World} {b : Nat} {l : List (List UInt8 × Value)} (hk : P.underlying k = some .string) (h : MapG strA w b l) (hl : ∀ x ∈ l, x.1.length ≤ maxLen) (hn : l.length ≤ maxLen) :
    ∃ nn D0, w.ownsMap P k noR b nn D0 ∧ Maps.size D0 = l.length ∧ (strKeys D0).Perm (l.map (·.1)) := by
  obtain ⟨es, cl, h1, h2, h3⟩ := h
  have hsz : es.size = l.length := by have := congrArg List.length h3; simpa using this
  have hkeys : ∀ x ∈ es.toList, ∃ bs, x.key = strA bs ∧ bs.length ≤ maxLen := fun x hx => by
    have : (x.key, x.val) ∈ l.map (fun x => (strA x.1, x.2)) := by rw [← h3]; exact List.mem_map.2 ⟨x, hx, rfl⟩
    obtain ⟨y, hy, he⟩ := List.mem_map.1 this
    exact ⟨y.1, (congrArg Prod.fst he).symm, hl y hy⟩
  refine ⟨es.size, _, ⟨es, cl, h1, ⟨by omega, h2, fun x hx => ?_⟩, Nat.le_refl _, rfl⟩, ?_, ?_⟩
  · obtain ⟨bs, e, hb⟩ := hkeys x hx
    exact ⟨_, rd_str hk e hb⟩
  · rw [size_eq, length_sorted]; simp [hsz]
  · refine ((Go.WideShapes.sorted_perm _).map _).trans (List.Perm.of_eq ?_)
    apply (List.map_inj_right (fun _ _ e => strA_inj e)).1
    rw [← ents_keys h3, List.map_map, List.map_map]
    apply List.map_congr_left
    intro x hx
    obtain ⟨bs, e, hb⟩ := hkeys x hx
    show strA (strOf (rg P k noR x).1) = x.key
    rw [rg_of (rd_str hk e hb), e]; rfl
def sortS (l : List (List UInt8)) : List (List UInt8) := l.mergeSort leB
theorem rowS {w w' : World} {base : Nat} {e : TypeId} {v : Value} {n : Nat} {xs : List (List UInt8)} (h : w'.ownsRow base e 1 v n (xs.map encStr)) : n = xs.length ∧ Sl w' v xs.length 1 (xs.map strA) ∧ InB (fun z => base ≤ z) v := by
  obtain ⟨h1, h2⟩ := h
  have hn : n = xs.length := by rw [List.length_map] at h1; omega
  refine ⟨hn, ?_, ?_⟩
  · rcases h2 with ⟨rfl, h3⟩ | ⟨g, cap, cur, rfl, hb, hg, r1, r2, r3, r4⟩
    · have : xs = [] := List.eq_nil_of_length_eq_zero (by omega)
      subst this; exact Sl.nil w' 1
    · refine ⟨some ⟨g, 0, none⟩, cap, by rw [hn], by omega, r2, by simp, (fun e => by cases e), fun x hx i u hu => ?_⟩
      cases hx
      refine ⟨rfl, ?_⟩
      have hB : Blk w' g cur.toList e := by unfold Blk; simpa using hg
      refine hB.cell ?_
      rw [Nat.zero_add]
      have hi := (List.getElem?_eq_some_iff.1 hu).1
      rw [List.length_map] at hi
      have : (cur.toList.take (n * 1))[i]? = some u := by rw [r4]; exact hu
      rw [List.getElem?_take] at this
      split at this
      · exact this
      · cases this
  · rcases h2 with ⟨rfl, h3⟩ | ⟨g, cap, cur, rfl, hb, hg, r1, r2, r3, r4⟩
    · exact InB.nil
    · intro z hz; cases hz; exact hb
theorem sl_keysS (w : World) (b : Nat) : Ret Try.prog 28 [.map (some b)].toArray w fun r w' => r = .func (.func 42) #[] #[.pointer (some ⟨w.heap.size, 0, none⟩)] ∧ w' = w.alloc (.cells #[.map (some b)] 56) := by
  refine ((callsIn_wide (n := 5)).1 (AnyZ.keys_in Try.keysS Fence.wide 5 trivial rfl (some b) w)).mono ?_
  rintro e w' ⟨rfl, rfl⟩
  exact ⟨_, rfl, rfl, rfl⟩
theorem sl_sortedS (w : World) (b : Nat) (l : List (List UInt8 × Value)) (h : MapG strA w b l) (hl : ∀ x ∈ l, x.1.length ≤ maxLen) (hn : l.length ≤ 1000000) : Ret Try.prog 27 [.func (.func 42) #[] #[.pointer (some ⟨w.heap.size, 0, none⟩)]].toArray (w.alloc (.cells #[.map (some b)] 56)) fun r w' => Sl w' r l.length 1 ((sortS (l.map (·.1))).map strA) ∧ InB (fun z => w.heap.size ≤ z) r ∧ Keep All w w' := by
  obtain ⟨nn, D0, hown, hD, hP⟩ := own_str (k := 9) Try.underlying9 h hl (by unfold maxLen; omega)
  have hbl := hown.lt
  have hseq : SeqGives Fence.wide 2 Try.prog 42 #[.pointer (some ⟨w.heap.size, 0, none⟩)] encStr (fun ss => ss.Perm (strKeys D0)) (Maps.size D0) (w.alloc (.cells #[.map (some b)] 56)) :=
    AnyZ.keys_gives (ρ := Try.keysS_ren) { Try.keysS with } Fence.wide _ trivial rfl (by omega) w.heap.size b nn D0 _ (by simp) (by simp) (by
      obtain ⟨es, clock, hb, Ft, hs, hD⟩ := hown
      exact ⟨es, clock, (Below.heap_alloc _ _ b hbl).trans hb, Ft, hs, hD⟩)
  have cS := AnyZ.sorted_in Try.sortedS Fence.wide 5 trivial trivial trivial trivial rfl (by omega) (Try.sortsS _) (enters_of Try.func41 (by kernel_rfl) rfl) 42 #[.pointer (some ⟨w.heap.size, 0, none⟩)] trivial (enters_of Try.func42 (by kernel_rfl) rfl) _ _ (by rw [hD]; unfold maxLen; omega) (by rw [hD]; omega) _ hseq
  refine ((callsIn_wide (n := 5)).1 cS).mono ?_
  rintro e w' ⟨v, ss, rfl, hS, hrow, hnil, hb⟩
  refine ⟨v, rfl, ?_⟩
  have hP2 := hS.trans hP
  have e1 : ss.mergeSort (fun x y => decide (x ≤ y)) = sortS (l.map (·.1)) := mergeSort_of_perm hP2
  rw [e1] at hrow
  obtain ⟨r1, r2, r3⟩ := rowS (w := w) hrow
  have e2 : (sortS (l.map (·.1))).length = l.length := by unfold sortS; rw [List.length_mergeSort, List.length_map]
  rw [e2] at r2
  have hsz := size_alloc w (.cells #[.map (some b)] 56)
  exact ⟨r2, r3.mono fun z hz => by omega, (Keep.alloc w _).trans (Keep.ofBelow hb)⟩
end Go.Proofs.Ytkckphbdjkjfgaa.B
