/-
  slices.Sorted(maps.Keys(m)), of maps with strings for keys.
-/
import Derived.Test.YtkmciohghhffnaaVol1
import Derived.Shelf.SlIter.Nil
import Derived.Shelf.SortM.Plain
import Derived.Shelf.SortM.SortNone
import Derived.Ground.GgzProg
import Derived.Ground.SlgmProg
namespace Go.Proofs
open Go.RowKit Go.Maps Go.Sort Go.Shelf
def Try.keysS_ren : Go.Shelf.Ren := ⟨fun | 7 => 49 | 10 => 77 | n => n, fun | 23 => 100 | 26 => 9 | 3 => 110 | 28 => 106 | 0 => 0 | 27 => 105 | 33 => 117 | 4 => 4 | n => n, fun | n => n⟩
theorem Try.keysS : Go.Proofs.SlLaysZ.n7 Try.prog Try.keysS_ren := {
  mixed := by kernel_rfl
  f7 := ⟨Try.f49.name, by decide, Try.func49.trans (congrArg some (by kernel_rfl))⟩
  f10 := ⟨Try.f77.name, by decide, Try.func77.trans (congrArg some (by kernel_rfl))⟩
  t0 := Try.underlying0
  a0 := Try.isAgg0
  z0 := Try.sizeOf0
  v0 := Try.zeroValue0
  t4 := Try.underlying4
  a4 := Try.isAgg4
  z4 := Try.sizeOf4
  v4 := Try.zeroValue4
  t23 := Try.underlying100
  a23 := Try.isAgg100
  z23 := Try.sizeOf100
  v23 := Try.zeroValue100
  t26 := Try.underlying9
  a26 := Try.isAgg9
  z26 := Try.sizeOf9
  v26 := Try.zeroValue9
  t27 := Try.underlying105
  a27 := Try.isAgg105
  z27 := Try.sizeOf105
  v27 := Try.zeroValue105
  t28 := Try.underlying106
  a28 := Try.isAgg106
  z28 := Try.sizeOf106
  v28 := Try.zeroValue106
  t33 := Try.underlying117
  a33 := Try.isAgg117
  z33 := Try.sizeOf117
  v33 := Try.zeroValue117 }
def Try.sortedS_ren : Go.Shelf.Ren := ⟨fun | 6 => 48 | 8 => 75 | 9 => 76 | 11 => 91 | 13 => 90 | 12 => 92 | 23 => 105 | 24 => 106 | 14 => 107 | 15 => 108 | 16 => 109 | 17 => 110 | 18 => 111 | 19 => 112 | 20 => 113 | 21 => 114 | 22 => 115 | 25 => 131 | 26 => 127 | 27 => 128 | 28 => 132 | 29 => 133 | 30 => 134 | 31 => 141 | n => n, fun | 26 => 9 | 28 => 106 | 24 => 103 | 0 => 0 | 3 => 3 | 37 => 127 | 48 => 163 | 50 => 73 | 4 => 4 | 40 => 156 | 39 => 155 | 45 => 160 | 5 => 5 | 9 => 9 | 51 => 178 | 55 => 182 | 57 => 189 | 58 => 190 | 33 => 117 | n => n, fun | n => n⟩
theorem Try.sortedS : Go.Proofs.SlLaysZ.n6 Try.prog Try.sortedS_ren := {
  mixed := by kernel_rfl
  f6 := ⟨Try.f48.name, by decide, Try.func48.trans (congrArg some (by kernel_rfl))⟩
  f8 := ⟨Try.f75.name, by decide, Try.func75.trans (congrArg some (by kernel_rfl))⟩
  f11 := ⟨Try.f91.name, by decide, Try.func91.trans (congrArg some (by kernel_rfl))⟩
  t0 := Try.underlying0
  a0 := Try.isAgg0
  z0 := Try.sizeOf0
  v0 := Try.zeroValue0
  t24 := Try.underlying103
  a24 := Try.isAgg103
  z24 := Try.sizeOf103
  v24 := Try.zeroValue103
  t26 := Try.underlying9
  a26 := Try.isAgg9
  z26 := Try.sizeOf9
  v26 := Try.zeroValue9
  t28 := Try.underlying106
  a28 := Try.isAgg106
  z28 := Try.sizeOf106
  v28 := Try.zeroValue106
  i26 := by kernel_rfl }
def Try.sortS_ren : Go.Shelf.Ren := ⟨fun | 6 => 76 | 8 => 90 | 9 => 92 | 19 => 105 | 20 => 106 | 21 => 107 | 22 => 108 | 23 => 109 | 24 => 110 | 25 => 111 | 26 => 112 | 27 => 113 | 28 => 114 | 29 => 115 | 36 => 131 | 31 => 127 | 32 => 128 | 37 => 132 | 38 => 133 | 39 => 134 | 41 => 141 | n => n, fun | 27 => 103 | 29 => 9 | 3 => 3 | 32 => 127 | 26 => 103 | 0 => 0 | 44 => 163 | 46 => 73 | 4 => 4 | 36 => 156 | 35 => 155 | 41 => 160 | 5 => 5 | 9 => 9 | 53 => 178 | 57 => 182 | 63 => 189 | 64 => 190 | n => n, fun | n => n⟩
theorem Try.sortS : Go.Proofs.SlLaysM.n6 Try.prog Try.sortS_ren := {
  mixed := by kernel_rfl
  f6 := ⟨Try.f76.name, by decide, Try.func76.trans (congrArg some (by kernel_rfl))⟩
  f8 := Try.func90.trans (congrArg some (by kernel_rfl))
  f9 := ⟨Try.f92.name, by decide, Try.func92.trans (congrArg some (by kernel_rfl))⟩
  f19 := Try.func105.trans (congrArg some (by kernel_rfl))
  f20 := Try.func106.trans (congrArg some (by kernel_rfl))
  f21 := ⟨Try.f107.name, by decide, Try.func107.trans (congrArg some (by kernel_rfl))⟩
  f22 := ⟨Try.f108.name, by decide, Try.func108.trans (congrArg some (by kernel_rfl))⟩
  f23 := ⟨Try.f109.name, by decide, Try.func109.trans (congrArg some (by kernel_rfl))⟩
  f24 := ⟨Try.f110.name, by decide, Try.func110.trans (congrArg some (by kernel_rfl))⟩
  f25 := ⟨Try.f111.name, by decide, Try.func111.trans (congrArg some (by kernel_rfl))⟩
  f26 := ⟨Try.f112.name, by decide, Try.func112.trans (congrArg some (by kernel_rfl))⟩
  f27 := ⟨Try.f113.name, by decide, Try.func113.trans (congrArg some (by kernel_rfl))⟩
  f28 := ⟨Try.f114.name, by decide, Try.func114.trans (congrArg some (by kernel_rfl))⟩
  f29 := ⟨Try.f115.name, by decide, Try.func115.trans (congrArg some (by kernel_rfl))⟩
  f31 := Try.func127.trans (congrArg some (by kernel_rfl))
  f32 := Try.func128.trans (congrArg some (by kernel_rfl))
  f36 := ⟨Try.f131.name, by decide, Try.func131.trans (congrArg some (by kernel_rfl))⟩
  f37 := ⟨Try.f132.name, by decide, Try.func132.trans (congrArg some (by kernel_rfl))⟩
  f38 := ⟨Try.f133.name, by decide, Try.func133.trans (congrArg some (by kernel_rfl))⟩
  f39 := ⟨Try.f134.name, by decide, Try.func134.trans (congrArg some (by kernel_rfl))⟩
  f41 := ⟨Try.f141.name, by decide, Try.func141.trans (congrArg some (by kernel_rfl))⟩
  t0 := Try.underlying0
  a0 := Try.isAgg0
  z0 := Try.sizeOf0
  v0 := Try.zeroValue0
  t3 := Try.underlying3
  a3 := Try.isAgg3
  z3 := Try.sizeOf3
  v3 := Try.zeroValue3
  t4 := Try.underlying4
  a4 := Try.isAgg4
  z4 := Try.sizeOf4
  v4 := Try.zeroValue4
  t5 := Try.underlying5
  a5 := Try.isAgg5
  z5 := Try.sizeOf5
  v5 := Try.zeroValue5
  t9 := Try.underlying9
  a9 := Try.isAgg9
  z9 := Try.sizeOf9
  v9 := Try.zeroValue9
  t26 := Try.underlying103
  a26 := Try.isAgg103
  z26 := Try.sizeOf103
  v26 := Try.zeroValue103
  t27 := Try.underlying103
  a27 := Try.isAgg103
  z27 := Try.sizeOf103
  v27 := Try.zeroValue103
  t29 := Try.underlying9
  a29 := Try.isAgg9
  z29 := Try.sizeOf9
  v29 := Try.zeroValue9
  t32 := Try.underlying127
  a32 := Try.isAgg127
  z32 := Try.sizeOf127
  v32 := Try.zeroValue127
  t35 := Try.underlying155
  a35 := Try.isAgg155
  z35 := Try.sizeOf155
  v35 := Try.zeroValue155
  t36 := Try.underlying156
  a36 := Try.isAgg156
  z36 := Try.sizeOf156
  v36 := Try.zeroValue156
  t41 := Try.underlying160
  a41 := Try.isAgg160
  z41 := Try.sizeOf160
  v41 := Try.zeroValue160
  t44 := Try.underlying163
  a44 := Try.isAgg163
  z44 := Try.sizeOf163
  v44 := Try.zeroValue163
  t46 := Try.underlying73
  a46 := Try.isAgg73
  z46 := Try.sizeOf73
  v46 := Try.zeroValue73
  t53 := Try.underlying178
  a53 := Try.isAgg178
  z53 := Try.sizeOf178
  v53 := Try.zeroValue178
  t57 := Try.underlying182
  a57 := Try.isAgg182
  z57 := Try.sizeOf182
  v57 := Try.zeroValue182
  t63 := Try.underlying189
  a63 := Try.isAgg189
  z63 := Try.sizeOf189
  v63 := Try.zeroValue189
  t64 := Try.underlying190
  a64 := Try.isAgg190
  z64 := Try.sizeOf190
  v64 := Try.zeroValue190 }
theorem Try.sortsS (m : Nat) : AnyZ.SortsIn Try.prog Try.sortedS_ren Fence.wide m :=
  ⟨fun blk off cap ss W hH hblk hsz => callsIn_wide.2 (AnyM.slices_Sort_string Try.sortS blk off cap ss W hH hblk hsz),
   fun p cap W => callsIn_wide.2 (AnyM.slices_Sort_string_none Try.sortS p cap W)⟩
end Go.Proofs
namespace Go.Proofs.Ytkmciohghhffnaa.B
open Go
set_option linter.unusedVariables false
set_option maxHeartbeats 2000000
set_option maxRecDepth 100000
attribute [local irreducible] W OpsW OpsQ retP
open Go.RowKit Go.Maps Go.WideElems
theorem Keep.ofBelow {w w' : World} (h : Below w.heap.size w w') : Keep All w w' := ⟨h.os, h.tape, h.output, h.size, fun k hk _ => h.block k hk⟩
def noR : Value → Option (DataW Unit × List MemPlace) := fun _ => some (.nil, [])
theorem rd_str {P : Program} {k : TypeId} (hk : P.underlying k = some .string) {x : MapEntry} {bs : List UInt8} (hx : x.key = strA bs) (hl : bs.length ≤ maxLen) : rd P k noR x = some (.string bs, .nil) := by
  have : keyOf P k x.key = some (.string bs) := by
    rw [hx]; unfold strA
    simp [keyOf, hk, mapKey]
    rw [baSize]; exact hl
  unfold rd; rw [this]; rfl
theorem own_str {P : Program} {k : TypeId} {w : World} {b : Nat} {l : List (List UInt8 × Value)} (hk : P.underlying k = some .string) (h : MapG strA w b l) (hl : ∀ x ∈ l, x.1.length ≤ maxLen) (hn : l.length ≤ maxLen) :
    ∃ nn D0, w.ownsMap P k noR b nn D0 ∧ Maps.size D0 = l.length ∧ (strKeys D0).Perm (l.map (·.1)) := by
  obtain ⟨es, cl, h1, h2, h3⟩ := h
  have hsz : es.size = l.length := by have := congrArg List.length h3; simpa using this
  have hkeys : ∀ x ∈ es.toList, ∃ bs, x.key = strA bs ∧ bs.length ≤ maxLen := fun x hx => by
    have : (x.key, x.val) ∈ l.map (fun x => (strA x.1, x.2)) := by rw [← h3]; exact List.mem_map.2 ⟨x, hx, rfl⟩
    obtain ⟨y, hy, he⟩ := List.mem_map.1 this
    exact ⟨y.1, (congrArg Prod.fst he).symm, hl y hy⟩
  refine ⟨es.size, _, ⟨es, cl, h1, ⟨by omega, h2, fun x hx => ?_⟩, Nat.le_refl _, rfl⟩, ?_, ?_⟩
  · obtain ⟨bs, e, hb⟩ := hkeys x hx
    exact ⟨_, rd_str hk e hb⟩
  · rw [size_eq, length_sorted]; simp [hsz]
  · refine ((Go.WideShapes.sorted_perm _).map _).trans (List.Perm.of_eq ?_)
    apply (List.map_inj_right (fun _ _ e => strA_inj e)).1
    rw [← ents_keys h3, List.map_map, List.map_map]
    apply List.map_congr_left
    intro x hx
    obtain ⟨bs, e, hb⟩ := hkeys x hx
    show strA (strOf (rg P k noR x).1) = x.key
    rw [rg_of (rd_str hk e hb), e]; rfl
def sortS (l : List (List UInt8)) : List (List UInt8) := l.mergeSort leB
theorem rowS {w w' : World} {base : Nat} {e : TypeId} {v : Value} {n : Nat} {xs : List (List UInt8)} (h : w'.ownsRow base e 1 v n (xs.map encStr)) : n = xs.length ∧ Sl w' v xs.length 1 (xs.map strA) ∧ InB (fun z => base ≤ z) v := by
  obtain ⟨h1, h2⟩ := h
  have hn : n = xs.length := by rw [List.length_map] at h1; omega
  refine ⟨hn, ?_, ?_⟩
  · rcases h2 with ⟨rfl, h3⟩ | ⟨g, cap, cur, rfl, hb, hg, r1, r2, r3, r4⟩
    · have : xs = [] := List.eq_nil_of_length_eq_zero (by omega)
      subst this; exact Sl.nil w' 1
    · refine ⟨some ⟨g, 0, none⟩, cap, by rw [hn], by omega, r2, by simp, (fun e => by cases e), fun x hx i u hu => ?_⟩
      cases hx
      refine ⟨rfl, ?_⟩
      have hB : Blk w' g cur.toList e := by unfold Blk; simpa using hg
      refine hB.cell ?_
      rw [Nat.zero_add]
      have hi := (List.getElem?_eq_some_iff.1 hu).1
      rw [List.length_map] at hi
      have : (cur.toList.take (n * 1))[i]? = some u := by rw [r4]; exact hu
      rw [List.getElem?_take] at this
      split at this
      · exact this
      · cases this
  · rcases h2 with ⟨rfl, h3⟩ | ⟨g, cap, cur, rfl, hb, hg, r1, r2, r3, r4⟩
    · exact InB.nil
    · intro z hz; cases hz; exact hb
theorem sl_keysS (w : World) (b : Nat) : Ret Try.prog 49 [.map (some b)].toArray w fun r w' => r = .func (.func 77) #[] #[.pointer (some ⟨w.heap.size, 0, none⟩)] ∧ w' = w.alloc (.cells #[.map (some b)] 100) := by
  refine ((callsIn_wide (n := 5)).1 (AnyZ.keys_in Try.keysS Fence.wide 5 trivial rfl (some b) w)).mono ?_
  rintro e w' ⟨rfl, rfl⟩
  exact ⟨_, rfl, rfl, rfl⟩
theorem sl_sortedS (w : World) (b : Nat) (l : List (List UInt8 × Value)) (h : MapG strA w b l) (hl : ∀ x ∈ l, x.1.length ≤ maxLen) (hn : l.length ≤ 1000000) : Ret Try.prog 48 [.func (.func 77) #[] #[.pointer (some ⟨w.heap.size, 0, none⟩)]].toArray (w.alloc (.cells #[.map (some b)] 100)) fun r w' => Sl w' r l.length 1 ((sortS (l.map (·.1))).map strA) ∧ InB (fun z => w.heap.size ≤ z) r ∧ Keep All w w' := by
  obtain ⟨nn, D0, hown, hD, hP⟩ := own_str (k := 9) Try.underlying9 h hl (by unfold maxLen; omega)
  have hbl := hown.lt
  have hseq : SeqGives Fence.wide 2 Try.prog 77 #[.pointer (some ⟨w.heap.size, 0, none⟩)] encStr (fun ss => ss.Perm (strKeys D0)) (Maps.size D0) (w.alloc (.cells #[.map (some b)] 100)) :=
    AnyZ.keys_gives (ρ := Try.keysS_ren) { Try.keysS with } Fence.wide _ trivial rfl (by omega) w.heap.size b nn D0 _ (by simp) (by simp) (by
      obtain ⟨es, clock, hb, Ft, hs, hD⟩ := hown
      exact ⟨es, clock, (Below.heap_alloc _ _ b hbl).trans hb, Ft, hs, hD⟩)
  have cS := AnyZ.sorted_in Try.sortedS Fence.wide 5 trivial trivial trivial trivial rfl (by omega) (Try.sortsS _) (enters_of Try.func76 (by kernel_rfl) rfl) 77 #[.pointer (some ⟨w.heap.size, 0, none⟩)] trivial (enters_of Try.func77 (by kernel_rfl) rfl) _ _ (by rw [hD]; unfold maxLen; omega) (by rw [hD]; omega) _ hseq
  refine ((callsIn_wide (n := 5)).1 cS).mono ?_
  rintro e w' ⟨v, ss, rfl, hS, hrow, hnil, hb⟩
  refine ⟨v, rfl, ?_⟩
  have hP2 := hS.trans hP
  have e1 : ss.mergeSort (fun x y => decide (x ≤ y)) = sortS (l.map (·.1)) := mergeSort_of_perm hP2
  rw [e1] at hrow
  obtain ⟨r1, r2, r3⟩ := rowS (w := w) hrow
  have e2 : (sortS (l.map (·.1))).length = l.length := by unfold sortS; rw [List.length_mergeSort, List.length_map]
  rw [e2] at r2
  have hsz := size_alloc w (.cells #[.map (some b)] 100)
  exact ⟨r2, r3.mono fun z hz => by omega, (Keep.alloc w _).trans (Keep.ofBelow hb)⟩
end Go.Proofs.Ytkmciohghhffnaa.B
