/-
  slices.Sorted(maps.Keys(m)), of maps with ints for keys.
-/
import Derived.Test.YtkmciohghhffnaaVSrt
import Derived.Shelf.SlIterI.Nil
namespace Go.Proofs
open Go.RowKit Go.Maps Go.Sort Go.Shelf
def Try.keysI_ren : Go.Shelf.Ren := ⟨fun | 7 => 51 | 10 => 80 | n => n, fun | 23 => 108 | 26 => 3 | 3 => 41 | 28 => 114 | 0 => 0 | 27 => 113 | 33 => 139 | 4 => 4 | n => n, fun | n => n⟩
theorem Try.keysI : Go.Proofs.SlLaysZI.n7 Try.prog Try.keysI_ren := {
  mixed := by kernel_rfl
  f7 := ⟨Try.f51.name, by decide, Try.func51.trans (congrArg some (by kernel_rfl))⟩
  f10 := ⟨Try.f80.name, by decide, Try.func80.trans (congrArg some (by kernel_rfl))⟩
  t0 := Try.underlying0
  a0 := Try.isAgg0
  z0 := Try.sizeOf0
  v0 := Try.zeroValue0
  t4 := Try.underlying4
  a4 := Try.isAgg4
  z4 := Try.sizeOf4
  v4 := Try.zeroValue4
  t23 := Try.underlying108
  a23 := Try.isAgg108
  z23 := Try.sizeOf108
  v23 := Try.zeroValue108
  t26 := Try.underlying3
  a26 := Try.isAgg3
  z26 := Try.sizeOf3
  v26 := Try.zeroValue3
  t27 := Try.underlying113
  a27 := Try.isAgg113
  z27 := Try.sizeOf113
  v27 := Try.zeroValue113
  t28 := Try.underlying114
  a28 := Try.isAgg114
  z28 := Try.sizeOf114
  v28 := Try.zeroValue114
  t33 := Try.underlying139
  a33 := Try.isAgg139
  z33 := Try.sizeOf139
  v33 := Try.zeroValue139 }
def Try.sortedI_ren : Go.Shelf.Ren := ⟨fun | 6 => 50 | 8 => 78 | 9 => 79 | 11 => 93 | 13 => 90 | 12 => 94 | 23 => 105 | 24 => 106 | 14 => 116 | 15 => 117 | 16 => 118 | 17 => 119 | 18 => 120 | 19 => 121 | 20 => 122 | 21 => 123 | 22 => 124 | 25 => 135 | 26 => 127 | 27 => 128 | 28 => 136 | 29 => 137 | 30 => 138 | 31 => 142 | n => n, fun | 26 => 3 | 28 => 114 | 24 => 111 | 0 => 0 | 3 => 3 | 37 => 127 | 48 => 163 | 50 => 73 | 4 => 4 | 40 => 156 | 39 => 155 | 45 => 160 | 5 => 5 | 9 => 9 | 51 => 178 | 55 => 182 | 57 => 189 | 58 => 190 | 33 => 139 | n => n, fun | n => n⟩
theorem Try.sortedI : Go.Proofs.SlLaysZI.n6 Try.prog Try.sortedI_ren := {
  mixed := by kernel_rfl
  f6 := ⟨Try.f50.name, by decide, Try.func50.trans (congrArg some (by kernel_rfl))⟩
  f8 := ⟨Try.f78.name, by decide, Try.func78.trans (congrArg some (by kernel_rfl))⟩
  f11 := ⟨Try.f93.name, by decide, Try.func93.trans (congrArg some (by kernel_rfl))⟩
  t0 := Try.underlying0
  a0 := Try.isAgg0
  z0 := Try.sizeOf0
  v0 := Try.zeroValue0
  t24 := Try.underlying111
  a24 := Try.isAgg111
  z24 := Try.sizeOf111
  v24 := Try.zeroValue111
  t26 := Try.underlying3
  a26 := Try.isAgg3
  z26 := Try.sizeOf3
  v26 := Try.zeroValue3
  t28 := Try.underlying114
  a28 := Try.isAgg114
  z28 := Try.sizeOf114
  v28 := Try.zeroValue114
  i26 := by kernel_rfl }
def Try.sortI_ren : Go.Shelf.Ren := ⟨fun | 5 => 79 | 8 => 90 | 7 => 94 | 19 => 105 | 20 => 106 | 10 => 116 | 11 => 117 | 12 => 118 | 13 => 119 | 14 => 120 | 15 => 121 | 16 => 122 | 17 => 123 | 18 => 124 | 30 => 135 | 31 => 127 | 32 => 128 | 33 => 136 | 34 => 137 | 35 => 138 | 40 => 142 | n => n, fun | 23 => 111 | 25 => 3 | 3 => 3 | 32 => 127 | 22 => 111 | 0 => 0 | 44 => 163 | 46 => 73 | 4 => 4 | 36 => 156 | 35 => 155 | 41 => 160 | 5 => 5 | 9 => 9 | 53 => 178 | 57 => 182 | 63 => 189 | 64 => 190 | n => n, fun | n => n⟩
theorem Try.sortI : Go.Proofs.SlLaysM.n5 Try.prog Try.sortI_ren := {
  mixed := by kernel_rfl
  f5 := ⟨Try.f79.name, by decide, Try.func79.trans (congrArg some (by kernel_rfl))⟩
  f7 := ⟨Try.f94.name, by decide, Try.func94.trans (congrArg some (by kernel_rfl))⟩
  f8 := Try.func90.trans (congrArg some (by kernel_rfl))
  f10 := ⟨Try.f116.name, by decide, Try.func116.trans (congrArg some (by kernel_rfl))⟩
  f11 := ⟨Try.f117.name, by decide, Try.func117.trans (congrArg some (by kernel_rfl))⟩
  f12 := ⟨Try.f118.name, by decide, Try.func118.trans (congrArg some (by kernel_rfl))⟩
  f13 := ⟨Try.f119.name, by decide, Try.func119.trans (congrArg some (by kernel_rfl))⟩
  f14 := ⟨Try.f120.name, by decide, Try.func120.trans (congrArg some (by kernel_rfl))⟩
  f15 := ⟨Try.f121.name, by decide, Try.func121.trans (congrArg some (by kernel_rfl))⟩
  f16 := ⟨Try.f122.name, by decide, Try.func122.trans (congrArg some (by kernel_rfl))⟩
  f17 := ⟨Try.f123.name, by decide, Try.func123.trans (congrArg some (by kernel_rfl))⟩
  f18 := ⟨Try.f124.name, by decide, Try.func124.trans (congrArg some (by kernel_rfl))⟩
  f19 := Try.func105.trans (congrArg some (by kernel_rfl))
  f20 := Try.func106.trans (congrArg some (by kernel_rfl))
  f30 := ⟨Try.f135.name, by decide, Try.func135.trans (congrArg some (by kernel_rfl))⟩
  f31 := Try.func127.trans (congrArg some (by kernel_rfl))
  f32 := Try.func128.trans (congrArg some (by kernel_rfl))
  f33 := ⟨Try.f136.name, by decide, Try.func136.trans (congrArg some (by kernel_rfl))⟩
  f34 := ⟨Try.f137.name, by decide, Try.func137.trans (congrArg some (by kernel_rfl))⟩
  f35 := ⟨Try.f138.name, by decide, Try.func138.trans (congrArg some (by kernel_rfl))⟩
  f40 := ⟨Try.f142.name, by decide, Try.func142.trans (congrArg some (by kernel_rfl))⟩
  t0 := Try.underlying0
  a0 := Try.isAgg0
  z0 := Try.sizeOf0
  v0 := Try.zeroValue0
  t3 := Try.underlying3
  a3 := Try.isAgg3
  z3 := Try.sizeOf3
  v3 := Try.zeroValue3
  t4 := Try.underlying4
  a4 := Try.isAgg4
  z4 := Try.sizeOf4
  v4 := Try.zeroValue4
  t5 := Try.underlying5
  a5 := Try.isAgg5
  z5 := Try.sizeOf5
  v5 := Try.zeroValue5
  t9 := Try.underlying9
  a9 := Try.isAgg9
  z9 := Try.sizeOf9
  v9 := Try.zeroValue9
  t22 := Try.underlying111
  a22 := Try.isAgg111
  z22 := Try.sizeOf111
  v22 := Try.zeroValue111
  t23 := Try.underlying111
  a23 := Try.isAgg111
  z23 := Try.sizeOf111
  v23 := Try.zeroValue111
  t25 := Try.underlying3
  a25 := Try.isAgg3
  z25 := Try.sizeOf3
  v25 := Try.zeroValue3
  t32 := Try.underlying127
  a32 := Try.isAgg127
  z32 := Try.sizeOf127
  v32 := Try.zeroValue127
  t35 := Try.underlying155
  a35 := Try.isAgg155
  z35 := Try.sizeOf155
  v35 := Try.zeroValue155
  t36 := Try.underlying156
  a36 := Try.isAgg156
  z36 := Try.sizeOf156
  v36 := Try.zeroValue156
  t41 := Try.underlying160
  a41 := Try.isAgg160
  z41 := Try.sizeOf160
  v41 := Try.zeroValue160
  t44 := Try.underlying163
  a44 := Try.isAgg163
  z44 := Try.sizeOf163
  v44 := Try.zeroValue163
  t46 := Try.underlying73
  a46 := Try.isAgg73
  z46 := Try.sizeOf73
  v46 := Try.zeroValue73
  t53 := Try.underlying178
  a53 := Try.isAgg178
  z53 := Try.sizeOf178
  v53 := Try.zeroValue178
  t57 := Try.underlying182
  a57 := Try.isAgg182
  z57 := Try.sizeOf182
  v57 := Try.zeroValue182
  t63 := Try.underlying189
  a63 := Try.isAgg189
  z63 := Try.sizeOf189
  v63 := Try.zeroValue189
  t64 := Try.underlying190
  a64 := Try.isAgg190
  z64 := Try.sizeOf190
  v64 := Try.zeroValue190 }
theorem Try.sortsI (m : Nat) : AnyZI.SortsIn Try.prog Try.sortedI_ren Fence.wide m :=
  ⟨fun blk off cap ss W hH hblk hsz => callsIn_wide.2 (AnyM.slices_Sort_int Try.sortI blk off cap ss W hH hblk hsz),
   fun p cap W => callsIn_wide.2 (AnyM.slices_Sort_int_none Try.sortI p cap W)⟩
end Go.Proofs
namespace Go.Proofs.Ytkmciohghhffnaa.B
open Go
set_option linter.unusedVariables false
set_option maxHeartbeats 2000000
set_option maxRecDepth 100000
attribute [local irreducible] W OpsW OpsQ retP
open Go.RowKit Go.Maps Go.WideElems
theorem rd_int {P : Program} {k : TypeId} (hk : P.underlying k = some (.int .i64)) {x : MapEntry} {n : Int} (hx : x.key = intK n) (hl : 0 ≤ n ∧ n < 1048576) : rd P k noR x = some (.int .i64 n, .nil) := by
  have : keyOf P k x.key = some (.int .i64 n) := by
    rw [hx]; unfold intK
    simp [keyOf, hk, mapKey]
    have h1 : IntKind.i64.min = -9223372036854775808 := by decide
    have h2 : IntKind.i64.max = 9223372036854775807 := by decide
    simp [Lit.wf, h1, h2]
    omega
  unfold rd; rw [this]; rfl
theorem own_int {P : Program} {k : TypeId} {w : World} {b : Nat} {l : List (Int × Value)} (hk : P.underlying k = some (.int .i64)) (h : MapG intK w b l) (hl : ∀ x ∈ l, 0 ≤ x.1 ∧ x.1 < 1048576) (hn : l.length ≤ maxLen) :
    ∃ nn D0, w.ownsMap P k noR b nn D0 ∧ Maps.size D0 = l.length ∧ (intKeys D0).Perm (l.map (·.1)) := by
  obtain ⟨es, cl, h1, h2, h3⟩ := h
  have hsz : es.size = l.length := by have := congrArg List.length h3; simpa using this
  have hkeys : ∀ x ∈ es.toList, ∃ n, x.key = intK n ∧ 0 ≤ n ∧ n < 1048576 := fun x hx => by
    have : (x.key, x.val) ∈ l.map (fun x => (intK x.1, x.2)) := by rw [← h3]; exact List.mem_map.2 ⟨x, hx, rfl⟩
    obtain ⟨y, hy, he⟩ := List.mem_map.1 this
    exact ⟨y.1, (congrArg Prod.fst he).symm, hl y hy⟩
  refine ⟨es.size, _, ⟨es, cl, h1, ⟨by omega, h2, fun x hx => ?_⟩, Nat.le_refl _, rfl⟩, ?_, ?_⟩
  · obtain ⟨n, e, hb⟩ := hkeys x hx
    exact ⟨_, rd_int hk e hb⟩
  · rw [size_eq, length_sorted]; simp [hsz]
  · refine ((Go.WideShapes.sorted_perm _).map _).trans (List.Perm.of_eq ?_)
    apply (List.map_inj_right (f := intK) (fun _ _ e => by injection e)).1
    rw [← ents_keys h3, List.map_map, List.map_map]
    apply List.map_congr_left
    intro x hx
    obtain ⟨n, e, hb⟩ := hkeys x hx
    show intK (Go.intOf (rg P k noR x).1) = x.key
    rw [rg_of (rd_int hk e hb), e]; rfl
def leZ : Int → Int → Bool := fun x y => decide (x ≤ y)
def sortI (l : List Int) : List Int := l.mergeSort leZ
theorem sortI_perm {l l' : List Int} (h : l.Perm l') : l.mergeSort leZ = l'.mergeSort leZ := by
  have tr : ∀ a b c : Int, leZ a b = true → leZ b c = true → leZ a c = true := fun a b c h1 h2 => by simp only [leZ, decide_eq_true_eq] at *; omega
  have to : ∀ a b : Int, (leZ a b || leZ b a) = true := fun a b => by simp only [leZ, Bool.or_eq_true, decide_eq_true_eq]; omega
  refine List.Perm.eq_of_pairwise (le := fun a b => leZ a b = true) (fun a b _ _ h1 h2 => ?_) (List.pairwise_mergeSort tr to l) (List.pairwise_mergeSort tr to l') (((List.mergeSort_perm l leZ).trans h).trans (List.mergeSort_perm l' leZ).symm)
  simp only [leZ, decide_eq_true_eq] at h1 h2
  omega
theorem rowI {w' : World} {base : Nat} {e : TypeId} {v : Value} {n : Nat} {xs : List Int} (h : w'.ownsRow base e 1 v n (xs.map encZ)) : n = xs.length ∧ Sl w' v xs.length 1 (xs.map intK) ∧ InB (fun z => base ≤ z) v := by
  obtain ⟨h1, h2⟩ := h
  have hn : n = xs.length := by rw [List.length_map] at h1; omega
  refine ⟨hn, ?_, ?_⟩
  · rcases h2 with ⟨rfl, h3⟩ | ⟨g, cap, cur, rfl, hb, hg, r1, r2, r3, r4⟩
    · have : xs = [] := List.eq_nil_of_length_eq_zero (by omega)
      subst this; exact Sl.nil w' 1
    · refine ⟨some ⟨g, 0, none⟩, cap, by rw [hn], by omega, r2, by simp, (fun e => by cases e), fun x hx i u hu => ?_⟩
      cases hx
      refine ⟨rfl, ?_⟩
      have hB : Blk w' g cur.toList e := by unfold Blk; simpa using hg
      refine hB.cell ?_
      rw [Nat.zero_add]
      have : (cur.toList.take (n * 1))[i]? = some u := by rw [r4]; exact hu
      rw [List.getElem?_take] at this
      split at this
      · exact this
      · cases this
  · rcases h2 with ⟨rfl, h3⟩ | ⟨g, cap, cur, rfl, hb, hg, r1, r2, r3, r4⟩
    · exact InB.nil
    · intro z hz; cases hz; exact hb
theorem sl_keysI (w : World) (b : Nat) : Ret Try.prog 51 [.map (some b)].toArray w fun r w' => r = .func (.func 80) #[] #[.pointer (some ⟨w.heap.size, 0, none⟩)] ∧ w' = w.alloc (.cells #[.map (some b)] 108) := by
  refine ((callsIn_wide (n := 5)).1 (AnyZI.keys_in Try.keysI Fence.wide 5 trivial rfl (some b) w)).mono ?_
  rintro e w' ⟨rfl, rfl⟩
  exact ⟨_, rfl, rfl, rfl⟩
theorem sl_sortedI (w : World) (b : Nat) (l : List (Int × Value)) (h : MapG intK w b l) (hl : ∀ x ∈ l, 0 ≤ x.1 ∧ x.1 < 1048576) (hn : l.length ≤ 1000000) : Ret Try.prog 50 [.func (.func 80) #[] #[.pointer (some ⟨w.heap.size, 0, none⟩)]].toArray (w.alloc (.cells #[.map (some b)] 108)) fun r w' => Sl w' r l.length 1 ((sortI (l.map (·.1))).map intK) ∧ InB (fun z => w.heap.size ≤ z) r ∧ Keep All w w' := by
  obtain ⟨nn, D0, hown, hD, hP⟩ := own_int (k := 3) Try.underlying3 h hl (by unfold maxLen; omega)
  have hbl := hown.lt
  have hseq : SeqGives Fence.wide 2 Try.prog 80 #[.pointer (some ⟨w.heap.size, 0, none⟩)] encZ (fun ss => ss.Perm (intKeys D0)) (Maps.size D0) (w.alloc (.cells #[.map (some b)] 108)) :=
    AnyZI.keys_gives (ρ := Try.keysI_ren) { Try.keysI with } Fence.wide _ trivial rfl (by omega) w.heap.size b nn D0 _ (by simp) (by simp) (by
      obtain ⟨es, clock, hb, Ft, hs, hD⟩ := hown
      exact ⟨es, clock, (Below.heap_alloc _ _ b hbl).trans hb, Ft, hs, hD⟩)
  have cS := AnyZI.sorted_in Try.sortedI Fence.wide 5 trivial trivial trivial trivial rfl (by omega) (Try.sortsI _) (enters_of Try.func79 (by kernel_rfl) rfl) 80 #[.pointer (some ⟨w.heap.size, 0, none⟩)] trivial (enters_of Try.func80 (by kernel_rfl) rfl) _ _ (by rw [hD]; unfold maxLen; omega) (by rw [hD]; omega) _ hseq
  refine ((callsIn_wide (n := 5)).1 cS).mono ?_
  rintro e w' ⟨v, ss, rfl, hS, hrow, hnil, hb⟩
  refine ⟨v, rfl, ?_⟩
  have hP2 := hS.trans hP
  have e1 : ss.mergeSort (fun x y => decide (x ≤ y)) = sortI (l.map (·.1)) := sortI_perm hP2
  rw [e1] at hrow
  obtain ⟨r1, r2, r3⟩ := rowI hrow
  have e2 : (sortI (l.map (·.1))).length = l.length := by unfold sortI; rw [List.length_mergeSort, List.length_map]
  rw [e2] at r2
  have hsz := size_alloc w (.cells #[.map (some b)] 108)
  exact ⟨r2, r3.mono fun z hz => by omega, (Keep.alloc w _).trans (Keep.ofBelow hb)⟩
end Go.Proofs.Ytkmciohghhffnaa.B
