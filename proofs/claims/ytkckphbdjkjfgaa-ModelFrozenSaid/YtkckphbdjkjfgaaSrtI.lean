/-
  slices.Sorted(maps.Keys(m)), of maps with ints for keys.
-/
import Derived.Test.YtkckphbdjkjfgaaSrt
import Derived.Shelf.SlIterI.Nil
namespace Go.Proofs
open Go.RowKit Go.Maps Go.Sort Go.Shelf
def Try.keysI_ren : Go.Shelf.Ren := ⟨fun | 7 => 30 | 10 => 45 | n => n, fun | 23 => 61 | 26 => 3 | 3 => 24 | 28 => 73 | 0 => 0 | 27 => 72 | 33 => 45 | 4 => 4 | n => n, fun | n => n⟩
theorem Try.keysI : Go.Proofs.SlLaysZI.n7 Try.prog Try.keysI_ren := {
  mixed := by kernel_rfl
  f7 := ⟨Try.f30.name, by decide, Try.func30.trans (congrArg some (by kernel_rfl))⟩
  f10 := ⟨Try.f45.name, by decide, Try.func45.trans (congrArg some (by kernel_rfl))⟩
  t0 := Try.underlying0
  a0 := Try.isAgg0
  z0 := Try.sizeOf0
  v0 := Try.zeroValue0
  t4 := Try.underlying4
  a4 := Try.isAgg4
  z4 := Try.sizeOf4
  v4 := Try.zeroValue4
  t23 := Try.underlying61
  a23 := Try.isAgg61
  z23 := Try.sizeOf61
  v23 := Try.zeroValue61
  t26 := Try.underlying3
  a26 := Try.isAgg3
  z26 := Try.sizeOf3
  v26 := Try.zeroValue3
  t27 := Try.underlying72
  a27 := Try.isAgg72
  z27 := Try.sizeOf72
  v27 := Try.zeroValue72
  t28 := Try.underlying73
  a28 := Try.isAgg73
  z28 := Try.sizeOf73
  v28 := Try.zeroValue73
  t33 := Try.underlying45
  a33 := Try.isAgg45
  z33 := Try.sizeOf45
  v33 := Try.zeroValue45 }
def Try.sortedI_ren : Go.Shelf.Ren := ⟨fun | 6 => 29 | 8 => 43 | 9 => 44 | 11 => 51 | 13 => 50 | 12 => 52 | 23 => 62 | 24 => 63 | 14 => 64 | 15 => 65 | 16 => 66 | 17 => 67 | 18 => 68 | 19 => 69 | 20 => 70 | 21 => 71 | 22 => 72 | 25 => 79 | 26 => 74 | 27 => 75 | 28 => 80 | 29 => 81 | 30 => 82 | 31 => 84 | n => n, fun | 26 => 3 | 28 => 73 | 24 => 70 | 0 => 0 | 3 => 3 | 37 => 91 | 48 => 108 | 50 => 79 | 4 => 4 | 40 => 100 | 39 => 99 | 45 => 105 | 5 => 5 | 9 => 9 | 51 => 116 | 55 => 120 | 57 => 124 | 58 => 125 | 33 => 45 | n => n, fun | n => n⟩
theorem Try.sortedI : Go.Proofs.SlLaysZI.n6 Try.prog Try.sortedI_ren := {
  mixed := by kernel_rfl
  f6 := ⟨Try.f29.name, by decide, Try.func29.trans (congrArg some (by kernel_rfl))⟩
  f8 := ⟨Try.f43.name, by decide, Try.func43.trans (congrArg some (by kernel_rfl))⟩
  f11 := ⟨Try.f51.name, by decide, Try.func51.trans (congrArg some (by kernel_rfl))⟩
  t0 := Try.underlying0
  a0 := Try.isAgg0
  z0 := Try.sizeOf0
  v0 := Try.zeroValue0
  t24 := Try.underlying70
  a24 := Try.isAgg70
  z24 := Try.sizeOf70
  v24 := Try.zeroValue70
  t26 := Try.underlying3
  a26 := Try.isAgg3
  z26 := Try.sizeOf3
  v26 := Try.zeroValue3
  t28 := Try.underlying73
  a28 := Try.isAgg73
  z28 := Try.sizeOf73
  v28 := Try.zeroValue73
  i26 := by kernel_rfl }
def Try.sortI_ren : Go.Shelf.Ren := ⟨fun | 5 => 44 | 8 => 50 | 7 => 52 | 19 => 62 | 20 => 63 | 10 => 64 | 11 => 65 | 12 => 66 | 13 => 67 | 14 => 68 | 15 => 69 | 16 => 70 | 17 => 71 | 18 => 72 | 30 => 79 | 31 => 74 | 32 => 75 | 33 => 80 | 34 => 81 | 35 => 82 | 40 => 84 | n => n, fun | 23 => 70 | 25 => 3 | 3 => 3 | 32 => 91 | 22 => 70 | 0 => 0 | 44 => 108 | 46 => 79 | 4 => 4 | 36 => 100 | 35 => 99 | 41 => 105 | 5 => 5 | 9 => 9 | 53 => 116 | 57 => 120 | 63 => 124 | 64 => 125 | n => n, fun | n => n⟩
theorem Try.sortI : Go.Proofs.SlLaysM.n5 Try.prog Try.sortI_ren := {
  mixed := by kernel_rfl
  f5 := ⟨Try.f44.name, by decide, Try.func44.trans (congrArg some (by kernel_rfl))⟩
  f7 := ⟨Try.f52.name, by decide, Try.func52.trans (congrArg some (by kernel_rfl))⟩
  f8 := Try.func50.trans (congrArg some (by kernel_rfl))
  f10 := ⟨Try.f64.name, by decide, Try.func64.trans (congrArg some (by kernel_rfl))⟩
  f11 := ⟨Try.f65.name, by decide, Try.func65.trans (congrArg some (by kernel_rfl))⟩
  f12 := ⟨Try.f66.name, by decide, Try.func66.trans (congrArg some (by kernel_rfl))⟩
  f13 := ⟨Try.f67.name, by decide, Try.func67.trans (congrArg some (by kernel_rfl))⟩
  f14 := ⟨Try.f68.name, by decide, Try.func68.trans (congrArg some (by kernel_rfl))⟩
  f15 := ⟨Try.f69.name, by decide, Try.func69.trans (congrArg some (by kernel_rfl))⟩
  f16 := ⟨Try.f70.name, by decide, Try.func70.trans (congrArg some (by kernel_rfl))⟩
  f17 := ⟨Try.f71.name, by decide, Try.func71.trans (congrArg some (by kernel_rfl))⟩
  f18 := ⟨Try.f72.name, by decide, Try.func72.trans (congrArg some (by kernel_rfl))⟩
  f19 := Try.func62.trans (congrArg some (by kernel_rfl))
  f20 := Try.func63.trans (congrArg some (by kernel_rfl))
  f30 := ⟨Try.f79.name, by decide, Try.func79.trans (congrArg some (by kernel_rfl))⟩
  f31 := Try.func74.trans (congrArg some (by kernel_rfl))
  f32 := Try.func75.trans (congrArg some (by kernel_rfl))
  f33 := ⟨Try.f80.name, by decide, Try.func80.trans (congrArg some (by kernel_rfl))⟩
  f34 := ⟨Try.f81.name, by decide, Try.func81.trans (congrArg some (by kernel_rfl))⟩
  f35 := ⟨Try.f82.name, by decide, Try.func82.trans (congrArg some (by kernel_rfl))⟩
  f40 := ⟨Try.f84.name, by decide, Try.func84.trans (congrArg some (by kernel_rfl))⟩
  t0 := Try.underlying0
  a0 := Try.isAgg0
  z0 := Try.sizeOf0
  v0 := Try.zeroValue0
  t3 := Try.underlying3
  a3 := Try.isAgg3
  z3 := Try.sizeOf3
  v3 := Try.zeroValue3
  t4 := Try.underlying4
  a4 := Try.isAgg4
  z4 := Try.sizeOf4
  v4 := Try.zeroValue4
  t5 := Try.underlying5
  a5 := Try.isAgg5
  z5 := Try.sizeOf5
  v5 := Try.zeroValue5
  t9 := Try.underlying9
  a9 := Try.isAgg9
  z9 := Try.sizeOf9
  v9 := Try.zeroValue9
  t22 := Try.underlying70
  a22 := Try.isAgg70
  z22 := Try.sizeOf70
  v22 := Try.zeroValue70
  t23 := Try.underlying70
  a23 := Try.isAgg70
  z23 := Try.sizeOf70
  v23 := Try.zeroValue70
  t25 := Try.underlying3
  a25 := Try.isAgg3
  z25 := Try.sizeOf3
  v25 := Try.zeroValue3
  t32 := Try.underlying91
  a32 := Try.isAgg91
  z32 := Try.sizeOf91
  v32 := Try.zeroValue91
  t35 := Try.underlying99
  a35 := Try.isAgg99
  z35 := Try.sizeOf99
  v35 := Try.zeroValue99
  t36 := Try.underlying100
  a36 := Try.isAgg100
  z36 := Try.sizeOf100
  v36 := Try.zeroValue100
  t41 := Try.underlying105
  a41 := Try.isAgg105
  z41 := Try.sizeOf105
  v41 := Try.zeroValue105
  t44 := Try.underlying108
  a44 := Try.isAgg108
  z44 := Try.sizeOf108
  v44 := Try.zeroValue108
  t46 := Try.underlying79
  a46 := Try.isAgg79
  z46 := Try.sizeOf79
  v46 := Try.zeroValue79
  t53 := Try.underlying116
  a53 := Try.isAgg116
  z53 := Try.sizeOf116
  v53 := Try.zeroValue116
  t57 := Try.underlying120
  a57 := Try.isAgg120
  z57 := Try.sizeOf120
  v57 := Try.zeroValue120
  t63 := Try.underlying124
  a63 := Try.isAgg124
  z63 := Try.sizeOf124
  v63 := Try.zeroValue124
  t64 := Try.underlying125
  a64 := Try.isAgg125
  z64 := Try.sizeOf125
  v64 := Try.zeroValue125 }
theorem Try.sortsI (m : Nat) : AnyZI.SortsIn Try.prog Try.sortedI_ren Fence.wide m :=
  ⟨fun blk off cap ss W hH hblk hsz => callsIn_wide.2 (AnyM.slices_Sort_int Try.sortI blk off cap ss W hH hblk hsz),
   fun p cap W => callsIn_wide.2 (AnyM.slices_Sort_int_none Try.sortI p cap W)⟩
end Go.Proofs
namespace Go.Proofs.Ytkckphbdjkjfgaa.B
open Go
set_option linter.unusedVariables false
set_option maxHeartbeats 2000000
set_option maxRecDepth 100000
attribute [local irreducible] W OpsW OpsQ retP
open Go.RowKit Go.Maps Go.WideElems
theorem rd_int {P : Program} {k : TypeId} (hk : P.underlying k = some (.int .i64)) {x : MapEntry} {n : Int} (hx : x.key = intK n) (hl : 0 ≤ n ∧ n < 1048576) : rd P k noR x = some (.int .i64 n, .nil) := by
  have : keyOf P k x.key = some (.int .i64 n) := by
    rw [hx]; unfold intK
    simp [keyOf, hk, mapKey]
    have h1 : IntKind.i64.min = -9223372036854775808 := by decide
    have h2 : IntKind.i64.max = 9223372036854775807 := by decide
    simp [Lit.wf, h1, h2]
    omega
  unfold rd; rw [this]; rfl
theorem own_int {P : Program} {k : TypeId} {w : World} {b : Nat} {l : List (Int × Value)} (hk : P.underlying k = some (.int .i64)) (h : MapG intK w b l) (hl : ∀ x ∈ l, 0 ≤ x.1 ∧ x.1 < 1048576) (hn : l.length ≤ maxLen) :
    ∃ nn D0, w.ownsMap P k noR b nn D0 ∧ Maps.size D0 = l.length ∧ (intKeys D0).Perm (l.map (·.1)) := by
  obtain ⟨es, cl, h1, h2, h3⟩ := h
  have hsz : es.size = l.length := by have := congrArg List.length h3; simpa using this
  have hkeys : ∀ x ∈ es.toList, ∃ n, x.key = intK n ∧ 0 ≤ n ∧ n < 1048576 := fun x hx => by
    have : (x.key, x.val) ∈ l.map (fun x => (intK x.1, x.2)) := by rw [← h3]; exact List.mem_map.2 ⟨x, hx, rfl⟩
    obtain ⟨y, hy, he⟩ := List.mem_map.1 this
    exact ⟨y.1, (congrArg Prod.fst he).symm, hl y hy⟩
  refine ⟨es.size, _, ⟨es, cl, h1, ⟨by omega, h2, fun x hx => ?_⟩, Nat.le_refl _, rfl⟩, ?_, ?_⟩
  · obtain ⟨n, e, hb⟩ := hkeys x hx
    exact ⟨_, rd_int hk e hb⟩
  · rw [size_eq, length_sorted]; simp [hsz]
  · refine ((Go.WideShapes.sorted_perm _).map _).trans (List.Perm.of_eq ?_)
    apply (List.map_inj_right (f := intK) (fun _ _ e => by injection e)).1
    rw [← ents_keys h3, List.map_map, List.map_map]
    apply List.map_congr_left
    intro x hx
    obtain ⟨n, e, hb⟩ := hkeys x hx
    show intK (Go.intOf (rg P k noR x).1) = x.key
    rw [rg_of (rd_int hk e hb), e]; rfl
def leZ : Int → Int → Bool := fun x y => decide (x ≤ y)
def sortI (l : List Int) : List Int := l.mergeSort leZ
theorem sortI_perm {l l' : List Int} (h : l.Perm l') : l.mergeSort leZ = l'.mergeSort leZ := by
  have tr : ∀ a b c : Int, leZ a b = true → leZ b c = true → leZ a c = true := fun a b c h1 h2 => by simp only [leZ, decide_eq_true_eq] at *; omega
  have to : ∀ a b : Int, (leZ a b || leZ b a) = true := fun a b => by simp only [leZ, Bool.or_eq_true, decide_eq_true_eq]; omega
  refine List.Perm.eq_of_pairwise (le := fun a b => leZ a b = true) (fun a b _ _ h1 h2 => ?_) (List.pairwise_mergeSort tr to l) (List.pairwise_mergeSort tr to l') (((List.mergeSort_perm l leZ).trans h).trans (List.mergeSort_perm l' leZ).symm)
  simp only [leZ, decide_eq_true_eq] at h1 h2
  omega
theorem rowI {w' : World} {base : Nat} {e : TypeId} {v : Value} {n : Nat} {xs : List Int} (h : w'.ownsRow base e 1 v n (xs.map encZ)) : n = xs.length ∧ Sl w' v xs.length 1 (xs.map intK) ∧ InB (fun z => base ≤ z) v := by
  obtain ⟨h1, h2⟩ := h
  have hn : n = xs.length := by rw [List.length_map] at h1; omega
  refine ⟨hn, ?_, ?_⟩
  · rcases h2 with ⟨rfl, h3⟩ | ⟨g, cap, cur, rfl, hb, hg, r1, r2, r3, r4⟩
    · have : xs = [] := List.eq_nil_of_length_eq_zero (by omega)
      subst this; exact Sl.nil w' 1
    · refine ⟨some ⟨g, 0, none⟩, cap, by rw [hn], by omega, r2, by simp, (fun e => by cases e), fun x hx i u hu => ?_⟩
      cases hx
      refine ⟨rfl, ?_⟩
      have hB : Blk w' g cur.toList e := by unfold Blk; simpa using hg
      refine hB.cell ?_
      rw [Nat.zero_add]
      have : (cur.toList.take (n * 1))[i]? = some u := by rw [r4]; exact hu
      rw [List.getElem?_take] at this
      split at this
      · exact this
      · cases this
  · rcases h2 with ⟨rfl, h3⟩ | ⟨g, cap, cur, rfl, hb, hg, r1, r2, r3, r4⟩
    · exact InB.nil
    · intro z hz; cases hz; exact hb
theorem sl_keysI (w : World) (b : Nat) : Ret Try.prog 30 [.map (some b)].toArray w fun r w' => r = .func (.func 45) #[] #[.pointer (some ⟨w.heap.size, 0, none⟩)] ∧ w' = w.alloc (.cells #[.map (some b)] 61) := by
  refine ((callsIn_wide (n := 5)).1 (AnyZI.keys_in Try.keysI Fence.wide 5 trivial rfl (some b) w)).mono ?_
  rintro e w' ⟨rfl, rfl⟩
  exact ⟨_, rfl, rfl, rfl⟩
theorem sl_sortedI (w : World) (b : Nat) (l : List (Int × Value)) (h : MapG intK w b l) (hl : ∀ x ∈ l, 0 ≤ x.1 ∧ x.1 < 1048576) (hn : l.length ≤ 1000000) : Ret Try.prog 29 [.func (.func 45) #[] #[.pointer (some ⟨w.heap.size, 0, none⟩)]].toArray (w.alloc (.cells #[.map (some b)] 61)) fun r w' => Sl w' r l.length 1 ((sortI (l.map (·.1))).map intK) ∧ InB (fun z => w.heap.size ≤ z) r ∧ Keep All w w' := by
  obtain ⟨nn, D0, hown, hD, hP⟩ := own_int (k := 3) Try.underlying3 h hl (by unfold maxLen; omega)
  have hbl := hown.lt
  have hseq : SeqGives Fence.wide 2 Try.prog 45 #[.pointer (some ⟨w.heap.size, 0, none⟩)] encZ (fun ss => ss.Perm (intKeys D0)) (Maps.size D0) (w.alloc (.cells #[.map (some b)] 61)) :=
    AnyZI.keys_gives (ρ := Try.keysI_ren) { Try.keysI with } Fence.wide _ trivial rfl (by omega) w.heap.size b nn D0 _ (by simp) (by simp) (by
      obtain ⟨es, clock, hb, Ft, hs, hD⟩ := hown
      exact ⟨es, clock, (Below.heap_alloc _ _ b hbl).trans hb, Ft, hs, hD⟩)
  have cS := AnyZI.sorted_in Try.sortedI Fence.wide 5 trivial trivial trivial trivial rfl (by omega) (Try.sortsI _) (enters_of Try.func44 (by kernel_rfl) rfl) 45 #[.pointer (some ⟨w.heap.size, 0, none⟩)] trivial (enters_of Try.func45 (by kernel_rfl) rfl) _ _ (by rw [hD]; unfold maxLen; omega) (by rw [hD]; omega) _ hseq
  refine ((callsIn_wide (n := 5)).1 cS).mono ?_
  rintro e w' ⟨v, ss, rfl, hS, hrow, hnil, hb⟩
  refine ⟨v, rfl, ?_⟩
  have hP2 := hS.trans hP
  have e1 : ss.mergeSort (fun x y => decide (x ≤ y)) = sortI (l.map (·.1)) := sortI_perm hP2
  rw [e1] at hrow
  obtain ⟨r1, r2, r3⟩ := rowI hrow
  have e2 : (sortI (l.map (·.1))).length = l.length := by unfold sortI; rw [List.length_mergeSort, List.length_map]
  rw [e2] at r2
  have hsz := size_alloc w (.cells #[.map (some b)] 61)
  exact ⟨r2, r3.mono fun z hz => by omega, (Keep.alloc w _).trans (Keep.ofBelow hb)⟩
end Go.Proofs.Ytkckphbdjkjfgaa.B
