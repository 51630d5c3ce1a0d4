/-
  bytes.Compare; digests in order; index.less, as the library's sort wants it.
-/
import Derived.Test.YtkmciohghhffnaaMLib
import Derived.Test.YtkmciohghhffnaaKeyB
import Derived.Lib.Bytealg
import Derived.Lib.BytesEntry
import Derived.Shelf.SlSortCmp.NoneTotal
import Derived.Ground.SlsfProg
namespace Go.Proofs
open Go.RowKit Go.Maps Go.Sort Go.Shelf
def Try.sortFD_ren : Go.Shelf.Ren := ⟨fun | 6 => 73 | 15 => 90 | 14 => 89 | 28 => 105 | 29 => 106 | 20 => 97 | 21 => 98 | 22 => 99 | 23 => 100 | 24 => 101 | 25 => 102 | 26 => 103 | 27 => 104 | 46 => 126 | 47 => 127 | 48 => 128 | 49 => 129 | 50 => 130 | 57 => 140 | n => n, fun | 22 => 92 | 24 => 41 | 25 => 80 | 3 => 3 | 39 => 127 | 0 => 0 | 53 => 163 | 55 => 73 | 4 => 4 | 46 => 156 | 45 => 155 | 50 => 160 | 5 => 5 | 9 => 9 | 66 => 178 | 70 => 182 | 76 => 189 | 77 => 190 | n => n, fun | n => n⟩
theorem Try.sortFD : Go.Proofs.SlLaysF0.n6 Try.prog Try.sortFD_ren := {
  mixed := by kernel_rfl
  f6 := ⟨Try.f73.name, by decide, Try.func73.trans (congrArg some (by kernel_rfl))⟩
  f14 := ⟨Try.f89.name, by decide, Try.func89.trans (congrArg some (by kernel_rfl))⟩
  f15 := Try.func90.trans (congrArg some (by kernel_rfl))
  f20 := ⟨Try.f97.name, by decide, Try.func97.trans (congrArg some (by kernel_rfl))⟩
  f21 := ⟨Try.f98.name, by decide, Try.func98.trans (congrArg some (by kernel_rfl))⟩
  f22 := ⟨Try.f99.name, by decide, Try.func99.trans (congrArg some (by kernel_rfl))⟩
  f23 := ⟨Try.f100.name, by decide, Try.func100.trans (congrArg some (by kernel_rfl))⟩
  f24 := ⟨Try.f101.name, by decide, Try.func101.trans (congrArg some (by kernel_rfl))⟩
  f25 := ⟨Try.f102.name, by decide, Try.func102.trans (congrArg some (by kernel_rfl))⟩
  f26 := ⟨Try.f103.name, by decide, Try.func103.trans (congrArg some (by kernel_rfl))⟩
  f27 := ⟨Try.f104.name, by decide, Try.func104.trans (congrArg some (by kernel_rfl))⟩
  f28 := Try.func105.trans (congrArg some (by kernel_rfl))
  f29 := Try.func106.trans (congrArg some (by kernel_rfl))
  f46 := ⟨Try.f126.name, by decide, Try.func126.trans (congrArg some (by kernel_rfl))⟩
  f47 := Try.func127.trans (congrArg some (by kernel_rfl))
  f48 := Try.func128.trans (congrArg some (by kernel_rfl))
  f49 := ⟨Try.f129.name, by decide, Try.func129.trans (congrArg some (by kernel_rfl))⟩
  f50 := ⟨Try.f130.name, by decide, Try.func130.trans (congrArg some (by kernel_rfl))⟩
  f57 := ⟨Try.f140.name, by decide, Try.func140.trans (congrArg some (by kernel_rfl))⟩
  t0 := Try.underlying0
  a0 := Try.isAgg0
  z0 := Try.sizeOf0
  v0 := Try.zeroValue0
  t3 := Try.underlying3
  a3 := Try.isAgg3
  z3 := Try.sizeOf3
  v3 := Try.zeroValue3
  t4 := Try.underlying4
  a4 := Try.isAgg4
  z4 := Try.sizeOf4
  v4 := Try.zeroValue4
  t5 := Try.underlying5
  a5 := Try.isAgg5
  z5 := Try.sizeOf5
  v5 := Try.zeroValue5
  t9 := Try.underlying9
  a9 := Try.isAgg9
  z9 := Try.sizeOf9
  v9 := Try.zeroValue9
  t22 := Try.underlying92
  a22 := Try.isAgg92
  z22 := Try.sizeOf92
  v22 := Try.zeroValue92
  t25 := Try.underlying80
  a25 := Try.isAgg80
  z25 := Try.sizeOf80
  v25 := Try.zeroValue80
  t39 := Try.underlying127
  a39 := Try.isAgg127
  z39 := Try.sizeOf127
  v39 := Try.zeroValue127
  t45 := Try.underlying155
  a45 := Try.isAgg155
  z45 := Try.sizeOf155
  v45 := Try.zeroValue155
  t46 := Try.underlying156
  a46 := Try.isAgg156
  z46 := Try.sizeOf156
  v46 := Try.zeroValue156
  t50 := Try.underlying160
  a50 := Try.isAgg160
  z50 := Try.sizeOf160
  v50 := Try.zeroValue160
  t53 := Try.underlying163
  a53 := Try.isAgg163
  z53 := Try.sizeOf163
  v53 := Try.zeroValue163
  t55 := Try.underlying73
  a55 := Try.isAgg73
  z55 := Try.sizeOf73
  v55 := Try.zeroValue73
  t66 := Try.underlying178
  a66 := Try.isAgg178
  z66 := Try.sizeOf178
  v66 := Try.zeroValue178
  t70 := Try.underlying182
  a70 := Try.isAgg182
  z70 := Try.sizeOf182
  v70 := Try.zeroValue182
  t76 := Try.underlying189
  a76 := Try.isAgg189
  z76 := Try.sizeOf189
  v76 := Try.zeroValue189
  t77 := Try.underlying190
  a77 := Try.isAgg190
  z77 := Try.sizeOf190
  v77 := Try.zeroValue190 }
end Go.Proofs
namespace Go.Proofs.Ytkmciohghhffnaa.B
open Go
set_option linter.unusedVariables false
set_option maxHeartbeats 2000000
set_option maxRecDepth 100000
attribute [local irreducible] W OpsW OpsQ retP
open Go.RowKit Go.Lib Go.Sort Go.Shelf
theorem ints_bytes (bs : List UInt8) : Lib.bytesOf (bs.map fun b => ((b.toNat : Nat) : Int)) = bs := by
  unfold Lib.bytesOf
  rw [List.map_map]
  conv => rhs; rw [← List.map_id bs]
  apply List.map_congr_left
  intro b _
  simp
theorem run_bytesOf {P : Program} {w : World} {v : Value} {bs : List UInt8} (h : By w v bs) : (Extern.Bytes.bytesOf v).run P w = .ok ⟨bs.toArray⟩ w := by
  obtain ⟨a, c, rfl, _, _, _, h0, hc⟩ := h
  cases a with
  | none =>
    have h1 := h0 rfl
    obtain rfl : bs = [] := List.eq_nil_of_length_eq_zero (by omega)
    rfl
  | some a =>
    have h1 := run_loadBytesX (P := P) w (bs.map fun b => ((b.toNat : Nat) : Int)) a .empty (fun j x hj => by
      rw [List.getElem?_map] at hj
      cases hb : bs[j]? with
      | none => rw [hb] at hj; cases hj
      | some y =>
        rw [hb] at hj
        obtain rfl := Option.some.inj hj
        obtain ⟨h2, h3⟩ := hc a rfl j (c8 y) (by rw [List.getElem?_map, hb]; rfl)
        obtain ⟨ab, ao, asp⟩ := a
        have h2 : asp = none := h2
        subst h2
        rw [Addr.add_lit]; exact h3)
    rw [List.length_map, ints_bytes] at h1
    refine Eq.trans h1 ?_
    congr 1
    apply ByteArray.ext
    show (#[] : Array UInt8) ++ bs.toArray = bs.toArray
    simp
theorem run_compare {P : Program} {w : World} {u v : Value} {a b : List UInt8} (hu : By w u a) (hv : By w v b) : (Extern.BytealgCompare.compare #[u, v]).run P w = .ok (.int .i64 (compareBytes a b)) w := by
  change Sem.run P (do pure (goInt (Extern.BytealgCompare.cmp (← Extern.Bytes.bytesOf u) (← Extern.Bytes.bytesOf v)))) w = _
  simp only [Sem.run_bind, run_bytesOf hu, run_bytesOf hv, Sem.run_pure, Result.andThen]
  rw [cmp_eq]
  rfl
section
variable {P : Program} {F : Fr} {w w' : World} {dst : Option Tmp} {ty : TypeId} {pos : String} {after : Array Edge} {g : Option (Nat × Bool)}
/-- A call of a function that the model gives. -/
theorem r_ext {f : Operand} {fid : FuncId} {args : List Operand} {ts : Array TypeId} {v : Value} (hf : ev F f = .func (.func fid) #[] #[]) (hr : (callFunc fid (args.map (ev F)).toArray).run P w = .ok (.value v) w') : Run1 P F ⟨dst, .call ⟨.value f, args.toArray, ts⟩, ty, pos, after, g⟩ w v w' := by
  unfold Run1
  simp only [execOp, resolve, hf, Deferred.ofValue, invoke, List.map_toArray, bind, Sem.bind, pure]
  simpa using hr
end
theorem by_Compare (w : World) (u v : Value) (a b : List UInt8) (hu : By w u a) (hv : By w v b) : Ret Try.prog 68 [u, v].toArray w fun r w' => r = .int .i64 (compareBytes a b) ∧ w' = w := by
  refine enter (fn := Try.f68) (n := 8) Try.func68 rfl rfl (by simp) ?_
  refine W_seq ?_
  refine W_region ?_
  refine o_asc rfl ?_
  refine ops_nil ?_
  refine W_seq ?_
  refine W_region ?_
  refine o_mvt rfl ?_
  refine o_mvt rfl ?_
  refine op_run (r_ext rfl ((run_callFunc_extern Try.func87 (by kernel_rfl) (by kernel_rfl) (by kernel_rfl) (e := Extern.BytealgCompare.compare) (by kernel_rfl) _ _).trans (by show ((Extern.BytealgCompare.compare #[u, v]).run Try.prog w).andThen _ = _; rw [run_compare hu hv]; rfl))) rfl ?_
  refine o_ast rfl ?_
  refine ops_nil ?_
  refine W_ret ?_
  refine ret1 (.int .i64 (compareBytes a b)) rfl ?_ ?_; rfl
  exact ⟨rfl, rfl⟩
section
variable {f0 : Bool} {c0 : Ctx} {P : Program} {n : Nat} {ops : Array Oper} {F : Fr} {w : World} {K : Fr → World → Prop} {rest : List Oper} {dst : Option Tmp} {ty : TypeId} {pos : String} {after : Array Edge} {g : Option (Nat × Bool)}
theorem o_boxX {e : TypeId} {x : Operand} {v : Value} {b : Nat} {wn : World} (hx : ev F x = v) (hb : w.heap.size = b) (hw : w.alloc (.cells v.cells e) = wn) (hg : wantedF ops F ⟨dst, .box e x, ty, pos, after, g⟩ = true)
    (h : OpsW f0 c0 P n ops rest (updo n F dst (.pointer (some ⟨b, 0, none⟩))) wn K) : OpsW f0 c0 P n ops (⟨dst, .box e x, ty, pos, after, g⟩ :: rest) F w K := by
  subst hb
  subst hw
  refine op_run0 (v := .pointer (some ⟨w.heap.size, 0, none⟩)) (w' := w.alloc (.cells v.cells e)) ?_ hg h
  (try unfold Run1); simp [execOp, hx, Instr.box, newVar, newRow]
end
theorem blk_by {w : World} {b : Nat} {d : Dig} (h : Blk w b (dgR d) 41) : By w (.slice (some ⟨b, 0, none⟩) 32 32) d.val := by
  refine ⟨_, _, by rw [d.2], Nat.le_refl _, by unfold maxLen; omega, by rw [List.length_map, d.2], (fun e => by cases e), fun ad had j u hu => ?_⟩
  cases had
  refine ⟨rfl, h.cell ?_⟩
  rw [Nat.zero_add]; exact hu
theorem ix_less (w : World) (x y : Dig) : Ret Try.prog 38 [.agg (dgR x).toArray, .agg (dgR y).toArray].toArray w fun r w' => r = .int .i64 (compareBytes x.val y.val) ∧ w' = { ((w.alloc (.cells (dgR x).toArray 41)).alloc (.cells (dgR y).toArray 41)) with drawn := w.drawn + 1 } := by
  obtain ⟨w1, hw1⟩ : ∃ w1, w.alloc (.cells (dgR x).toArray 41) = w1 := ⟨_, rfl⟩
  obtain ⟨w2, hw2⟩ : ∃ w2, w1.alloc (.cells (dgR y).toArray 41) = w2 := ⟨_, rfl⟩
  have hx2 : Blk w2 w.heap.size (dgR x) 41 := by
    rw [← hw2]
    refine (Keep.alloc w1 _).blk' ?_ trivial
    rw [← hw1]; exact heap_alloc_new w _
  have hy2 : Blk w2 w1.heap.size (dgR y) 41 := by
    rw [← hw2]
    exact heap_alloc_new _ _
  refine enter (fn := Try.f38) (n := 8) Try.func38 rfl rfl (by simp) ?_
  refine W_seq ?_
  refine W_region ?_
  refine o_boxX rfl rfl hw1 rfl ?_
  refine o_boxX rfl rfl hw2 rfl ?_
  refine o_asc rfl ?_
  refine ops_nil ?_
  refine W_seq ?_
  refine W_quiet (fun w' => w' = { w2 with drawn := w2.drawn + 1 }) (by kernel_rfl) (by kernel_rfl) rfl ?_
  refine q_run (fun _ _ => (r_sliceA rfl rfl rfl)) rfl ?_
  refine q_run (fun _ _ => (r_sliceA rfl rfl rfl)) rfl ?_
  refine q_call rfl rfl rfl (fun _ hk => by subst hk; exact Calls.mono (by_Compare _ _ _ x.val y.val (blk_by ((Keep.drawn w2).blk' hx2 trivial)) (blk_by ((Keep.drawn w2).blk' hy2 trivial))) (by rintro e w' ⟨r, rfl, rfl, rfl⟩; exact ⟨_, rfl, rfl, rfl⟩)) ?_
  refine q_ast rfl ?_
  refine q_nil ?_; intro w5 hk5
  refine W_ret ?_
  refine ret1 (.int .i64 (compareBytes x.val y.val)) rfl ?_ ?_; rfl
  refine ⟨rfl, ?_⟩
  rw [hk5, ← hw2, ← hw1]; rfl
/-- Digests in order. -/
def cmpD (x y : Dig) : Int := compareBytes x.val y.val
theorem cmp_lt : ∀ (a b : List UInt8), compareBytes a b < 0 ↔ a < b
  | [], [] => by simp [compareBytes]
  | [], b :: m => by simp [compareBytes]
  | a :: l, [] => by simp [compareBytes]
  | a :: l, b :: m => by
    unfold compareBytes
    rw [List.cons_lt_cons_iff]
    by_cases h1 : a < b
    · rw [if_pos h1]; exact ⟨fun _ => .inl h1, fun _ => by decide⟩
    · rw [if_neg h1]
      by_cases h2 : b < a
      · rw [if_pos h2]
        refine ⟨fun h => absurd h (by decide), ?_⟩
        rintro (h | ⟨h, _⟩)
        · exact absurd h h1
        · subst h; exact absurd h2 h1
      · rw [if_neg h2, cmp_lt l m]
        have hab : a = b := UInt8.le_antisymm (UInt8.not_lt.1 h2) (UInt8.not_lt.1 h1)
        exact ⟨fun h => .inr ⟨hab, h⟩, fun h => h.elim (fun h => absurd h h1) (fun h => h.2)⟩
theorem ltD (x y : Dig) : ltOf cmpD x y = decide (x.val < y.val) := by
  unfold ltOf cmpD
  rw [decide_eq_decide]; exact cmp_lt _ _
theorem swoD : SWO (ltOf cmpD) where
  irrefl x := by rw [ltD]; exact decide_eq_false (List.lt_irrefl _)
  trans x y z h1 h2 := by
    rw [ltD] at *
    exact decide_eq_true (List.lt_trans (of_decide_eq_true h1) (of_decide_eq_true h2))
  ntrans x y z h1 h2 := by
    rw [ltD] at *
    have h1 := List.not_lt.1 (of_decide_eq_false h1)
    have h2 := List.not_lt.1 (of_decide_eq_false h2)
    exact decide_eq_false (List.not_lt.2 (List.le_trans h2 h1))
theorem totD (x y : Dig) (h1 : ltOf cmpD x y = false) (h2 : ltOf cmpD y x = false) : x = y := by
  rw [ltD] at *
  exact Subtype.ext (List.le_antisymm (List.not_lt.1 (of_decide_eq_false h2)) (List.not_lt.1 (of_decide_eq_false h1)))
instance : Inhabited Dig := ⟨Dig.zero⟩
def sortD (l : List Dig) : List Dig := l.mergeSort fun x y => !(ltOf cmpD) y x
theorem sortD_up {l : List Dig} (h : l.Pairwise fun a b => a.val < b.val) : sortD l = l := by
  unfold sortD
  refine List.mergeSort_of_pairwise (h.imp fun {a b} hab => ?_)
  rw [ltD]
  simp only [Bool.not_eq_true', decide_eq_false_iff_not]
  exact List.lt_asymm hab
theorem sortD_perm {l m : List Dig} (h : l.Perm m) (hm : m.Pairwise fun a b => a.val < b.val) : sortD l = m := by
  have tr : ∀ (a b c : Dig), (!(ltOf cmpD) b a) = true → (!(ltOf cmpD) c b) = true → (!(ltOf cmpD) c a) = true := fun a b c h1 h2 => by
    simp only [Bool.not_eq_true'] at *
    exact swoD.ntrans _ _ _ h2 h1
  have tt : ∀ (a b : Dig), ((!(ltOf cmpD) b a) || (!(ltOf cmpD) a b)) = true := fun a b => by
    cases h1 : ltOf cmpD b a with
    | false => rfl
    | true =>
      cases h2 : ltOf cmpD a b with
      | false => rfl
      | true => exact absurd (swoD.trans _ _ _ h1 h2) (by rw [swoD.irrefl]; decide)
  have hs := List.pairwise_mergeSort (le := fun x y => !(ltOf cmpD) y x) tr tt l
  have hp := (List.mergeSort_perm l (fun x y => !(ltOf cmpD) y x)).trans h
  refine List.Perm.eq_of_pairwise (le := fun x y => (!(ltOf cmpD) y x) = true) (fun a b _ _ h1 h2 => ?_) hs (hm.imp fun {a b} hab => ?_) hp
  · simp only [Bool.not_eq_true'] at h1 h2
    exact totD a b h2 h1
  · show (!(ltOf cmpD) b a) = true
    rw [ltD]
    simp only [Bool.not_eq_true', decide_eq_false_iff_not]
    exact List.lt_asymm hab
theorem cmpLaysD (blk off size : Nat) (w : World) : CmpLays Try.prog 38 #[] dgR 32 cmpD blk off size w := fun m os dk _ x y => by
  refine Calls.mono (ix_less _ x y) ?_
  rintro e w' ⟨r, rfl, rfl, rfl⟩
  exact ⟨rfl, 1, #[.cells (dgR x).toArray 41, .cells (dgR y).toArray 41], by rw [alloc_eq_grow, alloc_eq_grow, grow_grow]; rfl⟩
end Go.Proofs.Ytkmciohghhffnaa.B
