/-
  Blocks; bins on the disk: Finger, fits, root.
-/
import Derived.Test.YtigehkfdfecfoaaBin1
import Derived.Test.YtigehkfdfecfoaaRowsK
import Derived.Test.YtigehkfdfecfoaaBlob3
import Derived.Test.YtigehkfdfecfoaaMerk2
namespace Go.Proofs.Ytigehkfdfecfoaa.B
open Go
set_option linter.unusedVariables false
set_option maxHeartbeats 2000000
set_option maxRecDepth 100000
attribute [local irreducible] W OpsW OpsQ retP
abbrev Bk := { l : List UInt8 // l.length = 48 }
def Bk.zero : Bk := ⟨List.replicate 48 0, by simp⟩
def blkR (s : Bk) : List Value := s.val.map c8
theorem blkR_len (s : Bk) : (blkR s).length = 48 := by rw [blkR, List.length_map]; exact s.2
theorem blkR_one (s : Bk) : (blkR s).all one = true := all_c8 s.val
theorem blkR_inj {a b : Bk} : blkR a = blkR b ↔ a = b := ⟨fun h => Subtype.ext (c8_inj.1 h), fun h => by rw [h]⟩
theorem blkR_zero : blkR Bk.zero = List.replicate 48 (c8 0) := by unfold blkR Bk.zero; rw [List.map_replicate]
theorem okC_bk (s : Bk) : okC Try.prog 2 40 (blkR s) := okC_bytes rfl rfl rfl s.val s.2
theorem ti_bk : tinfo Try.prog 40 = some (some (.agg (List.replicate 48 (c8 0)).toArray), 48, 48) := by kernel_rfl
theorem ti_bss' : tinfo Try.prog 53 = some (some (.slice none 0 0), 1, 24) := by kernel_rfl
theorem By.bk {w : World} {b : Nat} {s : Bk} {e : TypeId} (h : Blk w b (blkR s) e) : By w (.slice (some ⟨b, 0, none⟩) 48 48) s.val := by
  have hl := s.2
  have := By.of_at (w := w) (b := b) (off := 0) (c := 48) (bs := s.val) (fun j u hj => by rw [Nat.zero_add]; exact h.cell hj) (by omega) (by unfold maxLen; omega)
  rwa [hl] at this
def fgB (s : Bk) : Dig := tagD 6 [s.val]
theorem bk_tag (s : Bk) : (tagB 6 [s.val]).length ≤ 1000000 := tag_1 6 (by rw [s.2]; decide)
theorem bn_Finger (w : World) (s : Bk) : Ret Try.prog 15 [.agg (blkR s).toArray].toArray w fun r w' => r = .agg (dgR (fgB s)).toArray ∧ Keep All w w' := by
  refine enter (fn := Try.f15) (n := 6) Try.func15 rfl rfl (by simp) ?_
  refine W_seq ?_
  refine W_region ?_
  refine o_box rfl rfl rfl ?_; intro w1 b1 e1 hB1 hk1 hs1
  have hB1 : Blk w1 b1 (blkR s) 40 := hB1
  refine o_alloc rfl rfl rfl ?_; intro w2 b2 e2 hB2 hk2 hs2
  refine ops_nil ?_
  refine W_seq ?_
  refine W_region ?_
  refine op_run (r_sliceA rfl rfl rfl) rfl ?_
  refine o_bs1 (v := Value.slice (some ⟨b1, 0, none⟩) 48 48) rfl rfl rfl rfl rfl rfl ?_; intro w3 b3 e3 hB3 hk3 hs3
  refine op_call rfl rfl rfl (sh_Tagged w3 _ 6 [s.val] (rowsB_one hB3 ((By.bk (hk2.blk' hB1 trivial)).k hk3)) (bk_tag s)) ?_; rintro v4 w4 ⟨rfl, hk4⟩
  refine o_storeA (cs := dgR (fgB s)) rfl rfl (by first | rfl | exact binV_one _ | exact dgR_one _ | exact refR_one _ | exact secR_one _ | exact all_c8 _) (by first | rfl | (rw [binV_len]; rfl) | (rw [dgR_len]; rfl) | (rw [refR_len]; rfl) | (rw [secR_len]; rfl) | (rw [List.length_map, tagF_len]; rfl)) (hk4.blk' (hk3.blk' hB2 trivial) trivial) (by exact Nat.le_of_eq (by simp [dgR_len])) rfl ?_; intro w5 hB5 hk5 hs5
  have hB5 : Blk w5 b2 (dgR (fgB s)) 29 := by
    have h := hB5
    rwa [splice_all (by simp [dgR_len])] at h
  refine ops_nil ?_
  refine W_ret ?_
  refine retA (dgR (fgB s)) rfl rfl rfl rfl (by first | rfl | (rw [binV_len]; rfl) | (rw [dgR_len]; rfl) | (rw [refR_len]; rfl) | (rw [secR_len]; rfl) | (rw [List.length_map, tagF_len]; rfl)) hB5.all ?_
  exact ⟨rfl, ((((hk1.trans hk2).trans hk3).trans hk4).new hk5 (by have := hk1.size; omega))⟩
theorem rf10_Finger (w : World) (s : Bk) : Ret Try.prog 14 [.agg (blkR s).toArray].toArray w fun r w' => r = .agg (dgR (fgB s)).toArray ∧ Keep All w w' := by
  refine enter (fn := Try.f14) (n := 6) Try.func14 rfl rfl (by simp) ?_
  refine W_seq ?_
  refine W_region ?_
  refine o_box rfl rfl rfl ?_; intro w1 b1 e1 hB1 hk1 hs1
  have hB1 : Blk w1 b1 (blkR s) 40 := hB1
  refine o_alloc rfl rfl rfl ?_; intro w2 b2 e2 hB2 hk2 hs2
  refine ops_nil ?_
  refine W_seq ?_
  refine W_region ?_
  refine op_run (r_sliceA rfl rfl rfl) rfl ?_
  refine o_bs1 (v := Value.slice (some ⟨b1, 0, none⟩) 48 48) rfl rfl rfl rfl rfl rfl ?_; intro w3 b3 e3 hB3 hk3 hs3
  refine op_call rfl rfl rfl (rf_Tagged w3 _ 6 [s.val] (rowsB_one hB3 ((By.bk (hk2.blk' hB1 trivial)).k hk3)) (bk_tag s)) ?_; rintro v4 w4 ⟨rfl, hk4⟩
  refine o_storeA (cs := dgR (fgB s)) rfl rfl (by first | rfl | exact binV_one _ | exact dgR_one _ | exact refR_one _ | exact secR_one _ | exact all_c8 _) (by first | rfl | (rw [binV_len]; rfl) | (rw [dgR_len]; rfl) | (rw [refR_len]; rfl) | (rw [secR_len]; rfl) | (rw [List.length_map, tagF_len]; rfl)) (hk4.blk' (hk3.blk' hB2 trivial) trivial) (by exact Nat.le_of_eq (by simp [dgR_len])) rfl ?_; intro w5 hB5 hk5 hs5
  have hB5 : Blk w5 b2 (dgR (fgB s)) 29 := by
    have h := hB5
    rwa [splice_all (by simp [dgR_len])] at h
  refine ops_nil ?_
  refine W_ret ?_
  refine retA (dgR (fgB s)) rfl rfl rfl rfl (by first | rfl | (rw [binV_len]; rfl) | (rw [dgR_len]; rfl) | (rw [refR_len]; rfl) | (rw [secR_len]; rfl) | (rw [List.length_map, tagF_len]; rfl)) hB5.all ?_
  exact ⟨rfl, ((((hk1.trans hk2).trans hk3).trans hk4).new hk5 (by have := hk1.size; omega))⟩
/-- Some sectors are there, or none beyond the end. -/
def fitsB (N : Nat) (at_ : Int) (k : Int) : Prop := 0 ≤ at_ ∧ at_ ≤ N ∧ k ≤ N - at_
instance (N : Nat) (at_ : Int) (k : Int) : Decidable (fitsB N at_ k) := inferInstanceAs (Decidable (_ ∧ _))
theorem bn_fits (w : World) (K : Nat → Prop) (b N n : Nat) (M : List Sec) (w' : World) (h : DV w K b N M n w') (at_ : Int) (k : Int) (ha : -2 ^ 63 ≤ at_) (ha2 : at_ < 2 ^ 63) :
    Ret Try.prog 35 [.pointer (some ⟨b, 0, none⟩), .int .i64 at_, .int .i64 k].toArray w' fun r w2 => r = .bool (decide (fitsB N at_ k)) ∧ w2 = w' := by
  have hN := h.bound.1
  refine enter (fn := Try.f35) (n := 23) Try.func35 rfl rfl (by simp) ?_
  refine W_seq ?_
  refine W_region ?_
  refine o_asc rfl ?_
  refine ops_nil ?_
  refine W_seq ?_
  refine W_region ?_
  refine o_mvt rfl ?_
  refine op_run (r_geq rfl rfl) rfl ?_
  refine o_mvt rfl ?_
  refine g_split rfl rfl rfl (fun g1 => ?_) (fun g1 => ?_)
  · refine o_mvt (g_yes rfl rfl rfl g1) ?_
    refine o_mvt (g_yes rfl rfl rfl g1) ?_
    refine op_call rfl rfl (g_yes rfl rfl rfl g1) (h.dlen) ?_; rintro v2 w2 ⟨rfl, rfl⟩
    refine op_run (r_leq rfl rfl) (g_yes rfl rfl rfl g1) ?_
    refine o_pkTt rfl g1 rfl ?_
    refine o_mvt rfl ?_
    refine g_split rfl rfl rfl (fun g3 => ?_) (fun g3 => ?_)
    · refine o_mvt (g_yes rfl rfl rfl g3) ?_
      refine o_mvt (g_yes rfl rfl rfl g3) ?_
      refine op_call rfl rfl (g_yes rfl rfl rfl g3) (h.dlen) ?_; rintro v4 w4 ⟨rfl, rfl⟩
      have k3 := of_decide_eq_true g3
      have k1 := of_decide_eq_true g1
      refine o_mvt (g_yes rfl rfl rfl g3) ?_
      refine op_run (r_sub rfl rfl) (g_yes rfl rfl rfl g3) ?_
      refine op_run (r_leq rfl rfl) (g_yes rfl rfl rfl g3) ?_
      refine o_pkTt rfl g3 rfl ?_
      refine o_ast rfl ?_
      refine ops_nil ?_
      refine W_ret ?_
      refine ret1 (.bool (decide (k ≤ IntKind.i64.wrap ((N : Int) - at_)))) rfl ?_ ?_; rfl
      refine ⟨congrArg Value.bool ?_, rfl⟩
      rw [wrap_i64 (by omega) (by omega), decide_eq_decide]
      unfold fitsB; omega
    · refine op_skip (g_no rfl rfl rfl g3) ?_
      refine op_skip (g_no rfl rfl rfl g3) ?_
      refine op_skip (g_no rfl rfl rfl g3) ?_
      refine op_skip (g_no rfl rfl rfl g3) ?_
      refine op_skip (g_no rfl rfl rfl g3) ?_
      refine op_skip (g_no rfl rfl rfl g3) ?_
      refine o_pkFc rfl g3 rfl ?_
      refine o_ast rfl ?_
      refine ops_nil ?_
      refine W_ret ?_
      refine ret1 (.bool false) rfl ?_ ?_; rfl
      exact ⟨congrArg Value.bool (decide_eq_false fun hh => of_decide_eq_false g3 hh.2.1).symm, rfl⟩
  · refine op_skip (g_no rfl rfl rfl g1) ?_
    refine op_skip (g_no rfl rfl rfl g1) ?_
    refine op_skip (g_no rfl rfl rfl g1) ?_
    refine op_skip (g_no rfl rfl rfl g1) ?_
    refine o_pkFc rfl g1 rfl ?_
    refine o_mvt rfl ?_
    refine op_skip (g_no rfl rfl rfl rfl) ?_
    refine op_skip (g_no rfl rfl rfl rfl) ?_
    refine op_skip (g_no rfl rfl rfl rfl) ?_
    refine op_skip (g_no rfl rfl rfl rfl) ?_
    refine op_skip (g_no rfl rfl rfl rfl) ?_
    refine op_skip (g_no rfl rfl rfl rfl) ?_
    refine o_pkFc rfl rfl rfl ?_
    refine o_ast rfl ?_
    refine ops_nil ?_
    refine W_ret ?_
    refine ret1 (.bool false) rfl ?_ ?_; rfl
    exact ⟨congrArg Value.bool (decide_eq_false fun hh => of_decide_eq_false g1 hh.1).symm, rfl⟩
/-- The root of blocks. -/
def rootB (L : List Bk) : Dig := rootD tagD (L.map (·.val))
def sideV (a : Option Addr) (i : Nat) : Value := match a with
  | some x => .slice (some ⟨x.block, x.off + i * 48, none⟩) 48 48
  | none => .slice none 0 0
theorem rowsK_sides {w w' : World} {a : Option Addr} {c : Nat} {L : List Bk} (hv : Sl w (.slice a L.length c) L.length 48 (rows blkR L)) (hk : Keep All w w') {u : Value} (hu : Own w' 53 1 u L.length ((List.range L.length).map (sideV a))) :
    SlR w' u 1 (RowB w') (L.map (·.val)) := by
  refine RowsV.slR (vks := (List.range L.length).map (sideV a)) ⟨by simp, by rw [List.length_map]; exact hu.sl, fun i v x h1 h2 => ?_⟩
  rw [List.getElem?_map] at h1 h2
  obtain ⟨j, hj, rfl⟩ := Option.map_eq_some_iff.1 h1
  obtain ⟨s, hs, rfl⟩ := Option.map_eq_some_iff.1 h2
  obtain ⟨hi, he⟩ := List.getElem?_eq_some_iff.1 hs
  rw [List.getElem?_range hi] at hj
  injection hj with hj; subst hj
  obtain ⟨b, o, rfl, hc⟩ := rows_at' (i := i) blkR_len hv hi (by decide)
  rw [he] at hc
  have hl := s.2
  have h := By.of_at (w := w') (b := b) (off := o + i * 48) (c := 48) (bs := s.val) (fun j u hj => by have h := hc j u hj; rw [Addr.add_lit] at h; exact hk.cell h trivial) (by omega) (by unfold maxLen; omega)
  rwa [hl] at h
theorem bn_root (w : World) (v : Value) (L : List Bk) (hv : Sl w v L.length 48 (rows blkR L)) (hl : L.length ≤ 65536) : Ret Try.prog 37 [v].toArray w fun r w' => r = .agg (dgR (rootB L)).toArray ∧ Keep All w w' := by
  obtain ⟨a0, c0, rfl, hc0, hcm0⟩ := hv.form
  refine enter (fn := Try.f37) (n := 20) Try.func37 rfl rfl (by simp) ?_
  refine W_seq ?_
  refine W_region ?_
  refine o_alloc rfl rfl rfl ?_; intro w1 b1 e1 hB1 hk1 hs1
  refine ops_nil ?_
  refine W_seq ?_
  refine W_region ?_
  refine o_asc rfl ?_
  refine ops_nil ?_
  refine W_seq ?_
  refine W_seq ?_
  refine W_region ?_
  refine o_mvt rfl ?_
  refine op_run (r_len rfl rfl rfl) rfl ?_
  refine o_mvc rfl ?_
  refine ops_nil ?_
  refine W_block ?_
  refine W_loop [3, 7] [3, 4, 7, 8, 9, 10, 11, 12, 13, 14, 15, 16, 17] (fun vs w' => ∃ (u : Value) (k : Nat), vs = [u, .int .i64 k] ∧ k ≤ L.length ∧ Own w' 53 1 u k ((List.range k).map (sideV a0)) ∧ Keep All w1 w' ∧ InB (fun z => w1.heap.size ≤ z) u) (fun vs _ => match vs with | [_, .int _ y] => L.length - y.toNat | _ => 0) ⟨.slice none 0 0, 0, rfl, Nat.zero_le _, own_nil _ _ _, Keep.refl _, InB.nil⟩ ?_
  rintro J2 vs w2 ⟨u, k, rfl, hk, hO, hkA, hin⟩ -
  refine W_seq ?_
  refine W_region ?_
  refine op_run (r_lss rfl rfl) rfl ?_
  refine ops_nil ?_
  refine W_seq ?_
  refine W_cond_p rfl (fun h3 => ?_) (fun h3 => ?_)
  · refine W_skip ?_
    refine W_seq ?_
    refine W_block ?_
    refine W_seq ?_
    refine W_region ?_
    refine o_mvt rfl ?_
    refine o_ast rfl ?_
    refine ops_nil ?_
    refine W_region ?_
    refine o_mvt rfl ?_
    refine o_mvt rfl ?_
    refine o_mvt rfl ?_
    have hkl : k < L.length := by omega
    obtain ⟨bp, op, rfl, hcell⟩ := rows_at' (i := k) blkR_len hv hkl (by decide)
    refine op_run (r_idxS rfl rfl rfl ti_bk (by omega) (by omega)) rfl ?_
    refine op_run (r_sliceA rfl rfl rfl) rfl ?_
    refine o_bs1 (v := Value.slice (some ⟨bp, op + k * 48, none⟩) 48 48) rfl rfl rfl rfl rfl rfl ?_; intro w5 b5 e5 hB5 hk5 hs5
    have hS5 : Sl w5 (.slice (some ⟨b5, 0, none⟩) 1 1) 1 1 [Value.slice (some ⟨bp, op + k * 48, none⟩) 48 48] := (Own.blk (n := 1) (sz := 1) hB5 rfl (by unfold maxLen; omega)).sl
    refine o_appS (v := u) rfl rfl hS5 rfl ti_bss' rfl rfl (hO.keep hk5 (fun _ _ => trivial)) rfl (by unfold maxLen; omega) (by omega) rfl ?_; intro v6 w6 hown6 hk6 hb6
    refine o_ast rfl ?_
    refine ops_nil ?_
    refine W_region ?_
    refine op_run (r_add rfl rfl) rfl ?_
    refine o_mvt rfl ?_
    refine ops_nil ?_
    have hinc := inc64' k (by omega)
    refine ⟨by (repeat (first | with_reducible exact offM_refl _ _ | refine offM_updc rfl ?_ | refine offM_upd rfl ?_ | refine offM_updo rfl ?_ | refine offM_updo_none ?_ | refine offM_head rfl rfl ?_)), ⟨v6, k + 1, congrArg (fun z : Int => [v6, Value.int .i64 z]) hinc, by omega, by rw [List.range_succ, List.map_append]; exact hown6, (hkA.trans hk5).own hk6 (fun z hz _ => hin z hz), fun z hz => ?_⟩, ?_⟩
    · rcases hb6 z hz with h | h
      · exact hin z h
      · have := hkA.size; have := hk5.size; omega
    · show L.length - (IntKind.i64.wrap ((k : Int) + 1)).toNat < L.length - (k : Int).toNat
      rw [hinc]; omega
  · refine W_exit ?_
    refine W_seq ?_
    refine W_region ?_
    refine o_mvt rfl ?_
    have hke : k = L.length := by omega
    subst hke
    refine op_call rfl rfl rfl (mk_Root L.length w2 u (L.map (·.val)) (by simp) (rowsK_sides hv (hk1.trans hkA) hO) (fun p hp => by obtain ⟨s, _, rfl⟩ := List.mem_map.1 hp; rw [s.2]; decide)) ?_; rintro v8 w8 ⟨rfl, hk8⟩
    refine o_storeA (cs := dgR (rootB L)) rfl rfl (by first | rfl | exact binV_one _ | exact dgR_one _ | exact refR_one _ | exact secR_one _ | exact all_c8 _) (by first | rfl | (rw [binV_len]; rfl) | (rw [dgR_len]; rfl) | (rw [refR_len]; rfl) | (rw [secR_len]; rfl) | (rw [List.length_map, tagF_len]; rfl)) (hk8.blk' (hkA.blk' hB1 trivial) trivial) (by exact Nat.le_of_eq (by simp [dgR_len])) rfl ?_; intro w9 hB9 hk9 hs9
    have hB9 : Blk w9 b1 (dgR (rootB L)) 29 := by
      have h := hB9
      rwa [splice_all (by simp [dgR_len])] at h
    refine ops_nil ?_
    refine W_ret ?_
    refine retA (dgR (rootB L)) rfl rfl rfl rfl (by first | rfl | (rw [binV_len]; rfl) | (rw [dgR_len]; rfl) | (rw [refR_len]; rfl) | (rw [secR_len]; rfl) | (rw [List.length_map, tagF_len]; rfl)) hB9.all ?_
    exact ⟨rfl, (((hk1.trans hkA).trans hk8).new hk9 (by omega))⟩
/-- A block's sector; a sector's block. -/
def padB (x : Bk) : Sec := padS x.val
def headB (s : Sec) : Bk := ⟨s.val.take 48, by have := s.2; rw [List.length_take]; omega⟩
theorem headB_pad (x : Bk) : headB (padB x) = x := by
  apply Subtype.ext
  unfold headB padB padS
  have := x.2
  simp only
  rw [List.take_of_length_le (l := x.val) (i := 64) (by omega), List.take_left' this]
theorem head_get {s : Sec} {j : Nat} {u : Value} (hj : (blkR (headB s))[j]? = some u) : (secR s)[j]? = some u := by
  have hjl := (List.getElem?_eq_some_iff.1 hj).1
  rw [blkR_len] at hjl
  have e : blkR (headB s) = (s.val.map c8).take 48 := by unfold blkR headB; rw [List.map_take]
  rw [e, List.getElem?_take, if_pos hjl] at hj
  exact hj
theorem bn_block (w : World) (K : Nat → Prop) (b N n : Nat) (M : List Sec) (w' : World) (h : DV w K b N M n w') (at_ : Int) (hn : n < 1000000) :
    Ret Try.prog 39 [.pointer (some ⟨b, 0, none⟩), .int .i64 at_].toArray w' fun r w2 => ∃ (s : Sec) (e : Int), r = .tuple #[.agg (blkR (headB s)).toArray, .int .i64 e] ∧
      (((0 ≤ at_ ∧ at_ < N) ∧ e = 0 ∧ M[at_.toNat]? = some s) ∨ (¬ (0 ≤ at_ ∧ at_ < N) ∧ e = 2 ∧ s = Sec.zero)) ∧ Keep All w' w2 := by
  refine enter (fn := Try.f39) (n := 18) Try.func39 rfl rfl (by simp) ?_
  refine W_seq ?_
  refine W_region ?_
  refine o_alloc rfl rfl rfl ?_; intro w1 b1 e1 hB1 hk1 hs1
  refine o_asc rfl ?_
  refine ops_nil ?_
  refine W_seq ?_
  refine W_region ?_
  refine o_mvt rfl ?_
  refine o_mvt rfl ?_
  refine op_call rfl rfl rfl ((h.keep hk1).read at_ hn) ?_; rintro v2 w2 ⟨s, e, rfl, hs, hk2⟩
  refine o_mvt rfl ?_
  refine op_run (r_extract rfl rfl) rfl ?_
  refine op_run (r_extract rfl rfl) rfl ?_
  refine o_alloc rfl rfl rfl ?_; intro w3 b3 e3 hB3 hk3 hs3
  refine o_storeA (cs := secR s) rfl rfl (by first | rfl | exact binV_one _ | exact dgR_one _ | exact refR_one _ | exact secR_one _ | exact all_c8 _ | exact blkR_one _) (by first | rfl | (rw [binV_len]; rfl) | (rw [dgR_len]; rfl) | (rw [refR_len]; rfl) | (rw [secR_len]; rfl) | (rw [List.length_map, tagF_len]; rfl) | (rw [blkR_len]; rfl)) hB3 (by exact Nat.le_of_eq (by simp [secR_len])) rfl ?_; intro w4 hB4 hk4 hs4
  have hB4 : Blk w4 b3 (secR s) 37 := by
    have h := hB4
    rwa [splice_all (by simp [secR_len])] at h
  refine o_ast rfl ?_
  refine ops_nil ?_
  refine W_seq ?_
  refine W_region ?_
  refine op_run (r_sliceA_hi rfl rfl rfl rfl (by decide) (by decide)) rfl ?_
  refine op_run (r_toArr rfl rfl ((by decide))) rfl ?_
  refine op_run (r_loadA (blkR (headB s)) rfl rfl rfl (by first | rfl | (rw [binV_len]; rfl) | (rw [dgR_len]; rfl) | (rw [refR_len]; rfl) | (rw [secR_len]; rfl) | (rw [List.length_map, tagF_len]; rfl) | (rw [blkR_len]; rfl)) ((fun j u hj => by rw [Addr.add_lit, Nat.zero_add]; exact hB4.cell (head_get hj)))) rfl ?_
  refine o_mvt rfl ?_
  refine o_storeA (cs := blkR (headB s)) rfl rfl (by first | rfl | exact binV_one _ | exact dgR_one _ | exact refR_one _ | exact secR_one _ | exact all_c8 _ | exact blkR_one _) (by first | rfl | (rw [binV_len]; rfl) | (rw [dgR_len]; rfl) | (rw [refR_len]; rfl) | (rw [secR_len]; rfl) | (rw [List.length_map, tagF_len]; rfl) | (rw [blkR_len]; rfl)) (hk4.blk' (hk3.blk' (hk2.blk' hB1 trivial) trivial) (show b1 ≠ b3 by have := hk2.size; omega)) (by exact Nat.le_of_eq (by simp [blkR_len])) rfl ?_; intro w8 hB8 hk8 hs8
  have hB8 : Blk w8 b1 (blkR (headB s)) 40 := by
    have h := hB8
    rwa [splice_all (by simp [blkR_len])] at h
  refine o_ast rfl ?_
  refine ops_nil ?_
  refine W_ret ?_
  refine retAT ((blkR (headB s))) ((.int .i64 e)) rfl rfl rfl rfl rfl (by first | rfl | (rw [binV_len]; rfl) | (rw [dgR_len]; rfl) | (rw [refR_len]; rfl) | (rw [secR_len]; rfl) | (rw [List.length_map, tagF_len]; rfl) | (rw [blkR_len]; rfl)) (hB8.all) ?_
  exact ⟨s, e, rfl, hs, (((hk1.trans hk2).trans hk3).new hk4 (by have := hk1.size; have := hk2.size; omega)).new hk8 (by omega)⟩
end Go.Proofs.Ytigehkfdfecfoaa.B
