/-
  Bins as bytes: put, and taken, by the program and by the document.
-/
import Derived.Test.YtigehkfdfecfoaaDoorIn01
import Derived.Test.YtigehkfdfecfoaaDoorMTag
namespace Go.Proofs.YtigehkfdfecfoaaDoor.B
open Go
set_option linter.unusedVariables false
set_option maxHeartbeats 2000000
set_option maxRecDepth 100000
attribute [local irreducible] W OpsW OpsQ retP
def binV (b : Bn) : List Value := [.int .i64 b.number, .int .i64 b.at_, .int .i64 b.count] ++ dgR b.root
theorem binV_len (b : Bn) : (binV b).length = 35 := by unfold binV; rw [List.length_append, dgR_len]; rfl
theorem binV_one (b : Bn) : (binV b).all one = true := by unfold binV; rw [List.all_append, dgR_one]; rfl
theorem binV_zero : binV Bn.zero = [.int .i64 0, .int .i64 0, .int .i64 0] ++ List.replicate 32 (c8 0) := rfl
theorem binV_inj {a b : Bn} : binV a = binV b ↔ a = b := by
  constructor
  · intro h
    obtain ⟨a1, a2, a3, a4⟩ := a
    obtain ⟨b1, b2, b3, b4⟩ := b
    unfold binV at h
    simp only [List.cons_append, List.nil_append, List.cons.injEq, Value.int.injEq, true_and] at h
    obtain ⟨rfl, rfl, rfl, h⟩ := h
    rw [dgR_inj.1 h]
  · rintro rfl; rfl
theorem binV_dig (b : Bn) {j : Nat} {v : Value} (h : (dgR b.root)[j]? = some v) : (binV b)[3 + j]? = some v := by
  unfold binV; rw [List.getElem?_append_right (by simp)]; simpa using h
theorem binV_set0 (b : Bn) (z : Int) : (binV b).set 0 (.int .i64 z) = binV ⟨z, b.at_, b.count, b.root⟩ := rfl
theorem binV_set1 (b : Bn) (z : Int) : (binV b).set 1 (.int .i64 z) = binV ⟨b.number, z, b.count, b.root⟩ := rfl
theorem binV_set2 (b : Bn) (z : Int) : (binV b).set 2 (.int .i64 z) = binV ⟨b.number, b.at_, z, b.root⟩ := rfl
theorem binV_setD (b : Bn) (d : Dig) : splice (binV b) 3 (dgR d) = binV ⟨b.number, b.at_, b.count, d⟩ := by
  unfold splice binV
  rw [dgR_len, List.drop_eq_nil_of_le (by rw [List.length_append, dgR_len]; simp), List.append_nil]
  rfl
theorem okC_bin (b : Bn) : okC Tryd.prog 3 100 (binV b) := by
  show okC Tryd.prog (2 + 1) 100 (binV b)
  unfold okC
  rw [Tryd.underlying100]
  simp only
  refine ⟨by kernel_rfl, by rw [binV_len]; kernel_rfl, ?_⟩
  have c0 : Tryd.prog.cellsOf 28 = 32 := by kernel_rfl
  have c1 : Tryd.prog.cellsOf 3 = 1 := by kernel_rfl
  intro f hf
  simp only [List.mem_cons, List.not_mem_nil, or_false] at hf
  rcases hf with rfl | rfl | rfl | rfl
  · refine ⟨by kernel_rfl, ?_⟩
    simp only [c1]
    exact okC_int Tryd.underlying3 _
  · refine ⟨by kernel_rfl, ?_⟩
    simp only [c1]
    exact okC_int Tryd.underlying3 _
  · refine ⟨by kernel_rfl, ?_⟩
    simp only [c1]
    exact okC_int Tryd.underlying3 _
  · refine ⟨by kernel_rfl, ?_⟩
    simp only [c0]
    rw [show ((binV b).drop 3).take 32 = dgR b.root by show (dgR b.root).take 32 = _; exact List.take_of_length_le (Nat.le_of_eq (dgR_len _))]
    exact okC_dgR b.root
theorem fill_int0 {pl : List (Nat × Nat)} {zl : List Value} {z : Int} (hp : pl[0]? = some (0, 1)) (hz : 0 < zl.length) : fillV (fun i => pl[i]?) zl [(0, .int .i64 z)] = some (zl.set 0 (.int .i64 z)) := by
  have s1 : (Value.int .i64 z).cells.size = 1 := rfl
  have h1 : (Value.int .i64 z).cells.toList = [.int .i64 z] := rfl
  simp only [fillV, hp]
  rw [if_pos ⟨s1, by omega⟩, h1]
  unfold splice
  rw [List.set_eq_take_append_cons_drop, if_pos hz]
  simp
theorem encBn_len (b : Bn) : (encBn b).length ≤ 62 := by
  have h1 := encN_len10 (u64_lt b.number)
  have h2 := encN_len10 (u64_lt b.at_)
  have h3 := encN_len10 (u64_lt b.count)
  have h4 := b.root.2
  unfold encBn; simp only [List.length_append]; omega
/-- A bin's numbers. -/
def numsB (b : Bn) : List Int := [b.number, b.at_, b.count]
def encP (b : Bn) (k : Nat) : List UInt8 := ((numsB b).take k).flatMap fun z => encN (u64 z)
theorem encP_s {b : Bn} {k : Nat} {z : Int} (h : (numsB b)[k]? = some z) : encP b (k + 1) = encP b k ++ encN (u64 z) := by
  obtain ⟨h1, h2⟩ := List.getElem?_eq_some_iff.1 h
  unfold encP; rw [List.take_succ_eq_append_getElem h1, List.flatMap_append, h2]; simp
theorem encP_len (b : Bn) (k : Nat) : (encP b k).length ≤ 30 := by
  have h1 := encN_len10 (u64_lt b.number)
  have h2 := encN_len10 (u64_lt b.at_)
  have h3 := encN_len10 (u64_lt b.count)
  unfold encP numsB
  match k with
  | 0 => simp
  | 1 => simp; omega
  | 2 => simp; omega
  | k + 3 => simp; omega
theorem encP_3 (b : Bn) : encP b 3 ++ b.root.val = encBn b := by unfold encP numsB encBn; simp
/-- The parts of a bin that are read, one behind the other. -/
def b1R (bs : List UInt8) (bad : Bool) := numR 2147483647 bs bad
def b2R (bs : List UInt8) (bad : Bool) := numR 65535 (b1R bs bad).2.1 (b1R bs bad).2.2
def b3R (bs : List UInt8) (bad : Bool) := numR 65536 (b2R bs bad).2.1 (b2R bs bad).2.2
def b4R (bs : List UInt8) (bad : Bool) := digR (b3R bs bad).2.1 (b3R bs bad).2.2
theorem bnR_def (bs : List UInt8) (bad : Bool) : bnR bs bad = (if (b4R bs bad).2.2 = true then Bn.zero else ⟨(b1R bs bad).1, (b2R bs bad).1, (b3R bs bad).1, (b4R bs bad).1⟩, (b4R bs bad).2.1, (b4R bs bad).2.2) := rfl
theorem b1R_le (bs : List UInt8) (bad : Bool) : (b1R bs bad).1 ≤ 2147483647 := numR_le 2147483647 bs bad
theorem b2R_le (bs : List UInt8) (bad : Bool) : (b2R bs bad).1 ≤ 65535 := numR_le 65535 _ _
theorem b3R_le (bs : List UInt8) (bad : Bool) : (b3R bs bad).1 ≤ 65536 := numR_le 65536 _ _
theorem bn_Take (w : World) (b : Nat) (A : Nat → Prop) (bs : List UInt8) (bad : Bool) (hAb : ¬ A b) (hAl : ∀ k, A k → k < w.heap.size) (h : InC w b A bs bad) :
    Ret Tryd.prog 53 [.pointer (some ⟨b, 0, none⟩)].toArray w fun r w' => r = .agg (binV (bnR bs bad).1).toArray ∧ InC w' b A (bnR bs bad).2.1 (bnR bs bad).2.2 ∧ Keep (· ≠ b) w w' := by
  have hbl : b < w.heap.size := by obtain ⟨_, hB, _⟩ := h; exact hB.lt
  have l1 := b1R_le bs bad
  have l2 := b2R_le bs bad
  have l3 := b3R_le bs bad
  refine enter (fn := Tryd.f53) (n := 22) Tryd.func53 rfl rfl (by simp) ?_
  refine W_seq ?_
  refine W_region ?_
  refine o_alloc rfl rfl rfl ?_; intro w1 b1 e1 hB1 hk1 hs1
  have hB1 : Blk w1 b1 (binV Bn.zero) 100 := hB1
  have h1 : InC w1 b A bs bad := h.keep' hk1 trivial (fun _ _ _ => trivial)
  have hA1 : ∀ k, A k → k < b1 := fun k hk => by have := hAl k hk; omega
  refine ops_nil ?_
  refine W_seq ?_
  refine W_region ?_
  refine o_mvt rfl ?_
  refine op_call rfl rfl rfl (in_Number w1 b A bs bad 2147483647 hAb h1) ?_; rintro v2 w2 ⟨rfl, hI2, hk2⟩
  refine op_run ((r_conv rfl rfl rfl).val (congrArg (Value.int .i64) (conv_i64 (b1R bs bad).1 (by omega)))) rfl ?_
  refine o_mvt rfl ?_
  refine op_call rfl rfl rfl (in_Number w2 b A (b1R bs bad).2.1 (b1R bs bad).2.2 65535 hAb hI2) ?_; rintro v3 w3 ⟨rfl, hI3, hk3⟩
  have hI3 : InC w3 b A (b2R bs bad).2.1 (b2R bs bad).2.2 := hI3
  have hB3 := hk3.blk' (hk2.blk' hB1 (show b1 ≠ b by omega)) (show b1 ≠ b by omega)
  refine op_run ((r_conv rfl rfl rfl).val (congrArg (Value.int .i64) (conv_i64 (b2R bs bad).1 (by omega)))) rfl ?_
  refine op_run (r_fieldAddr rfl rfl rfl rfl rfl) rfl ?_
  refine o_store (v := .int .i64 ((b1R bs bad).1 : Int)) rfl rfl rfl rfl hB3 (by rw [binV_len]; decide) rfl ?_; intro w4 hB4 hk4 hs4
  have hB4 : Blk w4 b1 (binV ⟨(b1R bs bad).1, 0, 0, Dig.zero⟩) 100 := hB4
  refine op_run (r_fieldAddr rfl rfl rfl rfl rfl) rfl ?_
  refine o_store (v := .int .i64 ((b2R bs bad).1 : Int)) rfl rfl rfl rfl hB4 (by rw [binV_len]; decide) rfl ?_; intro w5 hB5 hk5 hs5
  have hB5 : Blk w5 b1 (binV ⟨(b1R bs bad).1, (b2R bs bad).1, 0, Dig.zero⟩) 100 := hB5
  have hI5 := (hI3.keep' hk4 (show b ≠ b1 by omega) (fun k _ hA e => by have := hA1 k hA; omega)).keep' hk5 (show b ≠ b1 by omega) (fun k _ hA e => by have := hA1 k hA; omega)
  refine ops_nil ?_
  refine W_seq ?_
  refine W_region ?_
  refine o_mvt rfl ?_
  refine op_call rfl rfl rfl (in_Number w5 b A (b2R bs bad).2.1 (b2R bs bad).2.2 65536 hAb hI5) ?_; rintro v6 w6 ⟨rfl, hI6, hk6⟩
  have hI6 : InC w6 b A (b3R bs bad).2.1 (b3R bs bad).2.2 := hI6
  have hz6 : w1.heap.size ≤ w6.heap.size := by have := hk2.size; have := hk3.size; have := hk4.size; have := hk5.size; have := hk6.size; omega
  refine op_run ((r_conv rfl rfl rfl).val (congrArg (Value.int .i64) (conv_i64 (b3R bs bad).1 (by omega)))) rfl ?_
  refine o_mvt rfl ?_
  refine op_call rfl rfl rfl (in_Digest w6 b A (b3R bs bad).2.1 (b3R bs bad).2.2 hAb (fun k hk => by have := hA1 k hk; omega) hI6) ?_; rintro v7 w7 ⟨rfl, hI7, hk7⟩
  have hI7 : InC w7 b A (b4R bs bad).2.1 (b4R bs bad).2.2 := hI7
  have hB7 := hk7.blk' (hk6.blk' hB5 (show b1 ≠ b by omega)) (show b1 ≠ b by omega)
  refine op_run (r_fieldAddr rfl rfl rfl rfl rfl) rfl ?_
  refine o_store (v := .int .i64 ((b3R bs bad).1 : Int)) rfl rfl rfl rfl hB7 (by rw [binV_len]; decide) rfl ?_; intro w8 hB8 hk8 hs8
  have hB8 : Blk w8 b1 (binV ⟨(b1R bs bad).1, (b2R bs bad).1, (b3R bs bad).1, Dig.zero⟩) 100 := hB8
  refine op_run (r_fieldAddr rfl rfl rfl rfl rfl) rfl ?_
  refine o_storeA (cs := dgR (b4R bs bad).1) rfl rfl (by first | rfl | exact binV_one _ | exact dgR_one _ | exact refR_one _ | exact secR_one _ | exact all_c8 _) (by first | rfl | (rw [binV_len]; rfl) | (rw [dgR_len]; rfl) | (rw [refR_len]; rfl) | (rw [secR_len]; rfl) | (rw [List.length_map, tagF_len]; rfl)) hB8 (by rw [binV_len, dgR_len]; decide) rfl ?_; intro w9 hB9 hk9 hs9
  have hB9 : Blk w9 b1 (binV ⟨(b1R bs bad).1, (b2R bs bad).1, (b3R bs bad).1, (b4R bs bad).1⟩) 100 := by
    have h : Blk w9 b1 (splice (binV ⟨(b1R bs bad).1, (b2R bs bad).1, (b3R bs bad).1, Dig.zero⟩) 3 (dgR (b4R bs bad).1)) 100 := hB9
    rwa [binV_setD] at h
  have hI9 : InC w9 b A (b4R bs bad).2.1 (b4R bs bad).2.2 := (hI7.keep' hk8 (show b ≠ b1 by omega) (fun k _ hA e => by have := hA1 k hA; omega)).keep' hk9 (show b ≠ b1 by omega) (fun k _ hA e => by have := hA1 k hA; omega)
  have hkw : Keep (fun k => k ≠ b ∧ k ≠ b1) w w9 := (((((((hk1.all.trans (hk2.mono fun k _ h => h.1)).trans (hk3.mono fun k _ h => h.1)).trans (hk4.mono fun k _ h => h.2)).trans (hk5.mono fun k _ h => h.2)).trans (hk6.mono fun k _ h => h.1)).trans (hk7.mono fun k _ h => h.1)).trans (hk8.mono fun k _ h => h.2)).trans (hk9.mono fun k _ h => h.2)
  refine ops_nil ?_
  refine W_seq ?_
  refine W_seq ?_
  refine W_region ?_
  refine o_mvt rfl ?_
  refine op_call rfl rfl rfl (in_Wrong w9 b A _ _ hI9) ?_; rintro v10 w10 ⟨rfl, rfl⟩
  refine ops_nil ?_
  refine W_cond rfl (fun h11 => ?_) (fun h11 => ?_)
  · refine W_seq ?_
    refine W_region ?_
    refine op_run (r_build ((binV Bn.zero)) (_) ([]) rfl rfl rfl rfl rfl (rfl)) rfl ?_
    refine o_storeA (cs := binV Bn.zero) rfl rfl (by first | rfl | exact binV_one _ | exact dgR_one _ | exact refR_one _ | exact secR_one _ | exact all_c8 _) (by first | rfl | (rw [binV_len]; rfl) | (rw [dgR_len]; rfl) | (rw [refR_len]; rfl) | (rw [secR_len]; rfl) | (rw [List.length_map, tagF_len]; rfl)) hB9 (by simp [binV_len]) rfl ?_; intro w13 hB13 hk13 hs13
    rw [splice_all (by simp [binV_len])] at hB13
    refine ops_nil ?_
    refine W_ret ?_
    refine retA (binV Bn.zero) rfl rfl rfl rfl (by first | rfl | (rw [binV_len]; rfl) | (rw [dgR_len]; rfl) | (rw [refR_len]; rfl) | (rw [secR_len]; rfl) | (rw [List.length_map, tagF_len]; rfl)) hB13.all ?_
    rw [bnR_def, if_pos h11]
    refine ⟨rfl, hI9.keep' hk13 (show b ≠ b1 by omega) (fun k _ hA e => by have := hA1 k hA; omega), ?_⟩
    exact (hkw.trans (hk13.mono fun k _ h => h.2)).mono fun k hk h => ⟨h, by omega⟩
  · refine W_skip ?_
    refine W_seq ?_
    refine W_region ?_
    refine op_run (r_loadA (binV ⟨(b1R bs bad).1, (b2R bs bad).1, (b3R bs bad).1, (b4R bs bad).1⟩) rfl rfl rfl (by first | rfl | (rw [binV_len]; rfl) | (rw [dgR_len]; rfl) | (rw [refR_len]; rfl) | (rw [secR_len]; rfl) | (rw [List.length_map, tagF_len]; rfl)) (hB9.all)) rfl ?_
    refine o_storeA (cs := binV ⟨(b1R bs bad).1, (b2R bs bad).1, (b3R bs bad).1, (b4R bs bad).1⟩) rfl rfl (by first | rfl | exact binV_one _ | exact dgR_one _ | exact refR_one _ | exact secR_one _ | exact all_c8 _) (by first | rfl | (rw [binV_len]; rfl) | (rw [dgR_len]; rfl) | (rw [refR_len]; rfl) | (rw [secR_len]; rfl) | (rw [List.length_map, tagF_len]; rfl)) hB9 (by simp [binV_len]) rfl ?_; intro w16 hB16 hk16 hs16
    rw [splice_all (by simp [binV_len])] at hB16
    refine ops_nil ?_
    refine W_ret ?_
    refine retA (binV ⟨(b1R bs bad).1, (b2R bs bad).1, (b3R bs bad).1, (b4R bs bad).1⟩) rfl rfl rfl rfl (by first | rfl | (rw [binV_len]; rfl) | (rw [dgR_len]; rfl) | (rw [refR_len]; rfl) | (rw [secR_len]; rfl) | (rw [List.length_map, tagF_len]; rfl)) hB16.all ?_
    rw [bnR_def, if_neg (show ¬ (b4R bs bad).2.2 = true by rw [h11]; simp)]
    refine ⟨rfl, hI9.keep' hk16 (show b ≠ b1 by omega) (fun k _ hA e => by have := hA1 k hA; omega), ?_⟩
    exact (hkw.trans (hk16.mono fun k _ h => h.2)).mono fun k hk h => ⟨h, by omega⟩
end Go.Proofs.YtigehkfdfecfoaaDoor.B
