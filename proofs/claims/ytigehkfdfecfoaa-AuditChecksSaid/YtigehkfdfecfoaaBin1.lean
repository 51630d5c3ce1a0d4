/-
  Bins as bytes: put, and taken, by the program and by the document.
-/
import Derived.Test.YtigehkfdfecfoaaIn01
import Derived.Test.YtigehkfdfecfoaaMTag
namespace Go.Proofs.Ytigehkfdfecfoaa.B
open Go
set_option linter.unusedVariables false
set_option maxHeartbeats 2000000
set_option maxRecDepth 100000
attribute [local irreducible] W OpsW OpsQ retP
def binV (b : Bn) : List Value := [.int .i64 b.number, .int .i64 b.at_, .int .i64 b.count] ++ dgR b.root
theorem binV_len (b : Bn) : (binV b).length = 35 := by unfold binV; rw [List.length_append, dgR_len]; rfl
theorem binV_one (b : Bn) : (binV b).all one = true := by unfold binV; rw [List.all_append, dgR_one]; rfl
theorem binV_zero : binV Bn.zero = [.int .i64 0, .int .i64 0, .int .i64 0] ++ List.replicate 32 (c8 0) := rfl
theorem binV_inj {a b : Bn} : binV a = binV b ↔ a = b := by
  constructor
  · intro h
    obtain ⟨a1, a2, a3, a4⟩ := a
    obtain ⟨b1, b2, b3, b4⟩ := b
    unfold binV at h
    simp only [List.cons_append, List.nil_append, List.cons.injEq, Value.int.injEq, true_and] at h
    obtain ⟨rfl, rfl, rfl, h⟩ := h
    rw [dgR_inj.1 h]
  · rintro rfl; rfl
theorem binV_dig (b : Bn) {j : Nat} {v : Value} (h : (dgR b.root)[j]? = some v) : (binV b)[3 + j]? = some v := by
  unfold binV; rw [List.getElem?_append_right (by simp)]; simpa using h
theorem binV_set0 (b : Bn) (z : Int) : (binV b).set 0 (.int .i64 z) = binV ⟨z, b.at_, b.count, b.root⟩ := rfl
theorem binV_set1 (b : Bn) (z : Int) : (binV b).set 1 (.int .i64 z) = binV ⟨b.number, z, b.count, b.root⟩ := rfl
theorem binV_set2 (b : Bn) (z : Int) : (binV b).set 2 (.int .i64 z) = binV ⟨b.number, b.at_, z, b.root⟩ := rfl
theorem binV_setD (b : Bn) (d : Dig) : splice (binV b) 3 (dgR d) = binV ⟨b.number, b.at_, b.count, d⟩ := by
  unfold splice binV
  rw [dgR_len, List.drop_eq_nil_of_le (by rw [List.length_append, dgR_len]; simp), List.append_nil]
  rfl
theorem okC_bin (b : Bn) : okC Try.prog 3 31 (binV b) := by
  show okC Try.prog (2 + 1) 31 (binV b)
  unfold okC
  rw [Try.underlying31]
  simp only
  refine ⟨by kernel_rfl, by rw [binV_len]; kernel_rfl, ?_⟩
  have c0 : Try.prog.cellsOf 29 = 32 := by kernel_rfl
  have c1 : Try.prog.cellsOf 3 = 1 := by kernel_rfl
  intro f hf
  simp only [List.mem_cons, List.not_mem_nil, or_false] at hf
  rcases hf with rfl | rfl | rfl | rfl
  · refine ⟨by kernel_rfl, ?_⟩
    simp only [c1]
    exact okC_int Try.underlying3 _
  · refine ⟨by kernel_rfl, ?_⟩
    simp only [c1]
    exact okC_int Try.underlying3 _
  · refine ⟨by kernel_rfl, ?_⟩
    simp only [c1]
    exact okC_int Try.underlying3 _
  · refine ⟨by kernel_rfl, ?_⟩
    simp only [c0]
    rw [show ((binV b).drop 3).take 32 = dgR b.root by show (dgR b.root).take 32 = _; exact List.take_of_length_le (Nat.le_of_eq (dgR_len _))]
    exact okC_dgR b.root
theorem fill_int0 {pl : List (Nat × Nat)} {zl : List Value} {z : Int} (hp : pl[0]? = some (0, 1)) (hz : 0 < zl.length) : fillV (fun i => pl[i]?) zl [(0, .int .i64 z)] = some (zl.set 0 (.int .i64 z)) := by
  have s1 : (Value.int .i64 z).cells.size = 1 := rfl
  have h1 : (Value.int .i64 z).cells.toList = [.int .i64 z] := rfl
  simp only [fillV, hp]
  rw [if_pos ⟨s1, by omega⟩, h1]
  unfold splice
  rw [List.set_eq_take_append_cons_drop, if_pos hz]
  simp
theorem encBn_len (b : Bn) : (encBn b).length ≤ 62 := by
  have h1 := encN_len10 (u64_lt b.number)
  have h2 := encN_len10 (u64_lt b.at_)
  have h3 := encN_len10 (u64_lt b.count)
  have h4 := b.root.2
  unfold encBn; simp only [List.length_append]; omega
/-- A bin's numbers. -/
def numsB (b : Bn) : List Int := [b.number, b.at_, b.count]
def encP (b : Bn) (k : Nat) : List UInt8 := ((numsB b).take k).flatMap fun z => encN (u64 z)
theorem encP_s {b : Bn} {k : Nat} {z : Int} (h : (numsB b)[k]? = some z) : encP b (k + 1) = encP b k ++ encN (u64 z) := by
  obtain ⟨h1, h2⟩ := List.getElem?_eq_some_iff.1 h
  unfold encP; rw [List.take_succ_eq_append_getElem h1, List.flatMap_append, h2]; simp
theorem encP_len (b : Bn) (k : Nat) : (encP b k).length ≤ 30 := by
  have h1 := encN_len10 (u64_lt b.number)
  have h2 := encN_len10 (u64_lt b.at_)
  have h3 := encN_len10 (u64_lt b.count)
  unfold encP numsB
  match k with
  | 0 => simp
  | 1 => simp; omega
  | 2 => simp; omega
  | k + 3 => simp; omega
theorem encP_3 (b : Bn) : encP b 3 ++ b.root.val = encBn b := by unfold encP numsB encBn; simp
theorem bn_Put (w : World) (v : Value) (xs : List UInt8) (b : Bn) (hown : OwnB w 5 v xs) (hlen : xs.length + 70 ≤ 2 ^ 40) :
    Ret Try.prog 26 [v, .agg (binV b).toArray].toArray w fun u w' => OwnB w' 5 u (xs ++ encBn b) ∧ Keep (fun z => some z ≠ v.ownBlock) w w' ∧ InB (fun z => v.ownBlock = some z ∨ w.heap.size ≤ z) u := by
  refine enter (fn := Try.f26) (n := 26) Try.func26 rfl rfl (by simp) ?_
  refine W_seq ?_
  refine W_region ?_
  refine o_box rfl rfl rfl ?_; intro w1 b1 e1 hB1 hk1 hs1
  have hB1 : Blk w1 b1 (binV b) 31 := hB1
  have hne : some b1 ≠ v.ownBlock := fun e => by have := hown.lt b1 e.symm; omega
  refine o_asc rfl ?_
  refine ops_nil ?_
  refine W_seq ?_
  refine W_seq ?_
  refine W_region ?_
  refine op_run (r_fieldAddr rfl rfl rfl rfl rfl) rfl ?_
  refine op_run (r_load rfl rfl rfl (hB1.cell rfl)) rfl ?_
  refine op_run (r_fieldAddr rfl rfl rfl rfl rfl) rfl ?_
  refine op_run (r_load rfl rfl rfl (hB1.cell rfl)) rfl ?_
  refine op_run (r_fieldAddr rfl rfl rfl rfl rfl) rfl ?_
  refine op_run (r_load rfl rfl rfl (hB1.cell rfl)) rfl ?_
  refine op_run (r_buildA ([.int .i64 b.number, .int .i64 b.at_, .int .i64 b.count]) (_) ([(0, .int .i64 b.number), (1, .int .i64 b.at_), (2, .int .i64 b.count)]) rfl rfl rfl rfl rfl (rfl)) rfl ?_
  refine o_mvc rfl ?_
  refine ops_nil ?_
  refine W_block ?_
  refine W_loop [0, 14] [0, 6, 14, 15, 16, 17, 18, 19, 20, 21] (fun vs w' => ∃ (u : Value) (k : Nat), vs = [u, .int .i64 k] ∧ k ≤ 3 ∧ OwnB w' 5 u (xs ++ encP b k) ∧ Keep (fun z => some z ≠ v.ownBlock) w w' ∧ InB (fun z => (v.ownBlock = some z ∨ w.heap.size ≤ z) ∧ z ≠ b1) u ∧ Blk w' b1 (binV b) 31) (fun vs _ => match vs with | [_, .int _ y] => 3 - y.toNat | _ => 0) ⟨v, 0, rfl, Nat.zero_le _, by rw [show encP b 0 = [] from rfl, List.append_nil]; exact hown.keep hk1 (fun _ _ => trivial), hk1.all, fun z hz => ⟨.inl hz, fun e => hne (by rw [hz, e])⟩, hB1⟩ ?_
  rintro J6 vs w6 ⟨u, k, rfl, hk, hO6, hk6, hin6, hB6⟩ -
  refine W_seq ?_
  refine W_region ?_
  refine op_run (r_lss rfl rfl) rfl ?_
  refine ops_nil ?_
  refine W_seq ?_
  refine W_cond_p rfl (fun h7 => ?_) (fun h7 => ?_)
  · refine W_skip ?_
    refine W_seq ?_
    refine W_block ?_
    refine W_seq ?_
    refine W_region ?_
    have hk3 : k < 3 := by omega
    obtain ⟨z, hz⟩ : ∃ z, (numsB b)[k]? = some z := ⟨_, List.getElem?_eq_getElem (show k < 3 from hk3)⟩
    have hzv : [Value.int .i64 b.number, .int .i64 b.at_, .int .i64 b.count][k]? = some (.int .i64 z) := by
      have h : ((numsB b).map (Value.int .i64))[k]? = some (.int .i64 z) := by rw [List.getElem?_map, hz]; rfl
      exact h
    have hpl := encP_len b k
    have hz6 := hk6.size
    refine op_run (r_index1 rfl rfl rfl rfl rfl rfl (by omega) (by omega) ((by rw [Int.toNat_natCast]; exact hzv))) rfl ?_
    refine o_ast rfl ?_
    refine ops_nil ?_
    refine W_region ?_
    refine o_mvt rfl ?_
    refine o_mvt rfl ?_
    refine op_run ((r_conv rfl rfl rfl).val (conv_u64 z)) rfl ?_
    refine op_call rfl rfl rfl (pack_Number w6 u (xs ++ encP b k) (u64 z) (u64_lt _) hO6 (by rw [List.length_append]; omega)) ?_; rintro v9 w9 ⟨hO9, hk9, hin9⟩
    refine o_ast rfl ?_
    refine ops_nil ?_
    refine W_region ?_
    refine op_run (r_add rfl rfl) rfl ?_
    refine o_mvt rfl ?_
    refine ops_nil ?_
    have hinc := inc64' k (by omega)
    have hlt6 := hB6.lt
    refine ⟨by (repeat (first | with_reducible exact offM_refl _ _ | refine offM_updc rfl ?_ | refine offM_upd rfl ?_ | refine offM_updo rfl ?_ | refine offM_updo_none ?_ | refine offM_head rfl rfl ?_)), ⟨v9, k + 1, congrArg (fun z : Int => [v9, Value.int .i64 z]) hinc, by omega, by rw [encP_s hz, ← List.append_assoc]; exact hO9, hk6.own hk9 (fun y hy hA => (hin6 y hy).1.resolve_left (fun e => hA e.symm)), fun y hy => ?_, hk9.blk' hB6 (fun e => (hin6 b1 e.symm).2 rfl)⟩, ?_⟩
    · rcases hin9 y hy with h | h
      · exact hin6 y h
      · exact ⟨.inr (by omega), by omega⟩
    · show 3 - (IntKind.i64.wrap ((k : Int) + 1)).toNat < 3 - (k : Int).toNat
      rw [hinc]; omega
  · refine W_exit ?_
    refine W_seq ?_
    refine W_region ?_
    refine o_mvt rfl ?_
    refine op_run (r_fieldAddr rfl rfl rfl rfl rfl) rfl ?_
    refine op_run (r_sliceA rfl rfl rfl) rfl ?_
    have hke : k = 3 := by omega
    subst hke
    have hdig : By w6 (.slice (some ⟨b1, 0 + 3, none⟩) 32 32) b.root.val := by
      have hdl := b.root.2
      have := By.of_at (w := w6) (b := b1) (off := 3) (c := 32) (bs := b.root.val) (fun j u hj => hB6.cell (binV_dig b hj)) (by omega) (by unfold maxLen; omega)
      rwa [hdl] at this
    have hpl := encP_len b 3
    have hdl := b.root.2
    have hz6 := hk6.size
    refine o_appS (v := u) rfl rfl hdig rfl ti_u8 rfl rfl hO6 (all_c8 _) (by rw [List.length_append]; unfold maxLen; omega) (by rw [List.length_append]; omega) rfl ?_; intro v11 w11 hown11 hk11 hb11
    have hown11 : OwnB w11 5 v11 (xs ++ encBn b) := by
      have h := OwnB.app hown11
      rwa [List.append_assoc, encP_3] at h
    refine o_ast rfl ?_
    refine ops_nil ?_
    refine W_ret ?_
    refine ret1 v11 rfl ?_ ?_; rfl
    refine ⟨hown11, hk6.own hk11 (fun y hy hA => (hin6 y hy).1.resolve_left (fun e => hA e.symm)), fun y hy => ?_⟩
    rcases hb11 y hy with h | h
    · exact (hin6 y h).1
    · exact .inr (by omega)
theorem rf10_Put (w : World) (v : Value) (xs : List UInt8) (b : Bn) (hown : OwnB w 5 v xs) (hlen : xs.length + 70 ≤ 2 ^ 40) :
    Ret Try.prog 28 [v, .agg (binV b).toArray].toArray w fun u w' => OwnB w' 5 u (xs ++ encBn b) ∧ Keep (fun z => some z ≠ v.ownBlock) w w' ∧ InB (fun z => v.ownBlock = some z ∨ w.heap.size ≤ z) u := by
  have l1 := encN_len10 (u64_lt b.number)
  have l2 := encN_len10 (u64_lt b.at_)
  have l3 := encN_len10 (u64_lt b.count)
  have l4 := b.root.2
  refine enter (fn := Try.f28) (n := 24) Try.func28 rfl rfl (by simp) ?_
  refine W_seq ?_
  refine W_region ?_
  refine o_box rfl rfl rfl ?_; intro w1 b1 e1 hB1 hk1 hs1
  have hB1 : Blk w1 b1 (binV b) 31 := hB1
  have hne : some b1 ≠ v.ownBlock := fun e => by have := hown.lt b1 e.symm; omega
  refine o_asc rfl ?_
  refine ops_nil ?_
  refine W_seq ?_
  refine W_region ?_
  refine o_mvt rfl ?_
  refine op_run (r_fieldAddr rfl rfl rfl rfl rfl) rfl ?_
  refine op_run (r_load rfl rfl rfl (hB1.cell rfl)) rfl ?_
  refine op_run ((r_conv rfl rfl rfl).val (conv_u64 b.number)) rfl ?_
  refine op_call rfl rfl rfl (ref01_Number w1 v xs (u64 b.number) (u64_lt _) (hown.keep hk1 (fun _ _ => trivial)) (by omega)) ?_; rintro v3 w3 ⟨hO3, hk3, hin3⟩
  have hB3 := hk3.blk' hB1 hne
  have hi3 : InB (fun z => (v.ownBlock = some z ∨ w.heap.size ≤ z) ∧ z ≠ b1) v3 := fun z hz => by
    rcases hin3 z hz with h | h
    · exact ⟨.inl h, fun e => hne (by rw [h, e])⟩
    · exact ⟨.inr (by omega), by omega⟩
  have hkA := hk1.all.trans hk3
  have hzA := hkA.size
  have hlt3 := hB3.lt
  refine o_ast rfl ?_
  refine ops_nil ?_
  refine W_seq ?_
  refine W_region ?_
  refine o_mvt rfl ?_
  refine op_run (r_fieldAddr rfl rfl rfl rfl rfl) rfl ?_
  refine op_run (r_load rfl rfl rfl (hB3.cell rfl)) rfl ?_
  refine op_run ((r_conv rfl rfl rfl).val (conv_u64 b.at_)) rfl ?_
  refine op_call rfl rfl rfl (ref01_Number w3 v3 (xs ++ encN (u64 b.number)) (u64 b.at_) (u64_lt _) hO3 (by rw [List.length_append]; omega)) ?_; rintro v5 w5 ⟨hO5, hk5, hin5⟩
  have hB5 := hk5.blk' hB3 (fun e => (hi3 b1 e.symm).2 rfl)
  have hi5 : InB (fun z => (v.ownBlock = some z ∨ w.heap.size ≤ z) ∧ z ≠ b1) v5 := fun z hz => by
    rcases hin5 z hz with h | h
    · exact hi3 z h
    · exact ⟨.inr (by omega), by omega⟩
  have hkC := hkA.own hk5 (fun y hy hA => (hi3 y hy).1.resolve_left (fun e => hA e.symm))
  have hzC := hkC.size
  have hlt5 := hB5.lt
  refine o_ast rfl ?_
  refine ops_nil ?_
  refine W_seq ?_
  refine W_region ?_
  refine o_mvt rfl ?_
  refine op_run (r_fieldAddr rfl rfl rfl rfl rfl) rfl ?_
  refine op_run (r_load rfl rfl rfl (hB5.cell rfl)) rfl ?_
  refine op_run ((r_conv rfl rfl rfl).val (conv_u64 b.count)) rfl ?_
  refine op_call rfl rfl rfl (ref01_Number w5 v5 _ (u64 b.count) (u64_lt _) hO5 (by rw [List.length_append, List.length_append]; omega)) ?_; rintro v7 w7 ⟨hO7, hk7, hin7⟩
  have hB7 := hk7.blk' hB5 (fun e => (hi5 b1 e.symm).2 rfl)
  have hi7 : InB (fun z => (v.ownBlock = some z ∨ w.heap.size ≤ z) ∧ z ≠ b1) v7 := fun z hz => by
    rcases hin7 z hz with h | h
    · exact hi5 z h
    · exact ⟨.inr (by omega), by omega⟩
  have hkD := hkC.own hk7 (fun y hy hA => (hi5 y hy).1.resolve_left (fun e => hA e.symm))
  have hzD := hkD.size
  have hdig : By w7 (.slice (some ⟨b1, 0 + 3, none⟩) 32 32) b.root.val := by
    have hdl := b.root.2
    have := By.of_at (w := w7) (b := b1) (off := 3) (c := 32) (bs := b.root.val) (fun j u hj => hB7.cell (binV_dig b hj)) (by omega) (by unfold maxLen; omega)
    rwa [hdl] at this
  refine o_ast rfl ?_
  refine ops_nil ?_
  refine W_seq ?_
  refine W_region ?_
  refine o_mvt rfl ?_
  refine op_run (r_fieldAddr rfl rfl rfl rfl rfl) rfl ?_
  refine op_run (r_sliceA rfl rfl rfl) rfl ?_
  refine o_appS (v := v7) rfl rfl hdig rfl ti_u8 rfl rfl hO7 (all_c8 _) (by simp only [List.length_append]; unfold maxLen; omega) (by simp only [List.length_append]; omega) rfl ?_; intro v8 w8 hown8 hk8 hb8
  have hown8 : OwnB w8 5 v8 (xs ++ encBn b) := by
    have h := OwnB.app hown8
    unfold encBn
    rw [← List.append_assoc, ← List.append_assoc, ← List.append_assoc]
    exact h
  refine o_ast rfl ?_
  refine ops_nil ?_
  refine W_ret ?_
  refine ret1 v8 rfl ?_ ?_; rfl
  refine ⟨hown8, hkD.own hk8 (fun y hy hA => (hi7 y hy).1.resolve_left (fun e => hA e.symm)), fun y hy => ?_⟩
  rcases hb8 y hy with h | h
  · exact (hi7 y h).1
  · exact .inr (by omega)
/-- The parts of a bin that are read, one behind the other. -/
def b1R (bs : List UInt8) (bad : Bool) := numR 2147483647 bs bad
def b2R (bs : List UInt8) (bad : Bool) := numR 65535 (b1R bs bad).2.1 (b1R bs bad).2.2
def b3R (bs : List UInt8) (bad : Bool) := numR 65536 (b2R bs bad).2.1 (b2R bs bad).2.2
def b4R (bs : List UInt8) (bad : Bool) := digR (b3R bs bad).2.1 (b3R bs bad).2.2
theorem bnR_def (bs : List UInt8) (bad : Bool) : bnR bs bad = (if (b4R bs bad).2.2 = true then Bn.zero else ⟨(b1R bs bad).1, (b2R bs bad).1, (b3R bs bad).1, (b4R bs bad).1⟩, (b4R bs bad).2.1, (b4R bs bad).2.2) := rfl
theorem b1R_le (bs : List UInt8) (bad : Bool) : (b1R bs bad).1 ≤ 2147483647 := numR_le 2147483647 bs bad
theorem b2R_le (bs : List UInt8) (bad : Bool) : (b2R bs bad).1 ≤ 65535 := numR_le 65535 _ _
theorem b3R_le (bs : List UInt8) (bad : Bool) : (b3R bs bad).1 ≤ 65536 := numR_le 65536 _ _
theorem bn_Take (w : World) (b : Nat) (A : Nat → Prop) (bs : List UInt8) (bad : Bool) (hAb : ¬ A b) (hAl : ∀ k, A k → k < w.heap.size) (h : InC w b A bs bad) :
    Ret Try.prog 22 [.pointer (some ⟨b, 0, none⟩)].toArray w fun r w' => r = .agg (binV (bnR bs bad).1).toArray ∧ InC w' b A (bnR bs bad).2.1 (bnR bs bad).2.2 ∧ Keep (· ≠ b) w w' := by
  have hbl : b < w.heap.size := by obtain ⟨_, hB, _⟩ := h; exact hB.lt
  have l1 := b1R_le bs bad
  have l2 := b2R_le bs bad
  have l3 := b3R_le bs bad
  refine enter (fn := Try.f22) (n := 22) Try.func22 rfl rfl (by simp) ?_
  refine W_seq ?_
  refine W_region ?_
  refine o_alloc rfl rfl rfl ?_; intro w1 b1 e1 hB1 hk1 hs1
  have hB1 : Blk w1 b1 (binV Bn.zero) 31 := hB1
  have h1 : InC w1 b A bs bad := h.keep' hk1 trivial (fun _ _ _ => trivial)
  have hA1 : ∀ k, A k → k < b1 := fun k hk => by have := hAl k hk; omega
  refine ops_nil ?_
  refine W_seq ?_
  refine W_region ?_
  refine o_mvt rfl ?_
  refine op_call rfl rfl rfl (in_Number w1 b A bs bad 2147483647 hAb h1) ?_; rintro v2 w2 ⟨rfl, hI2, hk2⟩
  refine op_run ((r_conv rfl rfl rfl).val (congrArg (Value.int .i64) (conv_i64 (b1R bs bad).1 (by omega)))) rfl ?_
  refine o_mvt rfl ?_
  refine op_call rfl rfl rfl (in_Number w2 b A (b1R bs bad).2.1 (b1R bs bad).2.2 65535 hAb hI2) ?_; rintro v3 w3 ⟨rfl, hI3, hk3⟩
  have hI3 : InC w3 b A (b2R bs bad).2.1 (b2R bs bad).2.2 := hI3
  have hB3 := hk3.blk' (hk2.blk' hB1 (show b1 ≠ b by omega)) (show b1 ≠ b by omega)
  refine op_run ((r_conv rfl rfl rfl).val (congrArg (Value.int .i64) (conv_i64 (b2R bs bad).1 (by omega)))) rfl ?_
  refine op_run (r_fieldAddr rfl rfl rfl rfl rfl) rfl ?_
  refine o_store (v := .int .i64 ((b1R bs bad).1 : Int)) rfl rfl rfl rfl hB3 (by rw [binV_len]; decide) rfl ?_; intro w4 hB4 hk4 hs4
  have hB4 : Blk w4 b1 (binV ⟨(b1R bs bad).1, 0, 0, Dig.zero⟩) 31 := hB4
  refine op_run (r_fieldAddr rfl rfl rfl rfl rfl) rfl ?_
  refine o_store (v := .int .i64 ((b2R bs bad).1 : Int)) rfl rfl rfl rfl hB4 (by rw [binV_len]; decide) rfl ?_; intro w5 hB5 hk5 hs5
  have hB5 : Blk w5 b1 (binV ⟨(b1R bs bad).1, (b2R bs bad).1, 0, Dig.zero⟩) 31 := hB5
  have hI5 := (hI3.keep' hk4 (show b ≠ b1 by omega) (fun k _ hA e => by have := hA1 k hA; omega)).keep' hk5 (show b ≠ b1 by omega) (fun k _ hA e => by have := hA1 k hA; omega)
  refine ops_nil ?_
  refine W_seq ?_
  refine W_region ?_
  refine o_mvt rfl ?_
  refine op_call rfl rfl rfl (in_Number w5 b A (b2R bs bad).2.1 (b2R bs bad).2.2 65536 hAb hI5) ?_; rintro v6 w6 ⟨rfl, hI6, hk6⟩
  have hI6 : InC w6 b A (b3R bs bad).2.1 (b3R bs bad).2.2 := hI6
  have hz6 : w1.heap.size ≤ w6.heap.size := by have := hk2.size; have := hk3.size; have := hk4.size; have := hk5.size; have := hk6.size; omega
  refine op_run ((r_conv rfl rfl rfl).val (congrArg (Value.int .i64) (conv_i64 (b3R bs bad).1 (by omega)))) rfl ?_
  refine o_mvt rfl ?_
  refine op_call rfl rfl rfl (in_Digest w6 b A (b3R bs bad).2.1 (b3R bs bad).2.2 hAb (fun k hk => by have := hA1 k hk; omega) hI6) ?_; rintro v7 w7 ⟨rfl, hI7, hk7⟩
  have hI7 : InC w7 b A (b4R bs bad).2.1 (b4R bs bad).2.2 := hI7
  have hB7 := hk7.blk' (hk6.blk' hB5 (show b1 ≠ b by omega)) (show b1 ≠ b by omega)
  refine op_run (r_fieldAddr rfl rfl rfl rfl rfl) rfl ?_
  refine o_store (v := .int .i64 ((b3R bs bad).1 : Int)) rfl rfl rfl rfl hB7 (by rw [binV_len]; decide) rfl ?_; intro w8 hB8 hk8 hs8
  have hB8 : Blk w8 b1 (binV ⟨(b1R bs bad).1, (b2R bs bad).1, (b3R bs bad).1, Dig.zero⟩) 31 := hB8
  refine op_run (r_fieldAddr rfl rfl rfl rfl rfl) rfl ?_
  refine o_storeA (cs := dgR (b4R bs bad).1) rfl rfl (by first | rfl | exact binV_one _ | exact dgR_one _ | exact refR_one _ | exact secR_one _ | exact all_c8 _) (by first | rfl | (rw [binV_len]; rfl) | (rw [dgR_len]; rfl) | (rw [refR_len]; rfl) | (rw [secR_len]; rfl) | (rw [List.length_map, tagF_len]; rfl)) hB8 (by rw [binV_len, dgR_len]; decide) rfl ?_; intro w9 hB9 hk9 hs9
  have hB9 : Blk w9 b1 (binV ⟨(b1R bs bad).1, (b2R bs bad).1, (b3R bs bad).1, (b4R bs bad).1⟩) 31 := by
    have h : Blk w9 b1 (splice (binV ⟨(b1R bs bad).1, (b2R bs bad).1, (b3R bs bad).1, Dig.zero⟩) 3 (dgR (b4R bs bad).1)) 31 := hB9
    rwa [binV_setD] at h
  have hI9 : InC w9 b A (b4R bs bad).2.1 (b4R bs bad).2.2 := (hI7.keep' hk8 (show b ≠ b1 by omega) (fun k _ hA e => by have := hA1 k hA; omega)).keep' hk9 (show b ≠ b1 by omega) (fun k _ hA e => by have := hA1 k hA; omega)
  have hkw : Keep (fun k => k ≠ b ∧ k ≠ b1) w w9 := (((((((hk1.all.trans (hk2.mono fun k _ h => h.1)).trans (hk3.mono fun k _ h => h.1)).trans (hk4.mono fun k _ h => h.2)).trans (hk5.mono fun k _ h => h.2)).trans (hk6.mono fun k _ h => h.1)).trans (hk7.mono fun k _ h => h.1)).trans (hk8.mono fun k _ h => h.2)).trans (hk9.mono fun k _ h => h.2)
  refine ops_nil ?_
  refine W_seq ?_
  refine W_seq ?_
  refine W_region ?_
  refine o_mvt rfl ?_
  refine op_call rfl rfl rfl (in_Wrong w9 b A _ _ hI9) ?_; rintro v10 w10 ⟨rfl, rfl⟩
  refine ops_nil ?_
  refine W_cond rfl (fun h11 => ?_) (fun h11 => ?_)
  · refine W_seq ?_
    refine W_region ?_
    refine op_run (r_build ((binV Bn.zero)) (_) ([]) rfl rfl rfl rfl rfl (rfl)) rfl ?_
    refine o_storeA (cs := binV Bn.zero) rfl rfl (by first | rfl | exact binV_one _ | exact dgR_one _ | exact refR_one _ | exact secR_one _ | exact all_c8 _) (by first | rfl | (rw [binV_len]; rfl) | (rw [dgR_len]; rfl) | (rw [refR_len]; rfl) | (rw [secR_len]; rfl) | (rw [List.length_map, tagF_len]; rfl)) hB9 (by simp [binV_len]) rfl ?_; intro w13 hB13 hk13 hs13
    rw [splice_all (by simp [binV_len])] at hB13
    refine ops_nil ?_
    refine W_ret ?_
    refine retA (binV Bn.zero) rfl rfl rfl rfl (by first | rfl | (rw [binV_len]; rfl) | (rw [dgR_len]; rfl) | (rw [refR_len]; rfl) | (rw [secR_len]; rfl) | (rw [List.length_map, tagF_len]; rfl)) hB13.all ?_
    rw [bnR_def, if_pos h11]
    refine ⟨rfl, hI9.keep' hk13 (show b ≠ b1 by omega) (fun k _ hA e => by have := hA1 k hA; omega), ?_⟩
    exact (hkw.trans (hk13.mono fun k _ h => h.2)).mono fun k hk h => ⟨h, by omega⟩
  · refine W_skip ?_
    refine W_seq ?_
    refine W_region ?_
    refine op_run (r_loadA (binV ⟨(b1R bs bad).1, (b2R bs bad).1, (b3R bs bad).1, (b4R bs bad).1⟩) rfl rfl rfl (by first | rfl | (rw [binV_len]; rfl) | (rw [dgR_len]; rfl) | (rw [refR_len]; rfl) | (rw [secR_len]; rfl) | (rw [List.length_map, tagF_len]; rfl)) (hB9.all)) rfl ?_
    refine o_storeA (cs := binV ⟨(b1R bs bad).1, (b2R bs bad).1, (b3R bs bad).1, (b4R bs bad).1⟩) rfl rfl (by first | rfl | exact binV_one _ | exact dgR_one _ | exact refR_one _ | exact secR_one _ | exact all_c8 _) (by first | rfl | (rw [binV_len]; rfl) | (rw [dgR_len]; rfl) | (rw [refR_len]; rfl) | (rw [secR_len]; rfl) | (rw [List.length_map, tagF_len]; rfl)) hB9 (by simp [binV_len]) rfl ?_; intro w16 hB16 hk16 hs16
    rw [splice_all (by simp [binV_len])] at hB16
    refine ops_nil ?_
    refine W_ret ?_
    refine retA (binV ⟨(b1R bs bad).1, (b2R bs bad).1, (b3R bs bad).1, (b4R bs bad).1⟩) rfl rfl rfl rfl (by first | rfl | (rw [binV_len]; rfl) | (rw [dgR_len]; rfl) | (rw [refR_len]; rfl) | (rw [secR_len]; rfl) | (rw [List.length_map, tagF_len]; rfl)) hB16.all ?_
    rw [bnR_def, if_neg (show ¬ (b4R bs bad).2.2 = true by rw [h11]; simp)]
    refine ⟨rfl, hI9.keep' hk16 (show b ≠ b1 by omega) (fun k _ hA e => by have := hA1 k hA; omega), ?_⟩
    exact (hkw.trans (hk16.mono fun k _ h => h.2)).mono fun k hk h => ⟨h, by omega⟩
theorem rf10_Take (w : World) (b : Nat) (A : Nat → Prop) (bs : List UInt8) (bad : Bool) (hAb : ¬ A b) (hAl : ∀ k, A k → k < w.heap.size) (h : RIn w b A bs bad) :
    Ret Try.prog 23 [.pointer (some ⟨b, 0, none⟩)].toArray w fun r w' => r = .agg (binV (bnR bs bad).1).toArray ∧ RIn w' b A (bnR bs bad).2.1 (bnR bs bad).2.2 ∧ Keep (· ≠ b) w w' := by
  have hbl := h.lt
  have l1 := b1R_le bs bad
  have l2 := b2R_le bs bad
  have l3 := b3R_le bs bad
  refine enter (fn := Try.f23) (n := 25) Try.func23 rfl rfl (by simp) ?_
  refine W_seq ?_
  refine W_region ?_
  refine o_alloc rfl rfl rfl ?_; intro w1 b1 e1 hB1 hk1 hs1
  have hB1 : Blk w1 b1 (binV Bn.zero) 31 := hB1
  refine ops_nil ?_
  refine W_seq ?_
  refine W_region ?_
  refine o_mvt rfl ?_
  refine op_call rfl rfl rfl (rn_Number w1 b A bs bad 2147483647 hAb (h.k hk1)) ?_; rintro v2 w2 ⟨rfl, hR2, hk2⟩
  have hR2 : RIn w2 b A (b1R bs bad).2.1 (b1R bs bad).2.2 := hR2
  refine op_run ((r_conv rfl rfl rfl).val (congrArg (Value.int .i64) (conv_i64 (b1R bs bad).1 (by omega)))) rfl ?_
  refine op_run (r_build ((binV ⟨(b1R bs bad).1, 0, 0, Dig.zero⟩)) (_) ([(0, .int .i64 ((b1R bs bad).1 : Int))]) rfl rfl rfl rfl rfl (fill_int0 (by kernel_rfl) (Nat.zero_lt_succ _))) rfl ?_
  refine o_alloc rfl rfl rfl ?_; intro w4 b4 e4 hB4 hk4 hs4
  refine o_storeA (cs := binV ⟨(b1R bs bad).1, 0, 0, Dig.zero⟩) rfl rfl (by first | rfl | exact binV_one _ | exact dgR_one _ | exact refR_one _ | exact secR_one _ | exact all_c8 _) (by first | rfl | (rw [binV_len]; rfl) | (rw [dgR_len]; rfl) | (rw [refR_len]; rfl) | (rw [secR_len]; rfl) | (rw [List.length_map, tagF_len]; rfl)) hB4 (by exact Nat.le_of_eq (by simp [binV_len])) rfl ?_; intro w5 hB5 hk5 hs5
  have hB5 : Blk w5 b4 (binV ⟨(b1R bs bad).1, 0, 0, Dig.zero⟩) 31 := by
    have h := hB5
    rwa [splice_all (by simp [binV_len])] at h
  have hz1 := hk1.size
  have hz2 := hk2.size
  have hA1 : ∀ k, A k → k < b1 := fun k hk => by have := hAl k hk; omega
  have hR5 := (hR2.k hk4).keep' hk5 (show b ≠ b4 by omega) (fun k hk hA e => by have := hA1 k hA; omega)
  refine ops_nil ?_
  refine W_seq ?_
  refine W_region ?_
  refine o_mvt rfl ?_
  refine op_call rfl rfl rfl (rn_Number w5 b A (b1R bs bad).2.1 (b1R bs bad).2.2 65535 hAb hR5) ?_; rintro v6 w6 ⟨rfl, hR6, hk6⟩
  have hR6 : RIn w6 b A (b2R bs bad).2.1 (b2R bs bad).2.2 := hR6
  have hB6 := hk6.blk' hB5 (show b4 ≠ b by omega)
  refine op_run ((r_conv rfl rfl rfl).val (congrArg (Value.int .i64) (conv_i64 (b2R bs bad).1 (by omega)))) rfl ?_
  refine op_run (r_fieldAddr rfl rfl rfl rfl rfl) rfl ?_
  refine o_store (v := .int .i64 ((b2R bs bad).1 : Int)) rfl rfl rfl rfl hB6 (by rw [binV_len]; decide) rfl ?_; intro w7 hB7 hk7 hs7
  have hB7 : Blk w7 b4 (binV ⟨(b1R bs bad).1, (b2R bs bad).1, 0, Dig.zero⟩) 31 := hB7
  have hR7 := hR6.keep' hk7 (show b ≠ b4 by omega) (fun k hk hA e => by have := hA1 k hA; omega)
  refine ops_nil ?_
  refine W_seq ?_
  refine W_region ?_
  refine o_mvt rfl ?_
  refine op_call rfl rfl rfl (rn_Number w7 b A (b2R bs bad).2.1 (b2R bs bad).2.2 65536 hAb hR7) ?_; rintro v8 w8 ⟨rfl, hR8, hk8⟩
  have hR8 : RIn w8 b A (b3R bs bad).2.1 (b3R bs bad).2.2 := hR8
  have hB8 := hk8.blk' hB7 (show b4 ≠ b by omega)
  refine op_run ((r_conv rfl rfl rfl).val (congrArg (Value.int .i64) (conv_i64 (b3R bs bad).1 (by omega)))) rfl ?_
  refine op_run (r_fieldAddr rfl rfl rfl rfl rfl) rfl ?_
  refine o_store (v := .int .i64 ((b3R bs bad).1 : Int)) rfl rfl rfl rfl hB8 (by rw [binV_len]; decide) rfl ?_; intro w9 hB9 hk9 hs9
  have hB9 : Blk w9 b4 (binV ⟨(b1R bs bad).1, (b2R bs bad).1, (b3R bs bad).1, Dig.zero⟩) 31 := hB9
  have hR9 := hR8.keep' hk9 (show b ≠ b4 by omega) (fun k hk hA e => by have := hA1 k hA; omega)
  have hz9 : w2.heap.size ≤ w9.heap.size := by have := hk4.size; have := hk5.size; have := hk6.size; have := hk7.size; have := hk8.size; have := hk9.size; omega
  refine ops_nil ?_
  refine W_seq ?_
  refine W_region ?_
  refine o_mvt rfl ?_
  refine op_call rfl rfl rfl (rn_Digest w9 b A (b3R bs bad).2.1 (b3R bs bad).2.2 hAb (fun k hk => by have := hA1 k hk; omega) hR9) ?_; rintro v10 w10 ⟨rfl, hR10, hk10⟩
  have hR10 : RIn w10 b A (b4R bs bad).2.1 (b4R bs bad).2.2 := hR10
  have hB10 := hk10.blk' hB9 (show b4 ≠ b by omega)
  refine op_run (r_fieldAddr rfl rfl rfl rfl rfl) rfl ?_
  refine o_storeA (cs := dgR (b4R bs bad).1) rfl rfl (by first | rfl | exact binV_one _ | exact dgR_one _ | exact refR_one _ | exact secR_one _ | exact all_c8 _) (by first | rfl | (rw [binV_len]; rfl) | (rw [dgR_len]; rfl) | (rw [refR_len]; rfl) | (rw [secR_len]; rfl) | (rw [List.length_map, tagF_len]; rfl)) hB10 (by rw [binV_len, dgR_len]; decide) rfl ?_; intro w11 hB11 hk11 hs11
  have hB11 : Blk w11 b4 (binV ⟨(b1R bs bad).1, (b2R bs bad).1, (b3R bs bad).1, (b4R bs bad).1⟩) 31 := by
    have h : Blk w11 b4 (splice (binV ⟨(b1R bs bad).1, (b2R bs bad).1, (b3R bs bad).1, Dig.zero⟩) 3 (dgR (b4R bs bad).1)) 31 := hB11
    rwa [binV_setD] at h
  have hR11 := hR10.keep' hk11 (show b ≠ b4 by omega) (fun k hk hA e => by have := hA1 k hA; omega)
  have hkw : Keep (fun k => k ≠ b ∧ k ≠ b4 ∧ k ≠ b1) w w11 := ((((((((hk1.all.trans (hk2.mono fun k _ h => h.1)).trans hk4.all).trans (hk5.mono fun k _ h => h.2.1)).trans (hk6.mono fun k _ h => h.1)).trans (hk7.mono fun k _ h => h.2.1)).trans (hk8.mono fun k _ h => h.1)).trans (hk9.mono fun k _ h => h.2.1)).trans (hk10.mono fun k _ h => h.1)).trans (hk11.mono fun k _ h => h.2.1)
  have hk211 : Keep (fun k => k ≠ b ∧ k ≠ b4) w1 w11 := ((((((((hk2.mono fun k _ h => h.1).trans hk4.all).trans (hk5.mono fun k _ h => h.2)).trans (hk6.mono fun k _ h => h.1)).trans (hk7.mono fun k _ h => h.2)).trans (hk8.mono fun k _ h => h.1)).trans (hk9.mono fun k _ h => h.2)).trans (hk10.mono fun k _ h => h.1)).trans (hk11.mono fun k _ h => h.2)
  have hB1' := hk211.blk' hB1 (show b1 ≠ b ∧ b1 ≠ b4 by omega)
  obtain ⟨vI, bI, aI, hBI, hrestI⟩ := id hR11
  refine ops_nil ?_
  refine W_seq ?_
  refine W_seq ?_
  refine W_region ?_
  refine o_mvt rfl ?_
  refine op_run (r_nilCheck rfl) rfl ?_
  refine op_run (r_fieldAddr rfl rfl rfl rfl rfl) rfl ?_
  refine op_run (r_load rfl rfl rfl (hBI.cell rfl)) rfl ?_
  refine ops_nil ?_
  refine W_cond rfl (fun h13 => ?_) (fun h13 => ?_)
  · refine W_seq ?_
    refine W_region ?_
    refine op_run (r_build ((binV Bn.zero)) (_) ([]) rfl rfl rfl rfl rfl (rfl)) rfl ?_
    refine o_storeA (cs := binV Bn.zero) rfl rfl (by first | rfl | exact binV_one _ | exact dgR_one _ | exact refR_one _ | exact secR_one _ | exact all_c8 _) (by first | rfl | (rw [binV_len]; rfl) | (rw [dgR_len]; rfl) | (rw [refR_len]; rfl) | (rw [secR_len]; rfl) | (rw [List.length_map, tagF_len]; rfl)) hB1' (by simp [binV_len]) rfl ?_; intro w15 hB15 hk15 hs15
    rw [splice_all (by simp [binV_len])] at hB15
    refine ops_nil ?_
    refine W_ret ?_
    refine retA (binV Bn.zero) rfl rfl rfl rfl (by first | rfl | (rw [binV_len]; rfl) | (rw [dgR_len]; rfl) | (rw [refR_len]; rfl) | (rw [secR_len]; rfl) | (rw [List.length_map, tagF_len]; rfl)) hB15.all ?_
    rw [bnR_def, if_pos h13]
    refine ⟨rfl, hR11.keep' hk15 (show b ≠ b1 by omega) (fun k hk hA e => by have := hA1 k hA; omega), ?_⟩
    exact (hkw.trans (hk15.mono fun k _ h => h.2.2)).mono fun k hk h => ⟨h, by omega, by omega⟩
  · refine W_skip ?_
    refine W_seq ?_
    refine W_region ?_
    refine op_run (r_loadA (binV ⟨(b1R bs bad).1, (b2R bs bad).1, (b3R bs bad).1, (b4R bs bad).1⟩) rfl rfl rfl (by first | rfl | (rw [binV_len]; rfl) | (rw [dgR_len]; rfl) | (rw [refR_len]; rfl) | (rw [secR_len]; rfl) | (rw [List.length_map, tagF_len]; rfl)) (hB11.all)) rfl ?_
    refine o_storeA (cs := binV ⟨(b1R bs bad).1, (b2R bs bad).1, (b3R bs bad).1, (b4R bs bad).1⟩) rfl rfl (by first | rfl | exact binV_one _ | exact dgR_one _ | exact refR_one _ | exact secR_one _ | exact all_c8 _) (by first | rfl | (rw [binV_len]; rfl) | (rw [dgR_len]; rfl) | (rw [refR_len]; rfl) | (rw [secR_len]; rfl) | (rw [List.length_map, tagF_len]; rfl)) hB1' (by simp [binV_len]) rfl ?_; intro w18 hB18 hk18 hs18
    rw [splice_all (by simp [binV_len])] at hB18
    refine ops_nil ?_
    refine W_ret ?_
    refine retA (binV ⟨(b1R bs bad).1, (b2R bs bad).1, (b3R bs bad).1, (b4R bs bad).1⟩) rfl rfl rfl rfl (by first | rfl | (rw [binV_len]; rfl) | (rw [dgR_len]; rfl) | (rw [refR_len]; rfl) | (rw [secR_len]; rfl) | (rw [List.length_map, tagF_len]; rfl)) hB18.all ?_
    rw [bnR_def, if_neg (show ¬ (b4R bs bad).2.2 = true by rw [h13]; simp)]
    refine ⟨rfl, hR11.keep' hk18 (show b ≠ b1 by omega) (fun k hk hA e => by have := hA1 k hA; omega), ?_⟩
    exact (hkw.trans (hk18.mono fun k _ h => h.2.2)).mono fun k hk h => ⟨h, by omega, by omega⟩
end Go.Proofs.Ytigehkfdfecfoaa.B
