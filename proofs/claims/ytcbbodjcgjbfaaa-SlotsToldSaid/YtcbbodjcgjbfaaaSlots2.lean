/-
  slots: written, read, found.
-/
import Derived.Test.YtcbbodjcgjbfaaaSlots1
namespace Go.Proofs.Ytcbbodjcgjbfaaa.B
open Go
set_option linter.unusedVariables false
set_option maxHeartbeats 2000000
set_option maxRecDepth 100000
attribute [local irreducible] W OpsW OpsQ retP
/-- What a slot tells. -/
def rdS (M : List Sec) (slot : Int) : Option Rf := if 0 ≤ slot ∧ slot < 2 then (M[slot.toNat]?).bind fun s => told s.val else none
theorem told_laid {r : Rf} (h : r.may) : told (laidB r) = some r := told_iff.2 ⟨h, rfl⟩
theorem told_not {r : Rf} (h : ¬ r.may) : told (laidB r) ≠ some r := fun e => h (told_iff.1 e).1

theorem sl_Read (w : World) (b : Nat) (A : Nat → Prop) (N : Nat) (L : List Sec) (T : List (Nat × Sec)) (f : Nat) (slot : Int) (h : DkC w b A N L T f) (hN : 2 ≤ N) (hTl : T.length < 1000000) :
    Ret Try.prog 9 [.pointer (some ⟨b, 0, none⟩), .int .i64 slot].toArray w fun u w' => u = optR (rdS (seen L T) slot) ∧ Keep All w w' := by
  refine enter (fn := Try.f9) (n := 25) Try.func9 rfl rfl (by simp) ?_
  refine W_seq ?_
  refine W_region ?_
  refine o_alloc rfl rfl rfl ?_; intro w1 b1 e1 hB1 hk1 hs1
  have hB1 : Blk w1 b1 (refR Rf.zero) 26 := by rw [refR_zero]; exact hB1
  refine o_asc rfl ?_
  refine ops_nil ?_
  refine W_seq ?_
  refine W_region ?_
  refine o_mvt rfl ?_
  refine o_mvt rfl ?_
  refine op_call rfl rfl rfl (dk_Read w1 b A N L T f slot (h.keep hk1 (fun _ _ => trivial)) hTl) ?_; rintro v2 w2 ⟨s, e, rfl, hse, hk2⟩
  refine o_mvt rfl ?_
  refine op_run (r_extract rfl rfl) rfl ?_
  refine op_run (r_extract rfl rfl) rfl ?_
  refine o_alloc rfl rfl rfl ?_; intro w3 b3 e3 hB3 hk3 hs3
  refine o_storeA (cs := secR s) rfl rfl (by first | rfl | exact dgR_one _ | exact refR_one _ | exact secR_one _ | exact all_c8 _) (by first | rfl | (rw [dgR_len]; rfl) | (rw [refR_len]; rfl) | (rw [secR_len]; rfl) | (rw [List.length_map, tagF_len]; rfl)) hB3 (by exact Nat.le_of_eq (by simp [secR_len])) rfl ?_; intro w4 hB4 hk4 hs4
  have hB4 : Blk w4 b3 (secR s) 28 := by
    have h := hB4
    rwa [splice_all (by simp [secR_len])] at h
  have hz1 := hk1.size
  have hz2 := hk2.size
  have hkw : Keep All w w4 := ((hk1.trans hk2).trans hk3).new hk4 (by omega)
  have hB1' := hk4.blk' (hk3.blk' (hk2.blk' hB1 trivial) trivial) (show b1 ≠ b3 by omega)
  refine o_ast rfl ?_
  refine ops_nil ?_
  refine W_seq ?_
  refine W_cut [19] [14, 15, 16, 17, 18, 19] (fun vs w5 => vs = [.bool (decide (¬ (0 ≤ slot ∧ slot < 2)))] ∧ w5 = w4) ?_ ?_
  · refine W_region ?_
    refine o_mvt rfl ?_
    refine op_run (r_neq rfl rfl) rfl ?_
    refine o_mvt rfl ?_
    refine g_split rfl rfl rfl (fun g6 => ?_) (fun g6 => ?_)
    · refine o_mvt (g_yes rfl rfl rfl g6) ?_
      refine op_run (r_geq rfl rfl) (g_yes rfl rfl rfl g6) ?_
      refine o_pkFt rfl g6 rfl ?_
      refine ops_nil ?_
      refine ⟨by (repeat (first | with_reducible exact offM_refl _ _ | refine offM_updc rfl ?_ | refine offM_upd rfl ?_ | refine offM_updo rfl ?_ | refine offM_updo_none ?_ | refine offM_head rfl rfl ?_)), congrArg (fun b => [Value.bool b]) ?_, rfl⟩
      have g6 := of_decide_eq_false g6
      rw [decide_eq_decide]
      rcases hse with ⟨h1, h2, _⟩ | ⟨h1, h2, _⟩ <;> constructor <;> intro hh <;> omega
    · refine op_skip (g_no rfl rfl rfl g6) ?_
      refine op_skip (g_no rfl rfl rfl g6) ?_
      refine o_pkTc rfl g6 rfl ?_
      refine ops_nil ?_
      refine ⟨by (repeat (first | with_reducible exact offM_refl _ _ | refine offM_updc rfl ?_ | refine offM_upd rfl ?_ | refine offM_updo rfl ?_ | refine offM_updo_none ?_ | refine offM_head rfl rfl ?_)), congrArg (fun b => [Value.bool b]) ?_, rfl⟩
      have g6 := of_decide_eq_true g6
      symm; apply decide_eq_true
      rcases hse with ⟨h1, h2, _⟩ | ⟨h1, h2, _⟩ <;> omega
  · rintro J9 vs w9 ⟨rfl, rfl⟩ -
    refine W_cond_p rfl (fun h10 => ?_) (fun h10 => ?_)
    · refine W_seq ?_
      refine W_region ?_
      refine op_run (r_build ((refR Rf.zero)) (_) ([]) rfl rfl rfl rfl rfl (by rw [refR_zero]; rfl)) rfl ?_
      refine o_storeA (cs := refR Rf.zero) rfl rfl (by first | rfl | exact dgR_one _ | exact refR_one _ | exact secR_one _ | exact all_c8 _) (by first | rfl | (rw [dgR_len]; rfl) | (rw [refR_len]; rfl) | (rw [secR_len]; rfl) | (rw [List.length_map, tagF_len]; rfl)) hB1' (by exact Nat.le_of_eq (by simp [refR_len])) rfl ?_; intro w12 hB12 hk12 hs12
      rw [splice_all (by simp [refR_len])] at hB12
      refine o_asc rfl ?_
      refine ops_nil ?_
      refine W_ret ?_
      refine retAT (refR Rf.zero) (.bool false) rfl rfl rfl rfl rfl (by first | rfl | (rw [dgR_len]; rfl) | (rw [refR_len]; rfl) | (rw [secR_len]; rfl) | (rw [List.length_map, tagF_len]; rfl)) (hB12.all) ?_
      unfold rdS
      rw [if_neg h10]
      exact ⟨rfl, hkw.new hk12 (by omega)⟩
    · refine W_skip ?_
      refine W_seq ?_
      refine W_region ?_
      have hsl : 0 ≤ slot ∧ slot < 2 := Decidable.not_not.1 h10
      have hs : (seen L T)[slot.toNat]? = some s := by
        rcases hse with ⟨_, _, h1⟩ | ⟨h1, _⟩
        · exact h1
        · omega
      refine op_run (r_loadA (secR s) rfl rfl rfl (by first | rfl | (rw [dgR_len]; rfl) | (rw [refR_len]; rfl) | (rw [secR_len]; rfl) | (rw [List.length_map, tagF_len]; rfl)) (hB4.all)) rfl ?_
      refine op_call rfl rfl rfl (sl_told w9 s) ?_; rintro v15 w15 ⟨rfl, hk15⟩
      refine op_run (r_extract rfl rfl) rfl ?_
      refine op_run (r_extract rfl rfl) rfl ?_
      refine o_storeA (cs := refR ((told s.val).getD Rf.zero)) rfl rfl (by first | rfl | exact dgR_one _ | exact refR_one _ | exact secR_one _ | exact all_c8 _) (by first | rfl | (rw [dgR_len]; rfl) | (rw [refR_len]; rfl) | (rw [secR_len]; rfl) | (rw [List.length_map, tagF_len]; rfl)) (hk15.blk' hB1' trivial) (by exact Nat.le_of_eq (by simp [refR_len])) rfl ?_; intro w16 hB16 hk16 hs16
      rw [splice_all (by simp [refR_len])] at hB16
      refine o_ast rfl ?_
      refine ops_nil ?_
      refine W_ret ?_
      refine retAT (refR ((told s.val).getD Rf.zero)) (.bool (told s.val).isSome) rfl rfl rfl rfl rfl (by first | rfl | (rw [dgR_len]; rfl) | (rw [refR_len]; rfl) | (rw [secR_len]; rfl) | (rw [List.length_map, tagF_len]; rfl)) (hB16.all) ?_
      unfold rdS
      rw [if_pos hsl, hs]
      exact ⟨rfl, (hkw.trans hk15).new hk16 (by omega)⟩

theorem sl_Write (w : World) (b : Nat) (A : Nat → Prop) (N : Nat) (L : List Sec) (T : List (Nat × Sec)) (epoch : Nat) (r : Rf) (h : DkC w b A N L T 0) (hA : ∀ k, A k → k < w.heap.size) (hN : 2 ≤ N) (hTl : T.length < 1000000) (he : epoch < 2 ^ 64) :
    Ret Try.prog 11 [.pointer (some ⟨b, 0, none⟩), .int .u64 epoch, .agg (refR r).toArray].toArray w fun u w' => u = .int .i64 (if r.may then 0 else 1) ∧
      DkC w' b (fun k => A k ∨ w.heap.size ≤ k) N L (if r.may then T ++ [(epoch % 2, laidS r)] else T) 0 ∧ Keep (fun k => ¬ A k) w w' := by
  refine enter (fn := Try.f11) (n := 30) Try.func11 rfl rfl (by simp) ?_
  refine W_seq ?_
  refine W_region ?_
  refine o_box rfl rfl rfl ?_; intro w1 b1 e1 hB1 hk1 hs1
  refine o_asc rfl ?_
  refine ops_nil ?_
  refine W_seq ?_
  refine W_region ?_
  refine op_run (r_loadA (refR r) rfl rfl rfl (by first | rfl | (rw [dgR_len]; rfl) | (rw [refR_len]; rfl) | (rw [secR_len]; rfl) | (rw [List.length_map, tagF_len]; rfl)) (hB1.all)) rfl ?_
  refine op_call rfl rfl rfl (sl_laid w1 r) ?_; rintro v3 w3 ⟨rfl, hk3⟩
  refine o_alloc rfl rfl rfl ?_; intro w4 b4 e4 hB4 hk4 hs4
  refine o_storeA (cs := secR (laidS r)) rfl rfl (by first | rfl | exact dgR_one _ | exact refR_one _ | exact secR_one _ | exact all_c8 _) (by first | rfl | (rw [dgR_len]; rfl) | (rw [refR_len]; rfl) | (rw [secR_len]; rfl) | (rw [List.length_map, tagF_len]; rfl)) hB4 (by exact Nat.le_of_eq (by simp [secR_len])) rfl ?_; intro w5 hB5 hk5 hs5
  rw [splice_all (by simp [secR_len])] at hB5
  refine ops_nil ?_
  refine W_seq ?_
  refine W_seq ?_
  refine W_region ?_
  refine op_run (r_loadA (secR (laidS r)) rfl rfl rfl (by first | rfl | (rw [dgR_len]; rfl) | (rw [refR_len]; rfl) | (rw [secR_len]; rfl) | (rw [List.length_map, tagF_len]; rfl)) (hB5.all)) rfl ?_
  refine op_call rfl rfl rfl (sl_told w5 (laidS r)) ?_; rintro v7 w7 ⟨rfl, hk7⟩
  refine o_mvt rfl ?_
  refine op_run (r_extract rfl rfl) rfl ?_
  refine op_run (r_extract rfl rfl) rfl ?_
  refine o_alloc rfl rfl rfl ?_; intro w8 b8 e8 hB8 hk8 hs8
  refine o_storeA (cs := refR ((told (laidB r)).getD Rf.zero)) rfl rfl (by first | rfl | exact dgR_one _ | exact refR_one _ | exact secR_one _ | exact all_c8 _) (by first | rfl | (rw [dgR_len]; rfl) | (rw [refR_len]; rfl) | (rw [secR_len]; rfl) | (rw [List.length_map, tagF_len]; rfl)) hB8 (by exact Nat.le_of_eq (by simp [refR_len])) rfl ?_; intro w9 hB9 hk9 hs9
  have hB9 : Blk w9 b8 (refR ((told (laidB r)).getD Rf.zero)) 26 := by
    have h := hB9
    rwa [splice_all (by simp [refR_len])] at h
  have hz1 := hk1.size
  have hz3 := hk3.size
  have hz7 := hk7.size
  have hB1' := hk9.blk' (hk8.blk' (hk7.blk' (hk5.blk' (hk4.blk' (hk3.blk' hB1 trivial) trivial) (show b1 ≠ b4 by omega)) trivial) trivial) (show b1 ≠ b8 by omega)
  have hB5' := hk9.blk' (hk8.blk' (hk7.blk' hB5 trivial) trivial) (show b4 ≠ b8 by omega)
  have hkw : Keep All w w9 := (((((hk1.trans hk3).trans hk4).new hk5 (by omega)).trans hk7).trans hk8).new hk9 (by omega)
  refine o_ast rfl ?_
  refine ops_nil ?_
  refine W_cut [23] [17, 18, 19, 20, 21, 22, 23] (fun vs w10 => vs = [.bool (decide (¬ r.may))] ∧ w10 = w9) ?_ ?_
  · refine W_region ?_
    refine o_mvt rfl ?_
    refine op_run (r_not rfl) rfl ?_
    refine o_mvt rfl ?_
    refine g_split rfl rfl rfl (fun g11 => ?_) (fun g11 => ?_)
    · refine op_run (r_loadA (refR ((told (laidB r)).getD Rf.zero)) rfl rfl rfl (by first | rfl | (rw [dgR_len]; rfl) | (rw [refR_len]; rfl) | (rw [secR_len]; rfl) | (rw [List.length_map, tagF_len]; rfl)) (hB9.all)) (g_yes rfl rfl rfl (by rw [g11] <;> rfl)) ?_
      refine op_run (r_loadA (refR r) rfl rfl rfl (by first | rfl | (rw [dgR_len]; rfl) | (rw [refR_len]; rfl) | (rw [secR_len]; rfl) | (rw [List.length_map, tagF_len]; rfl)) (hB1'.all)) (g_yes rfl rfl rfl (by rw [g11] <;> rfl)) ?_
      refine op_run (r_neqC (p := (told (laidB r)).getD Rf.zero = r) rfl rfl rfl rfl (by kernel_rfl) (okC_ref _) (okC_ref _) rfl (refR_inj)) (g_yes rfl rfl rfl (by rw [g11] <;> rfl)) ?_
      refine o_pkFt rfl (by rw [g11] <;> rfl) rfl ?_
      refine ops_nil ?_
      refine ⟨by (repeat (first | with_reducible exact offM_refl _ _ | refine offM_updc rfl ?_ | refine offM_upd rfl ?_ | refine offM_updo rfl ?_ | refine offM_updo_none ?_ | refine offM_head rfl rfl ?_)), congrArg (fun b => [Value.bool b]) ?_, rfl⟩
      have g11 : (told (laidB r)).isSome = true := by have h : (!(told (laidB r)).isSome) = false := g11; simpa using h
      rw [← decide_not, decide_eq_decide]
      refine not_congr ?_
      obtain ⟨x, hx⟩ := Option.isSome_iff_exists.1 g11
      rw [hx]
      show x = r ↔ _
      constructor
      · rintro rfl; exact (told_iff.1 hx).1
      · intro hm; rw [told_laid hm] at hx; injection hx with hx; exact hx.symm
    · refine op_skip (g_no rfl rfl rfl (by rw [g11] <;> rfl)) ?_
      refine op_skip (g_no rfl rfl rfl (by rw [g11] <;> rfl)) ?_
      refine op_skip (g_no rfl rfl rfl (by rw [g11] <;> rfl)) ?_
      refine o_pkTc rfl (by rw [g11] <;> rfl) rfl ?_
      refine ops_nil ?_
      refine ⟨by (repeat (first | with_reducible exact offM_refl _ _ | refine offM_updc rfl ?_ | refine offM_upd rfl ?_ | refine offM_updo rfl ?_ | refine offM_updo_none ?_ | refine offM_head rfl rfl ?_)), congrArg (fun b => [Value.bool b]) ?_, rfl⟩
      have g11 : (told (laidB r)).isSome = false := by have h : (!(told (laidB r)).isSome) = true := g11; simpa using h
      symm; apply decide_eq_true
      intro hm; rw [told_laid hm] at g11; cases g11
  · rintro J17 vs w17 ⟨rfl, rfl⟩ -
    refine W_cond_p rfl (fun h18 => ?_) (fun h18 => ?_)
    · refine W_seq ?_
      refine W_region ?_
      refine o_asc rfl ?_
      refine ops_nil ?_
      refine W_ret ?_
      refine ret1 (.int .i64 1) rfl ?_ ?_; rfl
      rw [if_neg h18, if_neg h18]
      exact ⟨rfl, (h.keep hkw (fun _ _ => trivial)).mono fun _ hk => .inl hk, hkw.all⟩
    · refine W_skip ?_
      refine W_seq ?_
      refine W_region ?_
      refine o_mvt rfl ?_
      refine o_mvt rfl ?_
      refine op_run (r_rem rfl rfl (by decide)) rfl ?_
      refine op_run ((r_conv rfl rfl rfl).val (congrArg (Value.int .i64) (show IntKind.i64.wrap (Int.tmod (epoch : Int) 2) = ((epoch % 2 : Nat) : Int) from (show IntKind.i64.wrap ((epoch % 2 : Nat) : Int) = _ from wrap_i64 (by omega) (by omega))))) rfl ?_
      refine op_run (r_loadA (secR (laidS r)) rfl rfl rfl (by first | rfl | (rw [dgR_len]; rfl) | (rw [refR_len]; rfl) | (rw [secR_len]; rfl) | (rw [List.length_map, tagF_len]; rfl)) (hB5'.all)) rfl ?_
      refine op_call rfl rfl rfl (dk_Write w17 b A N L T 0 ((epoch % 2 : Nat) : Int) (laidS r) (h.keep hkw (fun _ _ => trivial)) (fun k hk => by have := hA k hk; have := hkw.size; omega) hTl) ?_; rintro v21 w21 ⟨rfl, hD, hk21⟩
      refine o_ast rfl ?_
      refine ops_nil ?_
      refine W_ret ?_
      refine ret1 (.int .i64 (if (0 : Int) ≤ ((epoch % 2 : Nat) : Int) ∧ ((epoch % 2 : Nat) : Int) < N then 0 else 2)) rfl ?_ ?_; rfl
      have hm : r.may := Decidable.not_not.1 h18
      have hc : (0 : Int) ≤ ((epoch % 2 : Nat) : Int) ∧ ((epoch % 2 : Nat) : Int) < N := ⟨by omega, by omega⟩
      rw [if_pos hm, if_pos hm, if_pos hc]
      rw [if_pos ⟨hc, by decide⟩, if_pos ⟨hc, by decide⟩] at hD
      exact ⟨rfl, hD.mono fun k hk => hk.imp id fun h => by have := hkw.size; omega, hkw.all.trans hk21⟩

/-- Where the commit of a digest stands. -/
def fnd (M : List Sec) (d : Dig) (i : Nat) : Option Rf := (rdS M i).filter fun r => decide (r.dig = d)
def findS (M : List Sec) (d : Dig) : Option Rf := (fnd M d 0).or (fnd M d 1)

theorem sl_Find (w : World) (b : Nat) (A : Nat → Prop) (N : Nat) (L : List Sec) (T : List (Nat × Sec)) (f : Nat) (d : Dig) (h : DkC w b A N L T f) (hN : 2 ≤ N) (hTl : T.length < 1000000) :
    Ret Try.prog 10 [.pointer (some ⟨b, 0, none⟩), .agg (dgR d).toArray].toArray w fun u w' => u = .tuple #[.agg (refR ((findS (seen L T) d).getD Rf.zero)).toArray, .int .i64 (if (findS (seen L T) d).isSome then 0 else 7)] ∧ Keep All w w' := by
  refine enter (fn := Try.f10) (n := 28) Try.func10 rfl rfl (by simp) ?_
  refine W_seq ?_
  refine W_region ?_
  refine o_box rfl rfl rfl ?_; intro w1 b1 e1 hB1 hk1 hs1
  refine o_alloc rfl rfl rfl ?_; intro w2 b2 e2 hB2 hk2 hs2
  have hB2 : Blk w2 b2 (refR Rf.zero) 26 := by rw [refR_zero]; exact hB2
  refine o_asc rfl ?_
  refine ops_nil ?_
  refine W_seq ?_
  refine W_seq ?_
  refine W_region ?_
  refine o_mvc rfl ?_
  refine ops_nil ?_
  refine W_block ?_
  refine W_loop [9] [5, 6, 7, 8, 9, 10, 11, 12, 13, 14, 15, 16, 17, 18, 19, 20, 21, 22, 23, 24, 25, 26] (fun vs w' => ∃ k : Nat, vs = [.int .i64 k] ∧ k ≤ 2 ∧ (∀ i, i < k → fnd (seen L T) d i = none) ∧ Keep All w2 w') (fun vs _ => match vs with | [.int _ k] => 2 - k.toNat | _ => 0) ⟨0, rfl, by omega, (fun i hi => by omega), Keep.refl _⟩ ?_
  rintro J3 vs w3 ⟨k, rfl, hk, hno, hk3⟩ -
  have hkw := (hk1.trans hk2).trans hk3
  refine W_seq ?_
  refine W_region ?_
  refine op_run (r_lss rfl rfl) rfl ?_
  refine ops_nil ?_
  refine W_seq ?_
  refine W_cond_p rfl (fun h4 => ?_) (fun h4 => ?_)
  · refine W_skip ?_
    refine W_seq ?_
    refine W_block ?_
    refine W_seq ?_
    refine W_region ?_
    refine o_mvt rfl ?_
    refine o_ast rfl ?_
    refine ops_nil ?_
    refine W_seq ?_
    refine W_region ?_
    refine o_mvt rfl ?_
    refine o_mvt rfl ?_
    have hk2' : k < 2 := by omega
    have hinck := inc64' k (by omega)
    refine op_call rfl rfl rfl (sl_Read w3 b A N L T f k (h.keep hkw (fun _ _ => trivial)) hN hTl) ?_; rintro v5 w5 ⟨rfl, hk5⟩
    refine o_mvt rfl ?_
    refine op_run (r_extract rfl rfl) rfl ?_
    refine op_run (r_extract rfl rfl) rfl ?_
    refine o_alloc rfl rfl rfl ?_; intro w6 b6 e6 hB6 hk6 hs6
    refine o_storeA (cs := refR ((rdS (seen L T) k).getD Rf.zero)) rfl rfl (by first | rfl | exact dgR_one _ | exact refR_one _ | exact secR_one _ | exact all_c8 _) (by first | rfl | (rw [dgR_len]; rfl) | (rw [refR_len]; rfl) | (rw [secR_len]; rfl) | (rw [List.length_map, tagF_len]; rfl)) hB6 (by exact Nat.le_of_eq (by simp [refR_len])) rfl ?_; intro w7 hB7 hk7 hs7
    have hB7 : Blk w7 b6 (refR ((rdS (seen L T) k).getD Rf.zero)) 26 := by
      have h := hB7
      rwa [splice_all (by simp [refR_len])] at h
    have hz1 := hk1.size
    have hz3 := hk3.size
    have hz5 := hk5.size
    have hB1' := hk7.blk' (hk6.blk' (hk5.blk' (hk3.blk' (hk2.blk' hB1 trivial) trivial) trivial) trivial) (show b1 ≠ b6 by omega)
    have hB2' := hk7.blk' (hk6.blk' (hk5.blk' (hk3.blk' hB2 trivial) trivial) trivial) (show b2 ≠ b6 by omega)
    have hk27 : Keep All w2 w7 := ((hk3.trans hk5).trans hk6).new hk7 (by omega)
    refine o_ast rfl ?_
    refine ops_nil ?_
    refine W_cut [24] [18, 19, 20, 21, 22, 23, 24] (fun vs w8 => vs = [.bool (decide (fnd (seen L T) d k ≠ none))] ∧ w8 = w7) ?_ ?_
    · refine W_region ?_
      refine o_mvt rfl ?_
      refine o_mvt rfl ?_
      refine g_split rfl rfl rfl (fun g9 => ?_) (fun g9 => ?_)
      · refine op_run (r_fieldAddr rfl rfl rfl rfl rfl) (g_yes rfl rfl rfl g9) ?_
        refine op_run (r_loadA (dgR ((rdS (seen L T) k).getD Rf.zero).dig) rfl rfl rfl (by first | rfl | (rw [dgR_len]; rfl) | (rw [refR_len]; rfl) | (rw [secR_len]; rfl) | (rw [List.length_map, tagF_len]; rfl)) ((fun j v hj => by rw [Addr.add_lit]; show w7.cell? ⟨b6, 0 + 0 + j, none⟩ = some v; rw [Nat.zero_add]; exact hB7.cell (refR_dig _ hj)))) (g_yes rfl rfl rfl g9) ?_
        refine op_run (r_loadA (dgR d) rfl rfl rfl (by first | rfl | (rw [dgR_len]; rfl) | (rw [refR_len]; rfl) | (rw [secR_len]; rfl) | (rw [List.length_map, tagF_len]; rfl)) (hB1'.all)) (g_yes rfl rfl rfl g9) ?_
        refine op_run (r_eqlC (p := ((rdS (seen L T) k).getD Rf.zero).dig = d) rfl rfl rfl rfl (by kernel_rfl) (okC_dgR _) (okC_dgR _) rfl (dgR_inj)) (g_yes rfl rfl rfl g9) ?_
        refine o_pkTt rfl g9 rfl ?_
        refine ops_nil ?_
        refine ⟨by (repeat (first | with_reducible exact offM_refl _ _ | refine offM_updc rfl ?_ | refine offM_upd rfl ?_ | refine offM_updo rfl ?_ | refine offM_updo_none ?_ | refine offM_head rfl rfl ?_)), congrArg (fun b => [Value.bool b]) ?_, rfl⟩
        have g9 : (rdS (seen L T) k).isSome = true := g9
        obtain ⟨x, hx⟩ := Option.isSome_iff_exists.1 g9
        unfold fnd
        rw [hx, decide_eq_decide]
        by_cases hh : x.dig = d <;> simp [hh]
      · refine op_skip (g_no rfl rfl rfl g9) ?_
        refine op_skip (g_no rfl rfl rfl g9) ?_
        refine op_skip (g_no rfl rfl rfl g9) ?_
        refine op_skip (g_no rfl rfl rfl g9) ?_
        refine o_pkFc rfl g9 rfl ?_
        refine ops_nil ?_
        refine ⟨by (repeat (first | with_reducible exact offM_refl _ _ | refine offM_updc rfl ?_ | refine offM_upd rfl ?_ | refine offM_updo rfl ?_ | refine offM_updo_none ?_ | refine offM_head rfl rfl ?_)), congrArg (fun b => [Value.bool b]) ?_, rfl⟩
        have g9 : (rdS (seen L T) k).isSome = false := g9
        unfold fnd
        rw [Option.isSome_eq_false_iff.1 g9 |> Option.isNone_iff_eq_none.1]; rfl
    · rintro J15 vs w15 ⟨rfl, rfl⟩ -
      refine W_cond_p rfl (fun h16 => ?_) (fun h16 => ?_)
      · refine W_seq ?_
        refine W_region ?_
        refine op_run (r_loadA (refR ((rdS (seen L T) k).getD Rf.zero)) rfl rfl rfl (by first | rfl | (rw [dgR_len]; rfl) | (rw [refR_len]; rfl) | (rw [secR_len]; rfl) | (rw [List.length_map, tagF_len]; rfl)) (hB7.all)) rfl ?_
        refine o_storeA (cs := refR ((rdS (seen L T) k).getD Rf.zero)) rfl rfl (by first | rfl | exact dgR_one _ | exact refR_one _ | exact secR_one _ | exact all_c8 _) (by first | rfl | (rw [dgR_len]; rfl) | (rw [refR_len]; rfl) | (rw [secR_len]; rfl) | (rw [List.length_map, tagF_len]; rfl)) hB2' (by exact Nat.le_of_eq (by simp [refR_len])) rfl ?_; intro w18 hB18 hk18 hs18
        rw [splice_all (by simp [refR_len])] at hB18
        refine o_asc rfl ?_
        refine ops_nil ?_
        refine W_ret ?_
        refine retAT (refR ((rdS (seen L T) k).getD Rf.zero)) (.int .i64 0) rfl rfl rfl rfl rfl (by first | rfl | (rw [dgR_len]; rfl) | (rw [refR_len]; rfl) | (rw [secR_len]; rfl) | (rw [List.length_map, tagF_len]; rfl)) (hB18.all) ?_
        have hfk : findS (seen L T) d = fnd (seen L T) d k := by
          unfold findS
          match k, hk2', hno with
          | 0, _, _ => exact Option.or_of_isSome (Option.isSome_iff_ne_none.2 h16)
          | 1, _, hno => rw [hno 0 (by omega)]; rfl
        have hx : fnd (seen L T) d k = some ((rdS (seen L T) k).getD Rf.zero) := by
          unfold fnd at h16 ⊢
          cases hr : rdS (seen L T) k with
          | none => rw [hr] at h16; exact absurd rfl h16
          | some x =>
            rw [hr] at h16
            by_cases hh : x.dig = d
            · simp [hh]
            · simp [hh] at h16
        rw [hfk, hx]
        exact ⟨rfl, ((hk1.trans hk2).trans hk27).new hk18 (by omega)⟩
      · refine W_skip ?_
        refine W_region ?_
        refine op_run (r_add rfl rfl) rfl ?_
        refine o_mvt rfl ?_
        refine ops_nil ?_
        refine ⟨by (repeat (first | with_reducible exact offM_refl _ _ | refine offM_updc rfl ?_ | refine offM_upd rfl ?_ | refine offM_updo rfl ?_ | refine offM_updo_none ?_ | refine offM_head rfl rfl ?_)), ⟨k + 1, ?_, by omega, fun i hi => ?_, hk27⟩, ?_⟩
        · rw [← hinck]; rfl
        · rcases Nat.lt_or_ge i k with h1 | h1
          · exact hno i h1
          · obtain rfl : i = k := by omega
            exact Decidable.not_not.1 h16
        · show 2 - (IntKind.i64.wrap ((k : Int) + 1)).toNat < 2 - (k : Int).toNat
          rw [hinck]; omega
  · refine W_exit ?_
    refine W_seq ?_
    refine W_region ?_
    refine op_run (r_build ((refR Rf.zero)) (_) ([]) rfl rfl rfl rfl rfl (by rw [refR_zero]; rfl)) rfl ?_
    refine o_storeA (cs := refR Rf.zero) rfl rfl (by first | rfl | exact dgR_one _ | exact refR_one _ | exact secR_one _ | exact all_c8 _) (by first | rfl | (rw [dgR_len]; rfl) | (rw [refR_len]; rfl) | (rw [secR_len]; rfl) | (rw [List.length_map, tagF_len]; rfl)) (hk3.blk' hB2 trivial) (by exact Nat.le_of_eq (by simp [refR_len])) rfl ?_; intro w22 hB22 hk22 hs22
    rw [splice_all (by simp [refR_len])] at hB22
    refine o_asc rfl ?_
    refine ops_nil ?_
    refine W_ret ?_
    refine retAT (refR Rf.zero) (.int .i64 7) rfl rfl rfl rfl rfl (by first | rfl | (rw [dgR_len]; rfl) | (rw [refR_len]; rfl) | (rw [secR_len]; rfl) | (rw [List.length_map, tagF_len]; rfl)) (hB22.all) ?_
    have hkp : k = 2 := by omega
    have hfk : findS (seen L T) d = none := by unfold findS; rw [hno 0 (by omega), hno 1 (by omega)]; rfl
    rw [hfk]
    exact ⟨rfl, hkw.new hk22 (by omega)⟩
end Go.Proofs.Ytcbbodjcgjbfaaa.B
