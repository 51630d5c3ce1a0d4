/-
  MerkleVerifies: the walk.
-/
import Derived.Test.YtnjepmdgbkhoaaaMerk6
namespace Go.Proofs.Ytnjepmdgbkhoaaa.B
open Go
set_option linter.unusedVariables false
set_option maxHeartbeats 2000000
set_option maxRecDepth 100000
attribute [local irreducible] W OpsW OpsQ retP
/-- Rows, each of which is told by its cells, are one row of cells. -/
theorem SlR.sl {α : Type} {w : World} {v : Value} {sz : Nat} {row : α → List Value} {xs : List α} (h : SlR w v sz (fun cs x => cs = row x) xs) (hrow : ∀ x, (row x).length = sz) (h0 : 0 < sz) : Sl w v xs.length sz (rows row xs) := by
  obtain ⟨a, c, rfl, h1, h2, h3, h4⟩ := h
  refine ⟨a, c, rfl, h1, h2, rows_len hrow xs, fun e => h3 e, fun x hx i u hu => ?_⟩
  have hi := (List.getElem?_eq_some_iff.1 hu).1
  rw [rows_len hrow] at hi
  have hq : i / sz < xs.length := Nat.div_lt_of_lt_mul (by rw [Nat.mul_comm]; exact hi)
  have hr : i % sz < sz := Nat.mod_lt _ h0
  have hiq : i / sz * sz + i % sz = i := by rw [Nat.mul_comm]; exact Nat.div_add_mod i sz
  have h00 : 0 < xs.length := Nat.lt_of_le_of_lt (Nat.zero_le _) hq
  obtain ⟨b, o, sp⟩ := x
  have hsp : sp = none := by
    obtain ⟨cs0, hl0, hc0, _⟩ := h4 _ hx 0 xs[0] (List.getElem?_eq_getElem h00)
    have h5 := hc0 0 cs0[0] (List.getElem?_eq_getElem (by omega))
    simp only [Nat.zero_mul, Addr.add_zero'] at h5
    exact World.cell?_spot h5
  subst hsp
  obtain ⟨cs, hl, hc, rfl⟩ := h4 _ hx (i / sz) xs[i / sz] (List.getElem?_eq_getElem hq)
  have hu' : (row xs[i / sz])[i % sz]? = some u := by rw [← rows_get hrow hq hr, hiq]; exact hu
  have := hc _ u hu'
  simp only [Addr.add_lit] at this
  rw [Nat.add_assoc, hiq] at this
  exact ⟨rfl, this⟩

theorem walk_MerkleVerifies (w : World) (root : Dig) (count pos : Int) (vr vp : Value) (row : List UInt8) (proof : List Dig) (hc : count < 2 ^ 63) (hr : By w vr row) (hp : Sl w vp proof.length 32 (rows dgR proof)) :
    Ret Try.prog 3 [.agg (dgR root).toArray, .int .i64 count, .int .i64 pos, vr, vp].toArray w fun r w' => r = .bool true ∧ Keep All w w' := by
  obtain ⟨ar, cr, rfl, _, _⟩ := hr.form
  obtain ⟨ap, cp, rfl, hcp, hcmp⟩ := hp.form
  refine enter (fn := Try.f3) (n := 59) Try.func3 rfl rfl (by simp) ?_
  refine W_seq ?_
  refine W_region ?_
  refine o_box rfl rfl rfl ?_; intro w1 b1 e1 hB1 hk1 hs1
  refine o_asc rfl ?_
  refine ops_nil ?_
  refine W_seq ?_
  refine W_seq ?_
  refine W_region ?_
  refine op_call rfl rfl rfl (speaks03 w1) ?_; rintro v2 w2 ⟨rfl, hk2⟩
  have hB1 := hk2.blk' hB1 trivial
  have hkw := hk1.trans hk2
  refine op_run (r_not rfl) rfl ?_
  refine ops_nil ?_
  refine W_no rfl (rfl) ?_
  refine W_skip ?_
  refine W_seq ?_
  refine W_cut [22] [15, 16, 17, 18, 19, 20, 21, 22] (fun vs w5 => vs = [.bool (decide (300 < row.length ∨ 70 < proof.length))] ∧ w5 = w2) ?_ ?_
  · refine W_region ?_
    refine o_mvt rfl ?_
    refine op_run (r_len rfl rfl rfl) rfl ?_
    refine op_run (r_gtr rfl rfl) rfl ?_
    refine o_mvt rfl ?_
    refine g_split rfl rfl rfl (fun g6 => ?_) (fun g6 => ?_)
    · refine o_mvt (g_yes rfl rfl rfl g6) ?_
      refine op_run (r_len rfl rfl rfl) (g_yes rfl rfl rfl g6) ?_
      refine op_run (r_gtr rfl rfl) (g_yes rfl rfl rfl g6) ?_
      refine o_pkFt rfl g6 rfl ?_
      refine ops_nil ?_
      exact ⟨by (repeat (first | with_reducible exact offM_refl _ _ | refine offM_updc rfl ?_ | refine offM_upd rfl ?_ | refine offM_updo rfl ?_ | refine offM_updo_none ?_ | refine offM_head rfl rfl ?_)), congrArg (fun b => [Value.bool b]) (by have g6 := of_decide_eq_false g6; rw [decide_eq_decide]; omega), rfl⟩
    · refine op_skip (g_no rfl rfl rfl g6) ?_
      refine op_skip (g_no rfl rfl rfl g6) ?_
      refine op_skip (g_no rfl rfl rfl g6) ?_
      refine o_pkTc rfl g6 rfl ?_
      refine ops_nil ?_
      exact ⟨by (repeat (first | with_reducible exact offM_refl _ _ | refine offM_updc rfl ?_ | refine offM_upd rfl ?_ | refine offM_updo rfl ?_ | refine offM_updo_none ?_ | refine offM_head rfl rfl ?_)), congrArg (fun b => [Value.bool b]) (by have g6 := of_decide_eq_true g6; symm; apply decide_eq_true; omega), rfl⟩
  · rintro J9 vs w9 ⟨rfl, rfl⟩ -
    refine W_cond_p rfl (fun h10 => ?_) (fun h10 => ?_)
    · refine W_seq ?_
      refine W_region ?_
      refine o_asc rfl ?_
      refine ops_nil ?_
      refine W_ret ?_
      refine ret1 (.bool true) rfl ?_ ?_; rfl
      exact ⟨rfl, hkw⟩
    · refine W_skip ?_
      refine W_seq ?_
      refine W_seq ?_
      have hrl : row.length ≤ 100000 := by omega
      refine W_held (fun w' => Keep All w9 w') (by kernel_rfl) (Keep.drawn w9) (fun hS => ?_)
      refine any_run 0 (fun w' hS' => (r_loadA (dgR root) rfl rfl rfl (by first | rfl | (rw [dgR_len]; rfl) | (rw [refR_len]; rfl) | (rw [secR_len]; rfl) | (rw [List.length_map, tagF_len]; rfl)) ((hS'.blk' hB1 trivial).all))) rfl (by kernel_rfl) (by kernel_rfl) (by kernel_rfl) rfl hS ?_
      refine any_mvt 1 rfl (by kernel_rfl) (by kernel_rfl) (by kernel_rfl) rfl hS ?_
      refine any_mvt 2 rfl (by kernel_rfl) (by kernel_rfl) (by kernel_rfl) rfl hS ?_
      refine any_mvt 3 rfl (by kernel_rfl) (by kernel_rfl) (by kernel_rfl) rfl hS ?_
      refine any_mvt 4 rfl (by kernel_rfl) (by kernel_rfl) (by kernel_rfl) rfl hS ?_
      refine any_run 6 (fun w' hS' => (r_loadA (dgR root) rfl rfl rfl (by first | rfl | (rw [dgR_len]; rfl) | (rw [refR_len]; rfl) | (rw [secR_len]; rfl) | (rw [List.length_map, tagF_len]; rfl)) ((hS'.blk' hB1 trivial).all))) rfl (by kernel_rfl) (by kernel_rfl) (by kernel_rfl) rfl hS ?_
      refine any_mvt 7 rfl (by kernel_rfl) (by kernel_rfl) (by kernel_rfl) rfl hS ?_
      refine any_mvt 8 rfl (by kernel_rfl) (by kernel_rfl) (by kernel_rfl) rfl hS ?_
      refine any_mvt 9 rfl (by kernel_rfl) (by kernel_rfl) (by kernel_rfl) rfl hS ?_
      refine any_mvt 10 rfl (by kernel_rfl) (by kernel_rfl) (by kernel_rfl) rfl hS ?_
      refine any_one 5 (by kernel_rfl) (one_of rfl ?_)
      refine op_call rfl rfl rfl (mk_Verify _ root count pos _ _ row proof hc ((hr.k hkw).k hS) hrl ((hp.k hkw).k hS)) ?_; rintro v15 w15 ⟨rfl, hk15⟩
      refine ops_nil ⟨hS.trans hk15, fun hS => ?_⟩
      refine any_one 11 (by kernel_rfl) (one_of rfl ?_)
      refine op_call rfl rfl rfl (rf_Verify _ root count pos _ _ row proof hc ((hr.k hkw).k hS) hrl ((hp.k hkw).k hS)) ?_; rintro v17 w17 ⟨rfl, hk17⟩
      refine ops_nil ⟨hS.trans hk17, fun hS => ?_⟩
      have hkw2 := hkw.trans hS
      refine any_run 12 (fun w' hS' => (r_neqB rfl rfl rfl)) rfl (by kernel_rfl) (by kernel_rfl) (by kernel_rfl) rfl hS ?_
      refine any_done (by kernel_rfl) ?_
      refine W_no rfl (by simp) ?_
      refine W_skip ?_
      refine W_seq ?_
      refine W_cut [42] [36, 37, 38, 39, 40, 41, 42] (fun vs w21 => vs = [.bool (decide (¬ (0 ≤ pos ∧ pos < count)))] ∧ w21 = w17) ?_ ?_
      · refine W_region ?_
        refine o_mvt rfl ?_
        refine op_run (r_lss rfl rfl) rfl ?_
        refine o_mvt rfl ?_
        refine g_split rfl rfl rfl (fun g22 => ?_) (fun g22 => ?_)
        · refine o_mvt (g_yes rfl rfl rfl g22) ?_
          refine o_mvt (g_yes rfl rfl rfl g22) ?_
          refine op_run (r_geq rfl rfl) (g_yes rfl rfl rfl g22) ?_
          refine o_pkFt rfl g22 rfl ?_
          refine ops_nil ?_
          exact ⟨by (repeat (first | with_reducible exact offM_refl _ _ | refine offM_updc rfl ?_ | refine offM_upd rfl ?_ | refine offM_updo rfl ?_ | refine offM_updo_none ?_ | refine offM_head rfl rfl ?_)), congrArg (fun b => [Value.bool b]) (by have g22 := of_decide_eq_false g22; rw [decide_eq_decide]; omega), rfl⟩
        · refine op_skip (g_no rfl rfl rfl g22) ?_
          refine op_skip (g_no rfl rfl rfl g22) ?_
          refine op_skip (g_no rfl rfl rfl g22) ?_
          refine o_pkTc rfl g22 rfl ?_
          refine ops_nil ?_
          exact ⟨by (repeat (first | with_reducible exact offM_refl _ _ | refine offM_updc rfl ?_ | refine offM_upd rfl ?_ | refine offM_updo rfl ?_ | refine offM_updo_none ?_ | refine offM_head rfl rfl ?_)), congrArg (fun b => [Value.bool b]) (by have g22 := of_decide_eq_true g22; symm; apply decide_eq_true; omega), rfl⟩
      · rintro J25 vs w25 ⟨rfl, rfl⟩ -
        refine W_cond_p rfl (fun h26 => ?_) (fun h26 => ?_)
        · refine W_seq ?_
          refine W_region ?_
          refine o_asc rfl ?_
          refine ops_nil ?_
          refine W_ret ?_
          refine ret1 (.bool true) rfl ?_ ?_; rfl
          exact ⟨rfl, hkw2⟩
        · refine W_skip ?_
          refine W_seq ?_
          refine W_region ?_
          refine o_mvt rfl ?_
          refine o_mvt rfl ?_
          refine o_mvt rfl ?_
          refine o_mvt rfl ?_
          have hpc : 0 ≤ pos ∧ pos < count := Decidable.not_not.1 h26
          obtain ⟨c, rfl⟩ := Int.eq_ofNat_of_zero_le (show 0 ≤ count by omega)
          obtain ⟨p, rfl⟩ := Int.eq_ofNat_of_zero_le hpc.1
          refine op_call rfl rfl rfl (rf_Lead c _ c p _ _ row proof rfl (by omega) (by omega) (by omega) (hr.k hkw2) hrl (hp.k hkw2)) ?_; rintro v28 w28 ⟨rfl, hk28⟩
          refine o_mvt rfl ?_
          refine op_run (r_extract rfl rfl) rfl ?_
          refine op_run (r_extract rfl rfl) rfl ?_
          refine o_alloc rfl rfl rfl ?_; intro w29 b29 e29 hB29 hk29 hs29
          refine o_storeA (cs := dgR (leadD tagD c p row proof).1) rfl rfl (by first | rfl | exact dgR_one _ | exact refR_one _ | exact secR_one _ | exact all_c8 _) (by first | rfl | (rw [dgR_len]; rfl) | (rw [refR_len]; rfl) | (rw [secR_len]; rfl) | (rw [List.length_map, tagF_len]; rfl)) hB29 (by exact Nat.le_of_eq (by simp [dgR_len])) rfl ?_; intro w30 hB30 hk30 hs30
          have hB30 : Blk w30 b29 (dgR (leadD tagD c p row proof).1) 23 := by
            have h := hB30
            rwa [splice_all (by simp [dgR_len])] at h
          have hkw3 : Keep All w w30 := ((hkw2.trans hk28).trans hk29).new hk30 (by have := hkw2.size; have := hk28.size; omega)
          refine o_ast rfl ?_
          refine ops_nil ?_
          refine W_seq ?_
          refine W_region ?_
          refine op_run (r_loadA (dgR (leadD tagD c p row proof).1) rfl rfl rfl (by first | rfl | (rw [dgR_len]; rfl) | (rw [refR_len]; rfl) | (rw [secR_len]; rfl) | (rw [List.length_map, tagF_len]; rfl)) (hB30.all)) rfl ?_
          refine o_mvt rfl ?_
          refine o_mvt rfl ?_
          refine o_mvt rfl ?_
          refine o_mvt rfl ?_
          refine op_call rfl rfl rfl (mk_Verify w30 (leadD tagD c p row proof).1 (c : Int) (p : Int) _ _ row proof hc (hr.k hkw3) hrl (hp.k hkw3)) ?_; rintro v32 w32 ⟨rfl, hk32⟩
          refine o_mvt rfl ?_
          refine op_run (r_eqlB rfl rfl rfl) rfl ?_
          refine o_ast rfl ?_
          refine ops_nil ?_
          refine W_ret ?_
          refine ret1 (.bool (decide (((0 : Int) ≤ (p : Int) ∧ (p : Int) < (c : Int)) ∧ leadD tagD ((c : Int)).toNat ((p : Int)).toNat row proof = ((leadD tagD c p row proof).1, true)) == (leadD tagD c p row proof).2)) rfl ?_ ?_; rfl
          refine ⟨congrArg Value.bool ?_, hkw3.trans hk32⟩
          rw [Int.toNat_natCast, Int.toNat_natCast]
          have e : decide (((0 : Int) ≤ (p : Int) ∧ (p : Int) < (c : Int)) ∧ leadD tagD c p row proof = ((leadD tagD c p row proof).1, true)) = (leadD tagD c p row proof).2 := by
            cases h2 : (leadD tagD c p row proof).2 with
            | true => exact decide_eq_true ⟨hpc, Prod.ext rfl h2⟩
            | false => exact decide_eq_false fun h => by have := congrArg Prod.snd h.2; rw [h2] at this; cases this
          rw [e]; simp
end Go.Proofs.Ytnjepmdgbkhoaaa.B
