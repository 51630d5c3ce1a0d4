/-
  MerkleTold: the walk.
-/
import Derived.Test.YtnjepmdgbkhoaaaMerk8
namespace Go.Proofs.Ytnjepmdgbkhoaaa.B
open Go
set_option linter.unusedVariables false
set_option maxHeartbeats 2000000
set_option maxRecDepth 100000
attribute [local irreducible] W OpsW OpsQ retP
theorem great_not {pss : List (List UInt8)} (h : ¬ (60 < pss.length ∨ ∃ p ∈ pss, 300 < p.length)) : pss.length ≤ 60 ∧ ∀ p ∈ pss, p.length ≤ 100000 := by
  refine ⟨?_, fun p hp => ?_⟩
  · have : ¬ 60 < pss.length := fun g => h (.inl g)
    omega
  · have : ¬ 300 < p.length := fun g => h (.inr ⟨p, hp, g⟩)
    omega
theorem walk_MerkleTold (w : World) (v : Value) (pss : List (List UInt8)) (pos : Int) (hv : SlR w v 1 (RowB w) pss) :
    Ret Try.prog 5 [v, .int .i64 pos].toArray w fun r w' => r = .bool true ∧ Keep All w w' := by
  obtain ⟨a0, c0, rfl, hc0, hcm0⟩ := hv.form
  refine enter (fn := Try.f5) (n := 69) Try.func5 rfl rfl (by simp) ?_
  refine W_seq ?_
  refine W_region ?_
  refine o_asc rfl ?_
  refine ops_nil ?_
  refine W_seq ?_
  refine W_seq ?_
  refine W_region ?_
  refine op_call rfl rfl rfl (speaks03 w) ?_; rintro v1 w1 ⟨rfl, hk1⟩
  refine op_run (r_not rfl) rfl ?_
  refine ops_nil ?_
  refine W_no rfl (rfl) ?_
  refine W_skip ?_
  refine W_seq ?_
  refine W_seq ?_
  refine W_region ?_
  refine o_mvt rfl ?_
  refine op_call rfl rfl rfl (great03 _ _ pss (rowsB_keep hv hk1)) ?_; rintro v4 w4 ⟨rfl, hk4⟩
  refine ops_nil ?_
  refine W_cond_p rfl (fun h5 => ?_) (fun h5 => ?_)
  · refine W_seq ?_
    refine W_region ?_
    refine o_asc rfl ?_
    refine ops_nil ?_
    refine W_ret ?_
    refine ret1 (.bool true) rfl ?_ ?_; rfl
    exact ⟨rfl, hk1.trans hk4⟩
  · refine W_skip ?_
    refine W_seq ?_
    refine W_region ?_
    refine o_mvt rfl ?_
    obtain ⟨h60, hl⟩ := great_not h5
    have hkw := hk1.trans hk4
    refine op_call rfl rfl rfl (mk_Root pss.length _ _ pss rfl (rowsB_keep hv hkw) hl) ?_; rintro v7 w7 ⟨rfl, hk7⟩
    refine o_alloc rfl rfl rfl ?_; intro w8 b8 e8 hB8 hk8 hs8
    refine o_storeA (cs := dgR (rootD tagD pss)) rfl rfl (by first | rfl | exact dgR_one _ | exact refR_one _ | exact secR_one _ | exact all_c8 _) (by first | rfl | (rw [dgR_len]; rfl) | (rw [refR_len]; rfl) | (rw [secR_len]; rfl) | (rw [List.length_map, tagF_len]; rfl)) hB8 (by exact Nat.le_of_eq (by simp [dgR_len])) rfl ?_; intro w9 hB9 hk9 hs9
    have hB9 : Blk w9 b8 (dgR (rootD tagD pss)) 23 := by
      have h := hB9
      rwa [splice_all (by simp [dgR_len])] at h
    have hkw9 : Keep All w w9 := ((hkw.trans hk7).trans hk8).new hk9 (by have := hkw.size; have := hk7.size; omega)
    refine ops_nil ?_
    refine W_seq ?_
    refine W_region ?_
    refine o_mvt rfl ?_
    refine o_mvt rfl ?_
    refine op_call rfl rfl rfl (mk_Prove _ _ pss pos (rowsB_keep hv hkw9) hl (by omega)) ?_; rintro v10 w10 ⟨u, e, ds, rfl, hO, hin, heq, hk10⟩
    refine o_mvt rfl ?_
    refine op_run (r_extract rfl rfl) rfl ?_
    refine op_run (r_extract rfl rfl) rfl ?_
    refine o_ast rfl ?_
    refine o_ast rfl ?_
    refine ops_nil ?_
    refine W_seq ?_
    refine W_seq ?_
    refine W_held (fun w => Keep All w9 w) (by kernel_rfl) (hk10.trans (Keep.drawn w10)) (fun hS => ?_)
    refine any_run 0 (fun w' hS' => (r_loadA (dgR (rootD tagD pss)) rfl rfl rfl (by first | rfl | (rw [dgR_len]; rfl) | (rw [refR_len]; rfl) | (rw [secR_len]; rfl) | (rw [List.length_map, tagF_len]; rfl)) ((hS'.blk' hB9 trivial).all))) rfl (by kernel_rfl) (by kernel_rfl) (by kernel_rfl) rfl hS ?_
    refine any_mvt 1 rfl (by kernel_rfl) (by kernel_rfl) (by kernel_rfl) rfl hS ?_
    refine any_one 2 (by kernel_rfl) (one_of rfl ?_)
    refine op_call rfl rfl rfl (rf_Root pss.length _ _ pss rfl (rowsB_keep hv (hkw9.trans hS)) hl) ?_; rintro v13 w13 ⟨rfl, hk13⟩
    refine ops_nil ⟨hS.trans hk13, fun hS => ?_⟩
    refine any_run 3 (fun w' hS' => (r_neqC (p := True) rfl rfl rfl rfl (by kernel_rfl) (okC_dgR _) (okC_dgR _) rfl (⟨fun _ => trivial, fun _ => rfl⟩))) rfl (by kernel_rfl) (by kernel_rfl) (by kernel_rfl) rfl hS ?_
    refine any_done (by kernel_rfl) ?_
    refine W_no rfl (by simp) ?_
    refine W_skip ?_
    refine W_seq ?_
    have hO13 := hO.keep ((Keep.drawn w10).trans hk13) (fun _ _ => trivial)
    refine W_cut [31] [24, 25, 26, 27, 28, 29, 30, 31] (fun vs w18 => vs = [.bool (decide (¬ (0 ≤ pos ∧ pos < pss.length)))] ∧ w18 = w13) ?_ ?_
    · refine W_region ?_
      refine o_mvt rfl ?_
      refine op_run (r_lss rfl rfl) rfl ?_
      refine o_mvt rfl ?_
      refine g_split rfl rfl rfl (fun g19 => ?_) (fun g19 => ?_)
      · refine o_mvt (g_yes rfl rfl rfl g19) ?_
        refine o_mvt (g_yes rfl rfl rfl g19) ?_
        refine op_run (r_len rfl rfl rfl) (g_yes rfl rfl rfl g19) ?_
        refine op_run (r_geq rfl rfl) (g_yes rfl rfl rfl g19) ?_
        refine o_pkFt rfl g19 rfl ?_
        refine ops_nil ?_
        exact ⟨by (repeat (first | with_reducible exact offM_refl _ _ | refine offM_updc rfl ?_ | refine offM_upd rfl ?_ | refine offM_updo rfl ?_ | refine offM_updo_none ?_ | refine offM_head rfl rfl ?_)), congrArg (fun b => [Value.bool b]) (by have g19 := of_decide_eq_false g19; rw [decide_eq_decide]; omega), rfl⟩
      · refine op_skip (g_no rfl rfl rfl g19) ?_
        refine op_skip (g_no rfl rfl rfl g19) ?_
        refine op_skip (g_no rfl rfl rfl g19) ?_
        refine op_skip (g_no rfl rfl rfl g19) ?_
        refine o_pkTc rfl g19 rfl ?_
        refine ops_nil ?_
        exact ⟨by (repeat (first | with_reducible exact offM_refl _ _ | refine offM_updc rfl ?_ | refine offM_upd rfl ?_ | refine offM_updo rfl ?_ | refine offM_updo_none ?_ | refine offM_head rfl rfl ?_)), congrArg (fun b => [Value.bool b]) (by have g19 := of_decide_eq_true g19; symm; apply decide_eq_true; omega), rfl⟩
    · rintro J22 vs w22 ⟨rfl, rfl⟩ -
      refine W_cond_p rfl (fun h23 => ?_) (fun h23 => ?_)
      · refine W_seq ?_
        refine W_region ?_
        refine o_mvt rfl ?_
        refine op_run (r_eql rfl rfl) rfl ?_
        refine o_mvt rfl ?_
        rw [if_neg h23] at heq
        injection heq with he hd
        subst he; subst hd
        obtain ⟨au, cu, rfl, hcu, hcmu⟩ := hO13.form
        refine g_split rfl rfl rfl (fun g24 => ?_) (fun g => absurd g (by simp))
        refine o_mvt (g_yes rfl rfl rfl g24) ?_
        refine op_run (r_len rfl rfl rfl) (g_yes rfl rfl rfl g24) ?_
        refine op_run (r_eql rfl rfl) (g_yes rfl rfl rfl g24) ?_
        refine o_pkTt rfl g24 rfl ?_
        refine o_mvt rfl ?_
        refine g_split rfl rfl rfl (fun g25 => ?_) (fun g => absurd g (by simp))
        refine op_run (r_loadA (dgR (rootD tagD pss)) rfl rfl rfl (by first | rfl | (rw [dgR_len]; rfl) | (rw [refR_len]; rfl) | (rw [secR_len]; rfl) | (rw [List.length_map, tagF_len]; rfl)) ((hS.blk' hB9 trivial).all)) (g_yes rfl rfl rfl g25) ?_
        refine o_mvt (g_yes rfl rfl rfl g25) ?_
        refine op_run (r_len rfl rfl rfl) (g_yes rfl rfl rfl g25) ?_
        refine o_mvt (g_yes rfl rfl rfl g25) ?_
        refine o_mvt (g_yes rfl rfl rfl g25) ?_
        refine op_call rfl rfl (g_yes rfl rfl rfl g25) (mk_Verify _ (rootD tagD pss) pss.length pos _ _ [] [] (by unfold maxLen at hcm0; omega) (own_nil _ 0 1).sl (by simp) (Own.sl (xs := rows dgR []) hO13)) ?_; rintro v27 w27 ⟨rfl, hk27⟩
        refine op_run (r_not rfl) (g_yes rfl rfl rfl g25) ?_
        refine o_pkTt rfl g25 rfl ?_
        refine o_ast rfl ?_
        refine ops_nil ?_
        refine W_ret ?_
        refine ret1 (.bool (!decide ((0 ≤ pos ∧ pos < (pss.length : Int)) ∧ leadD tagD ((pss.length : Int)).toNat pos.toNat [] [] = (rootD tagD pss, true)))) rfl ?_ ?_; rfl
        refine ⟨congrArg Value.bool ?_, (hkw9.trans hS).trans hk27⟩
        rw [decide_eq_false (fun h => h23 h.1)]; rfl
      · refine W_skip ?_
        refine W_seq ?_
        have hpc : 0 ≤ pos ∧ pos < pss.length := Decidable.not_not.1 h23
        rw [if_pos hpc] at heq
        injection heq with he hd
        subst he; subst hd
        obtain ⟨au, cu, rfl, hcu, hcmu⟩ := hO13.form
        obtain ⟨k, rfl⟩ := Int.eq_ofNat_of_zero_le hpc.1
        have hkw22 := hkw9.trans hS
        have hB22 := hS.blk' hB9 trivial
        obtain ⟨bp, op, cp', vk, ep, hck, hby⟩ := rowsB_get (k := k) (rowsB_keep hv hkw22) (by omega)
        injection ep with ep1 ep2 ep3
        subst ep1; subst ep3
        obtain ⟨ak, ck, rfl, hak, hakm⟩ := hby.form
        refine W_held (fun w => Keep All w22 w) (by kernel_rfl) (Keep.drawn w22) (fun hS => ?_)
        refine any_mvt 0 rfl (by kernel_rfl) (by kernel_rfl) (by kernel_rfl) rfl hS ?_
        refine any_run 1 (fun w' hS' => (r_eql rfl rfl)) rfl (by kernel_rfl) (by kernel_rfl) (by kernel_rfl) rfl hS ?_
        refine any_mvt 2 rfl (by kernel_rfl) (by kernel_rfl) (by kernel_rfl) rfl hS ?_
        refine a_split 50 true rfl (fun g30 => ?_) (fun g => absurd g (by simp))
        refine any_mvt 3 rfl (by kernel_rfl) (by kernel_rfl) (by kernel_rfl) (g_yes rfl rfl rfl g30) hS ?_
        refine any_mvt 4 rfl (by kernel_rfl) (by kernel_rfl) (by kernel_rfl) (g_yes rfl rfl rfl g30) hS ?_
        refine any_mvt 5 rfl (by kernel_rfl) (by kernel_rfl) (by kernel_rfl) (g_yes rfl rfl rfl g30) hS ?_
        refine any_one 6 (by kernel_rfl) (one_of rfl ?_)
        refine op_call rfl rfl (g_yes rfl rfl rfl g30) (rf_Prove pss.length _ _ pss k rfl (by omega) (rowsB_keep hv (hkw22.trans hS)) hl (by omega)) ?_; rintro v31 w31 ⟨hO31, hin31, hk31⟩
        refine ops_nil ⟨hS.trans hk31, fun hS => ?_⟩
        refine any_one 7 (by kernel_rfl) (one_of rfl ?_)
        refine op_call rfl rfl (g_yes rfl rfl rfl g30) (rf03_Same _ _ _ (proveD tagD pss k) (proveD tagD pss k) ((hO13.keep hS (fun _ _ => trivial)).sl) hO31.sl) ?_; rintro v33 w33 ⟨rfl, hk33⟩
        refine ops_nil ⟨hS.trans hk33, fun hS => ?_⟩
        refine any_run 8 (fun w' hS' => (r_pickT rfl g30)) rfl (by kernel_rfl) (by kernel_rfl) (by kernel_rfl) rfl hS ?_
        refine any_mvt 9 rfl (by kernel_rfl) (by kernel_rfl) (by kernel_rfl) rfl hS ?_
        refine a_split 57 true rfl (fun g35 => ?_) (fun g35 => ?_)
        · refine any_run 10 (fun w' hS' => (r_loadA (dgR (rootD tagD pss)) rfl rfl rfl (by first | rfl | (rw [dgR_len]; rfl) | (rw [refR_len]; rfl) | (rw [secR_len]; rfl) | (rw [List.length_map, tagF_len]; rfl)) ((hS'.blk' hB22 trivial).all))) rfl (by kernel_rfl) (by kernel_rfl) (by kernel_rfl) (g_yes rfl rfl rfl g35) hS ?_
          refine any_mvt 11 rfl (by kernel_rfl) (by kernel_rfl) (by kernel_rfl) (g_yes rfl rfl rfl g35) hS ?_
          refine any_run 12 (fun w' hS' => (r_len rfl rfl rfl)) rfl (by kernel_rfl) (by kernel_rfl) (by kernel_rfl) (g_yes rfl rfl rfl g35) hS ?_
          refine any_mvt 13 rfl (by kernel_rfl) (by kernel_rfl) (by kernel_rfl) (g_yes rfl rfl rfl g35) hS ?_
          refine any_mvt 14 rfl (by kernel_rfl) (by kernel_rfl) (by kernel_rfl) (g_yes rfl rfl rfl g35) hS ?_
          refine any_mvt 15 rfl (by kernel_rfl) (by kernel_rfl) (by kernel_rfl) (g_yes rfl rfl rfl g35) hS ?_
          refine any_run 16 (fun w' hS' => (r_idxS1 rfl rfl rfl rfl (by omega) (by omega))) rfl (by kernel_rfl) (by kernel_rfl) (by kernel_rfl) (g_yes rfl rfl rfl g35) hS ?_
          refine any_run 17 (fun w' hS' => (r_load rfl rfl rfl ((by rw [Int.toNat_natCast]; exact hS'.cell hck trivial)))) rfl (by kernel_rfl) (by kernel_rfl) (by kernel_rfl) (g_yes rfl rfl rfl g35) hS ?_
          refine any_mvt 18 rfl (by kernel_rfl) (by kernel_rfl) (by kernel_rfl) (g_yes rfl rfl rfl g35) hS ?_
          refine any_one 19 (by kernel_rfl) (one_of rfl ?_)
          refine op_call rfl rfl (g_yes rfl rfl rfl g35) (mk_Verify _ (rootD tagD pss) pss.length k _ _ pss[k] (proveD tagD pss k) (by unfold maxLen at hcm0; omega) (hby.k hS) (hl _ (List.getElem_mem _)) ((hO13.keep hS (fun _ _ => trivial)).sl)) ?_; rintro v39 w39 ⟨rfl, hk39⟩
          refine ops_nil ⟨hS.trans hk39, fun hS => ?_⟩
          refine any_run 20 (fun w' hS' => (r_pickT rfl g35)) rfl (by kernel_rfl) (by kernel_rfl) (by kernel_rfl) rfl hS ?_
          refine any_ast 21 rfl (by kernel_rfl) (by kernel_rfl) (by kernel_rfl) rfl hS ?_
          refine any_done (by kernel_rfl) ?_
          refine W_ret ?_
          refine ret1 (.bool (decide (((0 : Int) ≤ (k : Int) ∧ (k : Int) < (pss.length : Int)) ∧ leadD tagD ((pss.length : Int)).toNat ((k : Int)).toNat pss[k] (proveD tagD pss k) = (rootD tagD pss, true)))) rfl ?_ ?_; rfl
          refine ⟨congrArg Value.bool ?_, hkw22.trans hS⟩
          exact decide_eq_true ⟨⟨by omega, by omega⟩, prove_lead tagD pss.length pss k _ (Nat.le_refl _) (List.getElem?_eq_getElem (by omega))⟩
        · refine any_skip 10 rfl (by kernel_rfl) (by kernel_rfl) (by kernel_rfl) (g_no rfl rfl rfl g35) hS ?_
          refine any_skip 11 rfl (by kernel_rfl) (by kernel_rfl) (by kernel_rfl) (g_no rfl rfl rfl g35) hS ?_
          refine any_skip 12 rfl (by kernel_rfl) (by kernel_rfl) (by kernel_rfl) (g_no rfl rfl rfl g35) hS ?_
          refine any_skip 13 rfl (by kernel_rfl) (by kernel_rfl) (by kernel_rfl) (g_no rfl rfl rfl g35) hS ?_
          refine any_skip 14 rfl (by kernel_rfl) (by kernel_rfl) (by kernel_rfl) (g_no rfl rfl rfl g35) hS ?_
          refine any_skip 15 rfl (by kernel_rfl) (by kernel_rfl) (by kernel_rfl) (g_no rfl rfl rfl g35) hS ?_
          refine any_skip 16 rfl (by kernel_rfl) (by kernel_rfl) (by kernel_rfl) (g_no rfl rfl rfl g35) hS ?_
          refine any_skip 17 rfl (by kernel_rfl) (by kernel_rfl) (by kernel_rfl) (g_no rfl rfl rfl g35) hS ?_
          refine any_skip 18 rfl (by kernel_rfl) (by kernel_rfl) (by kernel_rfl) (g_no rfl rfl rfl g35) hS ?_
          refine any_one 19 (by kernel_rfl) (one_of rfl ?_)
          refine op_skip (g_no rfl rfl rfl g35) ?_
          refine ops_nil ⟨hS, fun hS => ?_⟩
          refine any_run 20 (fun w' hS' => (r_pickF rfl g35)) rfl (by kernel_rfl) (by kernel_rfl) (by kernel_rfl) rfl hS ?_
          refine any_ast 21 rfl (by kernel_rfl) (by kernel_rfl) (by kernel_rfl) rfl hS ?_
          refine any_done (by kernel_rfl) ?_
          refine W_ret ?_
          refine ret1 (.bool false) rfl ?_ ?_; rfl
          exact absurd g35 (by simp)
end Go.Proofs.Ytnjepmdgbkhoaaa.B
