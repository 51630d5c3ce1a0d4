/-
  BinWrites: the walk.
-/
import Derived.Test.YtigehkfdfecfoaaBn6
namespace Go.Proofs.Ytigehkfdfecfoaa.B
open Go
set_option linter.unusedVariables false
set_option maxHeartbeats 2000000
set_option maxRecDepth 100000
attribute [local irreducible] W OpsW OpsQ retP
theorem secR_zero64 : secR Sec.zero = List.replicate 64 (c8 0) := rfl
theorem walk_BinWrites (w : World) (size number at_ : Int) (v : Value) (L : List Bk) (hv : Sl w v L.length 48 (rows blkR L)) (ha : -2 ^ 63 ≤ at_) (ha2 : at_ < 2 ^ 63) :
    Ret Try.prog 3 [.int .i64 size, .int .i64 number, .int .i64 at_, v].toArray w fun u w' => u = .bool true ∧ Keep All w w' := by
  obtain ⟨a0, c0, rfl, hc0, hcm0⟩ := hv.form
  refine enter (fn := Try.f3) (n := 182) Try.func3 rfl rfl (by simp) ?_
  refine W_seq ?_
  refine W_region ?_
  refine o_asc rfl ?_
  refine ops_nil ?_
  refine W_seq ?_
  refine W_seq ?_
  refine W_region ?_
  refine op_call rfl rfl rfl (speaks10 w) ?_; rintro v1 w1 ⟨rfl, hk1⟩
  refine op_run (r_not rfl) rfl ?_
  refine ops_nil ?_
  refine W_no rfl (rfl) ?_
  refine W_skip ?_
  refine W_seq ?_
  refine W_cut [35] [25, 26, 27, 28, 29, 30, 31, 32, 33, 34, 35] (fun vs w4 => vs = [.bool (decide (size < 1 ∨ 100 < size ∨ 60 < L.length))] ∧ w4 = w1) ?_ ?_
  · refine W_region ?_
    refine o_mvt rfl ?_
    refine op_run (r_lss rfl rfl) rfl ?_
    refine o_mvt rfl ?_
    refine g_split rfl rfl rfl (fun g5 => ?_) (fun g5 => ?_)
    · refine o_mvt (g_yes rfl rfl rfl g5) ?_
      refine op_run (r_gtr rfl rfl) (g_yes rfl rfl rfl g5) ?_
      refine o_pkFt rfl g5 rfl ?_
      refine o_mvt rfl ?_
      refine g_split rfl rfl rfl (fun g6 => ?_) (fun g6 => ?_)
      · refine o_mvt (g_yes rfl rfl rfl g6) ?_
        refine op_run (r_len rfl rfl rfl) (g_yes rfl rfl rfl g6) ?_
        refine op_run (r_gtr rfl rfl) (g_yes rfl rfl rfl g6) ?_
        refine o_pkFt rfl g6 rfl ?_
        refine ops_nil ?_
        exact ⟨by (repeat (first | with_reducible exact offM_refl _ _ | refine offM_updc rfl ?_ | refine offM_upd rfl ?_ | refine offM_updo rfl ?_ | refine offM_updo_none ?_ | refine offM_head rfl rfl ?_)), congrArg (fun b => [Value.bool b]) (by have g5 := of_decide_eq_false g5; have g6 := of_decide_eq_false g6; rw [decide_eq_decide]; omega), rfl⟩
      · refine op_skip (g_no rfl rfl rfl g6) ?_
        refine op_skip (g_no rfl rfl rfl g6) ?_
        refine op_skip (g_no rfl rfl rfl g6) ?_
        refine o_pkTc rfl g6 rfl ?_
        refine ops_nil ?_
        exact ⟨by (repeat (first | with_reducible exact offM_refl _ _ | refine offM_updc rfl ?_ | refine offM_upd rfl ?_ | refine offM_updo rfl ?_ | refine offM_updo_none ?_ | refine offM_head rfl rfl ?_)), congrArg (fun b => [Value.bool b]) (by have g6 := of_decide_eq_true g6; symm; apply decide_eq_true; omega), rfl⟩
    · refine op_skip (g_no rfl rfl rfl g5) ?_
      refine op_skip (g_no rfl rfl rfl g5) ?_
      refine o_pkTc rfl g5 rfl ?_
      refine o_mvt rfl ?_
      refine op_skip (g_no rfl rfl rfl rfl) ?_
      refine op_skip (g_no rfl rfl rfl rfl) ?_
      refine op_skip (g_no rfl rfl rfl rfl) ?_
      refine o_pkTc rfl rfl rfl ?_
      refine ops_nil ?_
      exact ⟨by (repeat (first | with_reducible exact offM_refl _ _ | refine offM_updc rfl ?_ | refine offM_upd rfl ?_ | refine offM_updo rfl ?_ | refine offM_updo_none ?_ | refine offM_head rfl rfl ?_)), congrArg (fun b => [Value.bool b]) (by have g5 := of_decide_eq_true g5; symm; apply decide_eq_true; omega), rfl⟩
  · rintro J10 vs w10 ⟨rfl, rfl⟩ -
    refine W_cond_p rfl (fun h11 => ?_) (fun h11 => ?_)
    · refine W_seq ?_
      refine W_region ?_
      refine o_asc rfl ?_
      refine ops_nil ?_
      refine W_ret ?_
      refine ret1 (.bool true) rfl ?_ ?_; rfl
      exact ⟨rfl, hk1⟩
    · refine W_skip ?_
      refine W_seq ?_
      refine W_region ?_
      refine o_mvt rfl ?_
      obtain ⟨N, rfl⟩ := Int.eq_ofNat_of_zero_le (show 0 ≤ size by omega)
      have hN : 1 ≤ N ∧ N ≤ 100 := by omega
      have hbl : L.length ≤ 60 := by omega
      refine op_call rfl rfl rfl (DV.new w10 (N : Int) (by omega) (by omega)) ?_; rintro v13 w13 ⟨bD, rfl, hD13⟩
      rw [Int.toNat_natCast] at hD13
      refine o_mvt rfl ?_
      refine op_run (r_extract rfl rfl) rfl ?_
      refine op_run (r_extract rfl rfl) rfl ?_
      refine o_ast rfl ?_
      refine o_ast rfl ?_
      refine ops_nil ?_
      refine W_seq ?_
      refine W_cut [46] [41, 42, 43, 44, 45, 46] (fun vs w14 => vs = [.bool false] ∧ w14 = w13) ?_ ?_
      · refine W_region ?_
        refine o_mvt rfl ?_
        refine op_run (r_neq rfl rfl) rfl ?_
        refine o_mvt rfl ?_
        refine g_split rfl rfl rfl (fun g15 => ?_) (fun g15 => ?_)
        · refine o_mvt (g_yes rfl rfl rfl g15) ?_
          refine op_run (r_isNilP rfl rfl) (g_yes rfl rfl rfl g15) ?_
          refine o_pkFt rfl g15 rfl ?_
          refine ops_nil ?_
          exact ⟨by (repeat (first | with_reducible exact offM_refl _ _ | refine offM_updc rfl ?_ | refine offM_upd rfl ?_ | refine offM_updo rfl ?_ | refine offM_updo_none ?_ | refine offM_head rfl rfl ?_)), rfl, rfl⟩
        · refine op_skip (g_no rfl rfl rfl g15) ?_
          refine op_skip (g_no rfl rfl rfl g15) ?_
          refine o_pkTc rfl g15 rfl ?_
          refine ops_nil ?_
          exact absurd g15 (by decide)
      · rintro J18 vs w18 ⟨rfl, rfl⟩ -
        refine W_no rfl (rfl) ?_
        refine W_skip ?_
        refine W_seq ?_
        refine W_region ?_
        refine o_mvt rfl ?_
        refine o_mvt rfl ?_
        refine o_mvt rfl ?_
        refine o_mvt rfl ?_
        refine op_call rfl rfl rfl (bn_Write w10 _ bD N _ _ w18 hD13 number at_ _ L (StaysL.of (hv.keepE hk1 fun _ _ => trivial)) hbl (by omega) ha ha2) ?_; rintro v21 w21 ⟨rfl, hD21, hk21⟩
        obtain ⟨E, hEq⟩ : ∃ E, E = wrE N number at_ L := ⟨_, rfl⟩
        obtain ⟨B, hBq⟩ : ∃ B, B = wrB N number at_ L := ⟨_, rfl⟩
        obtain ⟨M', hMq⟩ : ∃ M', M' = wrM N (List.replicate N Sec.zero) number at_ L := ⟨_, rfl⟩
        rw [← hMq] at hD21
        rw [← hEq, ← hBq]
        refine o_mvt rfl ?_
        refine op_run (r_extract rfl rfl) rfl ?_
        refine op_run (r_extract rfl rfl) rfl ?_
        refine o_alloc rfl rfl rfl ?_; intro w22 b22 e22 hB22 hk22 hs22
        refine o_storeA (cs := binV B) rfl rfl (by first | rfl | exact binV_one _ | exact dgR_one _ | exact refR_one _ | exact secR_one _ | exact all_c8 _ | exact blkR_one _) (by first | rfl | (rw [binV_len]; rfl) | (rw [dgR_len]; rfl) | (rw [refR_len]; rfl) | (rw [secR_len]; rfl) | (rw [List.length_map, tagF_len]; rfl) | (rw [blkR_len]; rfl)) hB22 (by simp [binV_len]) rfl ?_; intro w23 hB23 hk23 hs23
        have hB23 : Blk w23 b22 (binV B) 31 := by
          have h := hB23
          rwa [splice_all (by simp [binV_len])] at h
        have hD23 := hD21.fresh hk22 (Nat.le_of_eq e22.symm) hk23 (by omega)
        refine o_ast rfl ?_
        refine ops_nil ?_
        refine W_seq ?_
        refine W_region ?_
        refine o_mvt rfl ?_
        refine op_call rfl rfl rfl (hD23.image (by omega)) ?_; rintro v24 w24 ⟨hO24, hk24, hD24⟩
        obtain ⟨a24, c24, rfl, h24c, h24m⟩ := hO24.form
        have hB24 := hk24.blk' hB23 trivial
        have hML' : M'.length = N := hD24.len
        have hkw24 := hk1.trans hD24.kw
        refine o_ast rfl ?_
        refine ops_nil ?_
        refine W_seq ?_
        refine W_cut [63] [57, 58, 59, 60, 61, 62, 63] (fun vs w25 => vs = [.bool (decide (number < 0 ∨ L = []))] ∧ w25 = w24) ?_ ?_
        · refine W_region ?_
          refine o_mvt rfl ?_
          refine op_run (r_lss rfl rfl) rfl ?_
          refine o_mvt rfl ?_
          refine g_split rfl rfl rfl (fun g26 => ?_) (fun g26 => ?_)
          · refine o_mvt (g_yes rfl rfl rfl g26) ?_
            refine op_run (r_len rfl rfl rfl) (g_yes rfl rfl rfl g26) ?_
            refine op_run (r_eql rfl rfl) (g_yes rfl rfl rfl g26) ?_
            refine o_pkFt rfl g26 rfl ?_
            refine ops_nil ?_
            exact ⟨by (repeat (first | with_reducible exact offM_refl _ _ | refine offM_updc rfl ?_ | refine offM_upd rfl ?_ | refine offM_updo rfl ?_ | refine offM_updo_none ?_ | refine offM_head rfl rfl ?_)), congrArg (fun b => [Value.bool b]) (by have := of_decide_eq_false g26; rw [decide_eq_decide, ← List.length_eq_zero_iff (l := L)]; omega), rfl⟩
          · refine op_skip (g_no rfl rfl rfl g26) ?_
            refine op_skip (g_no rfl rfl rfl g26) ?_
            refine op_skip (g_no rfl rfl rfl g26) ?_
            refine o_pkTc rfl g26 rfl ?_
            refine ops_nil ?_
            exact ⟨by (repeat (first | with_reducible exact offM_refl _ _ | refine offM_updc rfl ?_ | refine offM_upd rfl ?_ | refine offM_updo rfl ?_ | refine offM_updo_none ?_ | refine offM_head rfl rfl ?_)), congrArg (fun b => [Value.bool b]) (decide_eq_true (Or.inl (of_decide_eq_true g26))).symm, rfl⟩
        · rintro J29 vs w29 ⟨rfl, rfl⟩ -
          refine W_cond_p rfl (fun h30 => ?_) (fun h30 => ?_)
          · refine W_seq ?_
            refine W_region ?_
            refine o_mvt rfl ?_
            refine op_run (r_eql rfl rfl) rfl ?_
            refine o_mvt rfl ?_
            have hE : E = 1 := hEq.trans (if_pos h30)
            have hB0 : B = Bn.zero := hBq.trans (if_neg (by rw [← hEq, hE]; decide))
            refine g_split rfl rfl rfl (fun g31 => ?_) (fun g => absurd g (by simp [hE]))
            refine op_run (r_loadA (binV B) rfl rfl rfl (by first | rfl | (rw [binV_len]; rfl) | (rw [dgR_len]; rfl) | (rw [refR_len]; rfl) | (rw [secR_len]; rfl) | (rw [List.length_map, tagF_len]; rfl) | (rw [blkR_len]; rfl)) (hB24.all)) (g_yes rfl rfl rfl g31) ?_
            refine op_run (r_build ((binV Bn.zero)) (_) ([]) rfl rfl rfl rfl rfl (rfl)) (g_yes rfl rfl rfl g31) ?_
            refine op_run (r_eqlC (p := B = Bn.zero) rfl rfl rfl rfl (by kernel_rfl) (okC_bin _) (okC_bin _) rfl (binV_inj)) (g_yes rfl rfl rfl g31) ?_
            refine o_pkTt rfl g31 rfl ?_
            refine o_ast rfl ?_
            refine ops_nil ?_
            refine W_ret ?_
            refine ret1 (.bool (decide (B = Bn.zero))) rfl ?_ ?_; rfl
            exact ⟨congrArg Value.bool (decide_eq_true hB0), hkw24⟩
          · refine W_skip ?_
            refine W_seq ?_
            have hLne : 1 ≤ L.length := by
              rcases Nat.eq_zero_or_pos L.length with h | h
              · exact absurd (Or.inr (List.length_eq_zero_iff.1 h)) h30
              · exact h
            refine W_cut [85] [71, 72, 73, 74, 75, 76, 77, 78, 79, 80, 81, 82, 83, 84, 85] (fun vs w36 => vs = [.bool (decide (¬ fitsB N at_ L.length))] ∧ w36 = w29) ?_ ?_
            · refine W_region ?_
              refine o_mvt rfl ?_
              refine op_run (r_lss rfl rfl) rfl ?_
              refine o_mvt rfl ?_
              refine g_split rfl rfl rfl (fun g37 => ?_) (fun g37 => ?_)
              · refine o_mvt (g_yes rfl rfl rfl g37) ?_
                refine o_mvt (g_yes rfl rfl rfl g37) ?_
                refine op_run (r_geq rfl rfl) (g_yes rfl rfl rfl g37) ?_
                refine o_pkFt rfl g37 rfl ?_
                refine o_mvt rfl ?_
                refine g_split rfl rfl rfl (fun g38 => ?_) (fun g38 => ?_)
                · refine o_mvt (g_yes rfl rfl rfl g38) ?_
                  refine op_run (r_len rfl rfl rfl) (g_yes rfl rfl rfl g38) ?_
                  refine o_mvt (g_yes rfl rfl rfl g38) ?_
                  refine o_mvt (g_yes rfl rfl rfl g38) ?_
                  refine op_run (r_sub rfl rfl) (g_yes rfl rfl rfl g38) ?_
                  refine op_run (r_gtr rfl rfl) (g_yes rfl rfl rfl g38) ?_
                  refine o_pkFt rfl g38 rfl ?_
                  refine ops_nil ?_
                  exact ⟨by (repeat (first | with_reducible exact offM_refl _ _ | refine offM_updc rfl ?_ | refine offM_upd rfl ?_ | refine offM_updo rfl ?_ | refine offM_updo_none ?_ | refine offM_head rfl rfl ?_)), congrArg (fun b => [Value.bool b]) (by
                    have g37 := of_decide_eq_false g37; have g38 := of_decide_eq_false g38
                    rw [wrap_i64 (by omega) (by omega), decide_eq_decide]; unfold fitsB; omega), rfl⟩
                · refine op_skip (g_no rfl rfl rfl g38) ?_
                  refine op_skip (g_no rfl rfl rfl g38) ?_
                  refine op_skip (g_no rfl rfl rfl g38) ?_
                  refine op_skip (g_no rfl rfl rfl g38) ?_
                  refine op_skip (g_no rfl rfl rfl g38) ?_
                  refine op_skip (g_no rfl rfl rfl g38) ?_
                  refine o_pkTc rfl g38 rfl ?_
                  refine ops_nil ?_
                  exact ⟨by (repeat (first | with_reducible exact offM_refl _ _ | refine offM_updc rfl ?_ | refine offM_upd rfl ?_ | refine offM_updo rfl ?_ | refine offM_updo_none ?_ | refine offM_head rfl rfl ?_)), congrArg (fun b => [Value.bool b]) (by have g38 := of_decide_eq_true g38; symm; exact decide_eq_true fun h => by have := h.2.1; have := h.2.2; omega), rfl⟩
              · refine op_skip (g_no rfl rfl rfl g37) ?_
                refine op_skip (g_no rfl rfl rfl g37) ?_
                refine op_skip (g_no rfl rfl rfl g37) ?_
                refine o_pkTc rfl g37 rfl ?_
                refine o_mvt rfl ?_
                refine op_skip (g_no rfl rfl rfl rfl) ?_
                refine op_skip (g_no rfl rfl rfl rfl) ?_
                refine op_skip (g_no rfl rfl rfl rfl) ?_
                refine op_skip (g_no rfl rfl rfl rfl) ?_
                refine op_skip (g_no rfl rfl rfl rfl) ?_
                refine op_skip (g_no rfl rfl rfl rfl) ?_
                refine o_pkTc rfl rfl rfl ?_
                refine ops_nil ?_
                exact ⟨by (repeat (first | with_reducible exact offM_refl _ _ | refine offM_updc rfl ?_ | refine offM_upd rfl ?_ | refine offM_updo rfl ?_ | refine offM_updo_none ?_ | refine offM_head rfl rfl ?_)), congrArg (fun b => [Value.bool b]) (by have g37 := of_decide_eq_true g37; symm; exact decide_eq_true fun h => by have := h.1; omega), rfl⟩
            · rintro J42 vs w42 ⟨rfl, rfl⟩ -
              refine W_cond_p rfl (fun h43 => ?_) (fun h43 => ?_)
              · refine W_seq ?_
                refine W_region ?_
                refine o_mvt rfl ?_
                refine op_run (r_eql rfl rfl) rfl ?_
                refine o_mvt rfl ?_
                have hE : E = 2 := hEq.trans ((if_neg h30).trans (if_neg h43))
                have hB0 : B = Bn.zero := hBq.trans (if_neg (by rw [← hEq, hE]; decide))
                refine g_split rfl rfl rfl (fun g44 => ?_) (fun g => absurd g (by simp [hE]))
                refine op_run (r_loadA (binV B) rfl rfl rfl (by first | rfl | (rw [binV_len]; rfl) | (rw [dgR_len]; rfl) | (rw [refR_len]; rfl) | (rw [secR_len]; rfl) | (rw [List.length_map, tagF_len]; rfl) | (rw [blkR_len]; rfl)) (hB24.all)) (g_yes rfl rfl rfl g44) ?_
                refine op_run (r_build ((binV Bn.zero)) (_) ([]) rfl rfl rfl rfl rfl (rfl)) (g_yes rfl rfl rfl g44) ?_
                refine op_run (r_eqlC (p := B = Bn.zero) rfl rfl rfl rfl (by kernel_rfl) (okC_bin _) (okC_bin _) rfl (binV_inj)) (g_yes rfl rfl rfl g44) ?_
                refine o_pkTt rfl g44 rfl ?_
                refine o_ast rfl ?_
                refine ops_nil ?_
                refine W_ret ?_
                refine ret1 (.bool (decide (B = Bn.zero))) rfl ?_ ?_; rfl
                exact ⟨congrArg Value.bool (decide_eq_true hB0), hkw24⟩
              · refine W_skip ?_
                refine W_seq ?_
                refine W_seq ?_
                refine W_region ?_
                refine o_mvt rfl ?_
                refine op_run (r_len rfl rfl rfl) rfl ?_
                refine o_mvc rfl ?_
                refine ops_nil ?_
                refine W_block ?_
                have hf : fitsB N at_ L.length := Decidable.not_not.1 h43
                have hf1 := hf.1
                have hf2 := hf.2.1
                have hf3 := hf.2.2
                obtain ⟨a, rfl⟩ := Int.eq_ofNat_of_zero_le hf.1
                have hE : E = 0 := hEq.trans ((if_neg h30).trans (if_pos hf))
                have hBe : B = ⟨number, a, L.length, rootB L⟩ := hBq.trans (if_pos (hEq.symm.trans hE))
                have hMe : M' = putAt (List.replicate N Sec.zero) a (L.map padB) := hMq.trans (if_pos (hEq.symm.trans hE))
                have hLp : (L.map padB).length = L.length := List.length_map _
                have hMi : ∀ i : Nat, i < N → M'[i]? = if (a : Int) ≤ (i : Int) ∧ (i : Int) < (a : Int) + (L.length : Int) then (L.map padB)[i - a]? else some Sec.zero := by
                  intro i hi
                  rw [hMe, putAt_get (by rw [List.length_replicate]; omega)]
                  by_cases hc : a ≤ i ∧ i < a + (L.map padB).length
                  · rw [if_pos hc, if_pos (by omega)]
                  · rw [if_neg hc, if_neg (by omega), List.getElem?_replicate, if_pos hi]
                have hSa : Sl w42 (.slice a24 M'.length c24) M'.length 64 (rows secR M') := hO24.sl
                refine W_loop [95] [8, 14, 15, 16, 95, 96, 97, 98, 99, 100, 101, 102, 103, 104, 105, 106, 107, 108, 109, 110, 111, 112, 113, 114, 115, 116, 117, 118, 119, 120, 121, 122] (fun vs w' => ∃ i : Nat, vs = [.int .i64 i] ∧ i ≤ N ∧ Keep All w42 w') (fun vs _ => match vs with | [.int _ k] => N - k.toNat | _ => 0) ⟨0, rfl, Nat.zero_le _, Keep.refl _⟩ ?_
                rintro J49 vs w49 ⟨i, rfl, hi, hk49⟩ -
                refine W_seq ?_
                refine W_region ?_
                refine op_run (r_lss rfl rfl) rfl ?_
                refine ops_nil ?_
                refine W_seq ?_
                refine W_cond_p rfl (fun h50 => ?_) (fun h50 => ?_)
                · refine W_skip ?_
                  refine W_seq ?_
                  refine W_block ?_
                  refine W_seq ?_
                  refine W_region ?_
                  refine o_mvt rfl ?_
                  have hi' : i < N := by omega
                  obtain ⟨s, hs⟩ : ∃ s, M'[i]? = some s := ⟨_, List.getElem?_eq_getElem (by omega)⟩
                  obtain ⟨bq, oq, rfl, hcq⟩ := rows_at' (i := i) secR_len hSa (by omega) (by decide)
                  rw [(List.getElem?_eq_some_iff.1 hs).2] at hcq
                  refine op_run (r_idxS rfl rfl rfl ti_sec (by omega) (by omega)) rfl ?_
                  refine op_run (r_loadA (secR s) rfl rfl rfl (by first | rfl | (rw [binV_len]; rfl) | (rw [dgR_len]; rfl) | (rw [refR_len]; rfl) | (rw [secR_len]; rfl) | (rw [List.length_map, tagF_len]; rfl) | (rw [blkR_len]; rfl)) ((by intro u v hu; rw [Int.toNat_natCast]; exact hk49.cell (hcq u v hu) trivial))) rfl ?_
                  refine o_alloc rfl rfl rfl ?_; intro w53 b53 e53 hB53 hk53 hs53
                  refine o_ast rfl ?_
                  refine o_storeA (cs := secR s) rfl rfl (by first | rfl | exact binV_one _ | exact dgR_one _ | exact refR_one _ | exact secR_one _ | exact all_c8 _ | exact blkR_one _) (by first | rfl | (rw [binV_len]; rfl) | (rw [dgR_len]; rfl) | (rw [refR_len]; rfl) | (rw [secR_len]; rfl) | (rw [List.length_map, tagF_len]; rfl) | (rw [blkR_len]; rfl)) hB53 (by exact Nat.le_of_eq (by simp [secR_len])) rfl ?_; intro w54 hB54 hk54 hs54
                  have hB54 : Blk w54 b53 (secR s) 37 := by
                    have h := hB54
                    rwa [splice_all (by simp [secR_len])] at h
                  refine ops_nil ?_
                  refine W_seq ?_
                  refine W_region ?_
                  refine op_run (r_buildA ((List.replicate 64 (c8 0))) (_) ([]) rfl rfl rfl rfl rfl (rfl)) rfl ?_
                  refine o_alloc rfl rfl rfl ?_; intro w56 b56 e56 hB56 hk56 hs56
                  refine o_storeA (cs := List.replicate 64 (c8 0)) rfl rfl (by first | rfl | exact binV_one _ | exact dgR_one _ | exact refR_one _ | exact secR_one _ | exact all_c8 _ | exact blkR_one _) (by first | rfl | (rw [binV_len]; rfl) | (rw [dgR_len]; rfl) | (rw [refR_len]; rfl) | (rw [secR_len]; rfl) | (rw [List.length_map, tagF_len]; rfl) | (rw [blkR_len]; rfl)) hB56 (by exact Nat.le_refl _) rfl ?_; intro w57 hB57 hk57 hs57
                  have hB57 : Blk w57 b56 (secR Sec.zero) 37 := by
                    have h := hB57
                    rw [splice_all (by simp)] at h
                    rw [secR_zero64]; exact h
                  have hlt54 := hB54.lt
                  have hz49 := hk49.size
                  have hz53 := hk53.size
                  have hz56 := hk56.size
                  have hk4957 : Keep All w49 w57 := ((hk53.new hk54 (by omega)).trans hk56).new hk57 (by omega)
                  have hk57' : Keep All w42 w57 := hk49.trans hk4957
                  have hB57s := hk57.blk' (hk56.blk' hB54 trivial) (show b53 ≠ b56 by omega)
                  have hmi := hMi i hi'
                  refine ops_nil ?_
                  refine W_cut [] [101, 102, 103, 104, 105, 106, 107, 108, 109, 110, 111, 112, 113, 114, 115, 116, 117, 118] (fun vs w58 => vs = [] ∧ ∃ s, Blk w58 b56 (secR s) 37 ∧ M'[i]? = some s ∧ Keep (· ≠ b56) w57 w58) ?_ ?_
                  · refine W_cut [111] [101, 102, 103, 104, 105, 106, 107, 108, 109, 110, 111] (fun vs w59 => vs = [.bool (decide ((a : Int) ≤ (i : Int) ∧ (i : Int) < (a : Int) + (L.length : Int)))] ∧ w59 = w57) ?_ ?_
                    · refine W_region ?_
                      refine o_mvt rfl ?_
                      refine o_mvt rfl ?_
                      refine op_run (r_geq rfl rfl) rfl ?_
                      refine o_mvt rfl ?_
                      refine g_split rfl rfl rfl (fun g60 => ?_) (fun g60 => ?_)
                      · refine o_mvt (g_yes rfl rfl rfl g60) ?_
                        refine o_mvt (g_yes rfl rfl rfl g60) ?_
                        refine o_mvt (g_yes rfl rfl rfl g60) ?_
                        refine op_run (r_len rfl rfl rfl) (g_yes rfl rfl rfl g60) ?_
                        refine op_run (r_add rfl rfl) (g_yes rfl rfl rfl g60) ?_
                        refine op_run (r_lss rfl rfl) (g_yes rfl rfl rfl g60) ?_
                        refine o_pkTt rfl g60 rfl ?_
                        refine ops_nil ?_
                        exact ⟨by (repeat (first | with_reducible exact offM_refl _ _ | refine offM_updc rfl ?_ | refine offM_upd rfl ?_ | refine offM_updo rfl ?_ | refine offM_updo_none ?_ | refine offM_head rfl rfl ?_)), congrArg (fun b => [Value.bool b]) (by
                          have g60 := of_decide_eq_true g60
                          rw [wrap_i64 (by omega) (by omega), decide_eq_decide]; omega), rfl⟩
                      · refine op_skip (g_no rfl rfl rfl g60) ?_
                        refine op_skip (g_no rfl rfl rfl g60) ?_
                        refine op_skip (g_no rfl rfl rfl g60) ?_
                        refine op_skip (g_no rfl rfl rfl g60) ?_
                        refine op_skip (g_no rfl rfl rfl g60) ?_
                        refine op_skip (g_no rfl rfl rfl g60) ?_
                        refine o_pkFc rfl g60 rfl ?_
                        refine ops_nil ?_
                        exact ⟨by (repeat (first | with_reducible exact offM_refl _ _ | refine offM_updc rfl ?_ | refine offM_upd rfl ?_ | refine offM_updo rfl ?_ | refine offM_updo_none ?_ | refine offM_head rfl rfl ?_)), congrArg (fun b => [Value.bool b]) (by have g60 := of_decide_eq_false g60; symm; exact decide_eq_false fun h => g60 h.1), rfl⟩
                    · rintro J63 vs w63 ⟨rfl, rfl⟩ -
                      refine W_cond_p rfl (fun h64 => ?_) (fun h64 => ?_)
                      · refine W_region ?_
                        refine o_mvt rfl ?_
                        refine o_mvt rfl ?_
                        refine o_mvt rfl ?_
                        refine op_run ((r_sub rfl rfl).val (congrArg (Value.int .i64) (show IntKind.i64.wrap ((i : Int) - (a : Int)) = ((i - a : Nat) : Int) from (wrap_i64 (by omega) (by omega)).trans (by omega)))) rfl ?_
                        have hjl : i - a < L.length := by omega
                        obtain ⟨x, hx⟩ : ∃ x, x = L[i - a] := ⟨_, rfl⟩
                        obtain ⟨bz, oz, rfl, hcz⟩ := rows_at' (i := i - a) blkR_len (hv.keepE (hkw24.trans hk57') fun _ _ => trivial) hjl (by decide)
                        rw [← hx] at hcz
                        refine op_run (r_idxS rfl rfl rfl ti_bk (by omega) (by omega)) rfl ?_
                        refine op_run (r_loadA (blkR x) rfl rfl rfl (by first | rfl | (rw [binV_len]; rfl) | (rw [dgR_len]; rfl) | (rw [refR_len]; rfl) | (rw [secR_len]; rfl) | (rw [List.length_map, tagF_len]; rfl) | (rw [blkR_len]; rfl)) ((by intro u v hu; rw [Int.toNat_natCast]; exact hcz u v hu))) rfl ?_
                        refine op_call rfl rfl rfl (rf10_Laid _ x) ?_; rintro v67 w67 ⟨rfl, hk67⟩
                        refine o_storeA (cs := secR (padB x)) rfl rfl (by first | rfl | exact binV_one _ | exact dgR_one _ | exact refR_one _ | exact secR_one _ | exact all_c8 _ | exact blkR_one _) (by first | rfl | (rw [binV_len]; rfl) | (rw [dgR_len]; rfl) | (rw [refR_len]; rfl) | (rw [secR_len]; rfl) | (rw [List.length_map, tagF_len]; rfl) | (rw [blkR_len]; rfl)) (hk67.blk' hB57 trivial) (by exact Nat.le_of_eq (by simp [secR_len])) rfl ?_; intro w68 hB68 hk68 hs68
                        have hB68 : Blk w68 b56 (secR (padB x)) 37 := by
                          have h := hB68
                          rwa [splice_all (by simp [secR_len])] at h
                        refine ops_nil ?_
                        rw [if_pos h64, List.getElem?_map, List.getElem?_eq_getElem hjl, ← hx] at hmi
                        exact ⟨by (repeat (first | with_reducible exact offM_refl _ _ | refine offM_updc rfl ?_ | refine offM_upd rfl ?_ | refine offM_updo rfl ?_ | refine offM_updo_none ?_ | refine offM_head rfl rfl ?_)), rfl, padB x, hB68, hmi, hk67.all.trans hk68⟩
                      · refine W_skip ?_
                        rw [if_neg h64] at hmi
                        exact ⟨by (repeat (first | with_reducible exact offM_refl _ _ | refine offM_updc rfl ?_ | refine offM_upd rfl ?_ | refine offM_updo rfl ?_ | refine offM_updo_none ?_ | refine offM_head rfl rfl ?_)), rfl, Sec.zero, hB57, hmi, Keep.refl _⟩
                  · rintro J71 vs w71 ⟨rfl, s', hBs, hMs, hk71⟩ -
                    obtain rfl : s = s' := Option.some.inj (hs.symm.trans hMs)
                    have hk71' : Keep All w49 w71 := hk4957.new hk71 (by omega)
                    refine W_seq ?_
                    refine W_region ?_
                    refine op_run (r_loadA (secR s) rfl rfl rfl (by first | rfl | (rw [binV_len]; rfl) | (rw [dgR_len]; rfl) | (rw [refR_len]; rfl) | (rw [secR_len]; rfl) | (rw [List.length_map, tagF_len]; rfl) | (rw [blkR_len]; rfl)) ((hk71.blk' hB57s (show b53 ≠ b56 by omega)).all)) rfl ?_
                    refine op_run (r_loadA (secR s) rfl rfl rfl (by first | rfl | (rw [binV_len]; rfl) | (rw [dgR_len]; rfl) | (rw [refR_len]; rfl) | (rw [secR_len]; rfl) | (rw [List.length_map, tagF_len]; rfl) | (rw [blkR_len]; rfl)) (hBs.all)) rfl ?_
                    refine op_run (r_neqC (p := True) rfl rfl rfl rfl (by kernel_rfl) (okC_sec _) (okC_sec _) rfl (⟨fun _ => trivial, fun _ => rfl⟩)) rfl ?_
                    refine ops_nil ?_
                    refine W_no rfl (by simp) ?_
                    refine W_skip ?_
                    refine W_region ?_
                    refine op_run (r_add rfl rfl) rfl ?_
                    refine o_mvt rfl ?_
                    refine ops_nil ?_
                    have hinc := inc64' i (by omega)
                    refine ⟨by (repeat (first | with_reducible exact offM_refl _ _ | refine offM_updc rfl ?_ | refine offM_upd rfl ?_ | refine offM_updo rfl ?_ | refine offM_updo_none ?_ | refine offM_head rfl rfl ?_)), ⟨i + 1, congrArg (fun z : Int => [Value.int .i64 z]) hinc, by omega, hk49.trans hk71'⟩, ?_⟩
                    show N - (IntKind.i64.wrap ((i : Int) + 1)).toNat < N - (i : Int).toNat
                    rw [hinc]; omega
                · refine W_exit ?_
                  refine W_seq ?_
                  refine W_seq ?_
                  refine W_region ?_
                  refine o_mvt rfl ?_
                  refine op_run (r_len rfl rfl rfl) rfl ?_
                  refine o_mvc rfl ?_
                  refine ops_nil ?_
                  refine W_block ?_
                  have hB49 := hk49.blk' hB24 trivial
                  have hD49 := hD24.keep hk49
                  refine W_loop [125] [8, 17, 18, 19, 20, 125, 126, 127, 128, 129, 130, 131, 132, 133, 134, 135, 136, 137, 138, 139, 140, 141, 142, 143, 144, 145, 146, 147, 148, 149, 150, 151, 152, 153] (fun vs w' => ∃ k : Nat, vs = [.int .i64 k] ∧ k ≤ L.length ∧ Keep All w49 w') (fun vs _ => match vs with | [.int _ k] => L.length - k.toNat | _ => 0) ⟨0, rfl, Nat.zero_le _, Keep.refl _⟩ ?_
                  rintro J78 vs w78 ⟨k, rfl, hk, hk78⟩ -
                  refine W_seq ?_
                  refine W_region ?_
                  refine op_run (r_lss rfl rfl) rfl ?_
                  refine ops_nil ?_
                  refine W_seq ?_
                  refine W_cond_p rfl (fun h79 => ?_) (fun h79 => ?_)
                  · refine W_skip ?_
                    refine W_seq ?_
                    refine W_block ?_
                    refine W_seq ?_
                    refine W_region ?_
                    refine o_mvt rfl ?_
                    have hkl : k < L.length := by omega
                    obtain ⟨x, hx⟩ : ∃ x, x = L[k] := ⟨_, rfl⟩
                    have hxk : L[k]? = some x := by rw [List.getElem?_eq_getElem hkl, hx]
                    obtain ⟨bz, oz, rfl, hcz⟩ := rows_at' (i := k) blkR_len (hv.keepE ((hkw24.trans hk49).trans hk78) fun _ _ => trivial) hkl (by decide)
                    rw [← hx] at hcz
                    have hrd : readB M' B (k : Int) (fgB x) = (x, 0) := by rw [hMe, hBe]; exact readB_put (by rw [List.length_replicate]; omega) hxk
                    refine op_run (r_idxS rfl rfl rfl ti_bk (by omega) (by omega)) rfl ?_
                    refine op_run (r_loadA (blkR x) rfl rfl rfl (by first | rfl | (rw [binV_len]; rfl) | (rw [dgR_len]; rfl) | (rw [refR_len]; rfl) | (rw [secR_len]; rfl) | (rw [List.length_map, tagF_len]; rfl) | (rw [blkR_len]; rfl)) ((by intro u v hu; rw [Int.toNat_natCast]; exact hcz u v hu))) rfl ?_
                    refine o_alloc rfl rfl rfl ?_; intro w82 b82 e82 hB82 hk82 hs82
                    refine o_ast rfl ?_
                    refine o_storeA (cs := blkR x) rfl rfl (by first | rfl | exact binV_one _ | exact dgR_one _ | exact refR_one _ | exact secR_one _ | exact all_c8 _ | exact blkR_one _) (by first | rfl | (rw [binV_len]; rfl) | (rw [dgR_len]; rfl) | (rw [refR_len]; rfl) | (rw [secR_len]; rfl) | (rw [List.length_map, tagF_len]; rfl) | (rw [blkR_len]; rfl)) hB82 (by exact Nat.le_of_eq (by simp [blkR_len])) rfl ?_; intro w83 hB83 hk83 hs83
                    have hB83 : Blk w83 b82 (blkR x) 40 := by
                      have h := hB83
                      rwa [splice_all (by simp [blkR_len])] at h
                    have hk7883 : Keep All w78 w83 := hk82.new hk83 (by omega)
                    have hk4983 := hk78.trans hk7883
                    have hB83b := hk4983.blk' hB49 trivial
                    have hD83 := hD49.keep hk4983
                    refine ops_nil ?_
                    refine W_cut [19, 20] [19, 20, 130, 131, 132, 133, 134, 135, 136, 137, 138] (fun vs w84 => ∃ b19, vs = [.pointer (some ⟨b19, 0, none⟩), .int .i64 0] ∧ Blk w84 b19 (blkR x) 40 ∧ Keep All w83 w84) ?_ ?_
                    · refine W_held (fun w2 => Keep All w83 w2) (by kernel_rfl) (Keep.drawn _) (fun hS => ?_)
                      refine any_mvt 0 rfl (by kernel_rfl) (by kernel_rfl) (by kernel_rfl) rfl hS ?_
                      refine any_run 1 (fun w' hS' => (r_loadA (binV B) rfl rfl rfl (by first | rfl | (rw [binV_len]; rfl) | (rw [dgR_len]; rfl) | (rw [refR_len]; rfl) | (rw [secR_len]; rfl) | (rw [List.length_map, tagF_len]; rfl) | (rw [blkR_len]; rfl)) ((hS'.blk' hB83b trivial).all))) rfl (by kernel_rfl) (by kernel_rfl) (by kernel_rfl) rfl hS ?_
                      refine any_mvt 2 rfl (by kernel_rfl) (by kernel_rfl) (by kernel_rfl) rfl hS ?_
                      refine any_run 3 (fun w' hS' => (r_loadA (blkR x) rfl rfl rfl (by first | rfl | (rw [binV_len]; rfl) | (rw [dgR_len]; rfl) | (rw [refR_len]; rfl) | (rw [secR_len]; rfl) | (rw [List.length_map, tagF_len]; rfl) | (rw [blkR_len]; rfl)) ((hS'.blk' hB83 trivial).all))) rfl (by kernel_rfl) (by kernel_rfl) (by kernel_rfl) rfl hS ?_
                      refine any_two 4 9 (by kernel_rfl) (one_of rfl ?_) (one_of rfl ?_)
                      · refine op_call rfl rfl rfl (rf10_Finger _ x) ?_; rintro v88 w88 ⟨rfl, hk88⟩
                        refine ops_nil ⟨hS.trans hk88, fun hS => ?_⟩
                        refine any_two 5 9 (by kernel_rfl) (one_of rfl ?_) (one_of rfl ?_)
                        · refine op_call rfl rfl rfl (bn_Read w10 _ bD N _ M' _ (hD83.keep hS) B (k : Int) (fgB x) (by omega) (by rw [hBe]; exact ha) (by rw [hBe]; exact ha2)) ?_; rintro v90 w90 ⟨rfl, hk90⟩
                          rw [hrd]
                          refine ops_nil ⟨hS.trans hk90, fun hS => ?_⟩
                          refine any_mvt 6 rfl (by kernel_rfl) (by kernel_rfl) (by kernel_rfl) rfl hS ?_
                          refine any_run 7 (fun w' hS' => (r_extract rfl rfl)) rfl (by kernel_rfl) (by kernel_rfl) (by kernel_rfl) rfl hS ?_
                          refine any_run 8 (fun w' hS' => (r_extract rfl rfl)) rfl (by kernel_rfl) (by kernel_rfl) (by kernel_rfl) rfl hS ?_
                          refine any_one 9 (by kernel_rfl) (one_of rfl ?_)
                          refine o_alloc rfl rfl rfl ?_; intro w92 b92 e92 hB92 hk92 hs92
                          have hz92 := hS.size
                          refine ops_nil ⟨hS.trans hk92, fun hS => ?_⟩
                          refine any_one 10 (by kernel_rfl) (one_of rfl ?_)
                          refine o_storeA (cs := blkR x) rfl rfl (by first | rfl | exact binV_one _ | exact dgR_one _ | exact refR_one _ | exact secR_one _ | exact all_c8 _ | exact blkR_one _) (by first | rfl | (rw [binV_len]; rfl) | (rw [dgR_len]; rfl) | (rw [refR_len]; rfl) | (rw [secR_len]; rfl) | (rw [List.length_map, tagF_len]; rfl) | (rw [blkR_len]; rfl)) hB92 (by exact Nat.le_of_eq (by simp [blkR_len])) rfl ?_; intro w94 hB94 hk94 hs94
                          have hB94 : Blk w94 b92 (blkR x) 40 := by
                            have h := hB94
                            rwa [splice_all (by simp [blkR_len])] at h
                          refine ops_nil ⟨hS.new hk94 (by omega), fun hS => ?_⟩
                          refine any_ast 11 rfl (by kernel_rfl) (by kernel_rfl) (by kernel_rfl) rfl hS ?_
                          refine any_done (by kernel_rfl) ?_
                          exact ⟨by (repeat (first | with_reducible exact offM_refl _ _ | refine offM_updc rfl ?_ | refine offM_upd rfl ?_ | refine offM_updo rfl ?_ | refine offM_updo_none ?_ | refine offM_head rfl rfl ?_)), b92, rfl, hB94, hS⟩
                        · refine o_alloc rfl rfl rfl ?_; intro w97 b97 e97 hB97 hk97 hs97
                          have hz97 := hS.size
                          refine ops_nil ⟨hS.trans hk97, fun hS => ?_⟩
                          refine any_one 5 (by kernel_rfl) (one_of rfl ?_)
                          refine op_call rfl rfl rfl (bn_Read w10 _ bD N _ M' _ (hD83.keep hS) B (k : Int) (fgB x) (by omega) (by rw [hBe]; exact ha) (by rw [hBe]; exact ha2)) ?_; rintro v99 w99 ⟨rfl, hk99⟩
                          rw [hrd]
                          refine ops_nil ⟨hS.trans hk99, fun hS => ?_⟩
                          refine any_mvt 6 rfl (by kernel_rfl) (by kernel_rfl) (by kernel_rfl) rfl hS ?_
                          refine any_run 7 (fun w' hS' => (r_extract rfl rfl)) rfl (by kernel_rfl) (by kernel_rfl) (by kernel_rfl) rfl hS ?_
                          refine any_run 8 (fun w' hS' => (r_extract rfl rfl)) rfl (by kernel_rfl) (by kernel_rfl) (by kernel_rfl) rfl hS ?_
                          refine any_one 10 (by kernel_rfl) (one_of rfl ?_)
                          refine o_storeA (cs := blkR x) rfl rfl (by first | rfl | exact binV_one _ | exact dgR_one _ | exact refR_one _ | exact secR_one _ | exact all_c8 _ | exact blkR_one _) (by first | rfl | (rw [binV_len]; rfl) | (rw [dgR_len]; rfl) | (rw [refR_len]; rfl) | (rw [secR_len]; rfl) | (rw [List.length_map, tagF_len]; rfl) | (rw [blkR_len]; rfl)) (hk99.blk' hB97 trivial) (by exact Nat.le_of_eq (by simp [blkR_len])) rfl ?_; intro w101 hB101 hk101 hs101
                          have hB101 : Blk w101 b97 (blkR x) 40 := by
                            have h := hB101
                            rwa [splice_all (by simp [blkR_len])] at h
                          refine ops_nil ⟨hS.new hk101 (by omega), fun hS => ?_⟩
                          refine any_ast 11 rfl (by kernel_rfl) (by kernel_rfl) (by kernel_rfl) rfl hS ?_
                          refine any_done (by kernel_rfl) ?_
                          exact ⟨by (repeat (first | with_reducible exact offM_refl _ _ | refine offM_updc rfl ?_ | refine offM_upd rfl ?_ | refine offM_updo rfl ?_ | refine offM_updo_none ?_ | refine offM_head rfl rfl ?_)), b97, rfl, hB101, hS⟩
                      · refine o_alloc rfl rfl rfl ?_; intro w104 b104 e104 hB104 hk104 hs104
                        have hz104 := hS.size
                        refine ops_nil ⟨hS.trans hk104, fun hS => ?_⟩
                        refine any_one 4 (by kernel_rfl) (one_of rfl ?_)
                        refine op_call rfl rfl rfl (rf10_Finger _ x) ?_; rintro v106 w106 ⟨rfl, hk106⟩
                        refine ops_nil ⟨hS.trans hk106, fun hS => ?_⟩
                        refine any_one 5 (by kernel_rfl) (one_of rfl ?_)
                        refine op_call rfl rfl rfl (bn_Read w10 _ bD N _ M' _ (hD83.keep hS) B (k : Int) (fgB x) (by omega) (by rw [hBe]; exact ha) (by rw [hBe]; exact ha2)) ?_; rintro v108 w108 ⟨rfl, hk108⟩
                        rw [hrd]
                        refine ops_nil ⟨hS.trans hk108, fun hS => ?_⟩
                        refine any_mvt 6 rfl (by kernel_rfl) (by kernel_rfl) (by kernel_rfl) rfl hS ?_
                        refine any_run 7 (fun w' hS' => (r_extract rfl rfl)) rfl (by kernel_rfl) (by kernel_rfl) (by kernel_rfl) rfl hS ?_
                        refine any_run 8 (fun w' hS' => (r_extract rfl rfl)) rfl (by kernel_rfl) (by kernel_rfl) (by kernel_rfl) rfl hS ?_
                        refine any_one 10 (by kernel_rfl) (one_of rfl ?_)
                        refine o_storeA (cs := blkR x) rfl rfl (by first | rfl | exact binV_one _ | exact dgR_one _ | exact refR_one _ | exact secR_one _ | exact all_c8 _ | exact blkR_one _) (by first | rfl | (rw [binV_len]; rfl) | (rw [dgR_len]; rfl) | (rw [refR_len]; rfl) | (rw [secR_len]; rfl) | (rw [List.length_map, tagF_len]; rfl) | (rw [blkR_len]; rfl)) (hk108.blk' (hk106.blk' hB104 trivial) trivial) (by exact Nat.le_of_eq (by simp [blkR_len])) rfl ?_; intro w110 hB110 hk110 hs110
                        have hB110 : Blk w110 b104 (blkR x) 40 := by
                          have h := hB110
                          rwa [splice_all (by simp [blkR_len])] at h
                        refine ops_nil ⟨hS.new hk110 (by omega), fun hS => ?_⟩
                        refine any_ast 11 rfl (by kernel_rfl) (by kernel_rfl) (by kernel_rfl) rfl hS ?_
                        refine any_done (by kernel_rfl) ?_
                        exact ⟨by (repeat (first | with_reducible exact offM_refl _ _ | refine offM_updc rfl ?_ | refine offM_upd rfl ?_ | refine offM_updo rfl ?_ | refine offM_updo_none ?_ | refine offM_head rfl rfl ?_)), b104, rfl, hB110, hS⟩
                    · rintro J113 vs w113 ⟨b19, rfl, hB19, hk113⟩ -
                      have hB113 := hk113.blk' hB83 trivial
                      refine W_cut [152] [139, 140, 141, 142, 143, 144, 145, 146, 147, 148, 149, 150, 151, 152] (fun vs w114 => vs = [.bool false] ∧ Keep All w113 w114) ?_ ?_
                      · refine W_quiet (Keep All w113) (by kernel_rfl) (by kernel_rfl) (Keep.drawn _) ?_
                        refine q_mvt rfl ?_
                        refine q_run (fun _ _ => (r_neq rfl rfl)) rfl ?_
                        refine q_mvt rfl ?_
                        refine q_split rfl rfl rfl (fun g116 => ?_) (fun g => absurd g (by simp))
                        refine q_run (fun _ hk => r_loadA (blkR x) rfl rfl rfl (by first | rfl | (rw [binV_len]; rfl) | (rw [dgR_len]; rfl) | (rw [refR_len]; rfl) | (rw [secR_len]; rfl) | (rw [List.length_map, tagF_len]; rfl) | (rw [blkR_len]; rfl)) ((hk.blk' hB19 trivial).all)) (g_yes rfl rfl rfl g116) ?_
                        refine q_run (fun _ hk => r_loadA (blkR x) rfl rfl rfl (by first | rfl | (rw [binV_len]; rfl) | (rw [dgR_len]; rfl) | (rw [refR_len]; rfl) | (rw [secR_len]; rfl) | (rw [List.length_map, tagF_len]; rfl) | (rw [blkR_len]; rfl)) ((hk.blk' hB113 trivial).all)) (g_yes rfl rfl rfl g116) ?_
                        refine q_run (fun _ _ => (r_neqC (p := True) rfl rfl rfl rfl (by kernel_rfl) (okC_bk _) (okC_bk _) rfl (⟨fun _ => trivial, fun _ => rfl⟩))) (g_yes rfl rfl rfl g116) ?_
                        refine q_pkFt rfl g116 rfl ?_
                        refine q_mvt rfl ?_
                        refine q_split rfl rfl rfl (fun g120 => ?_) (fun g => absurd g (by simp))
                        refine q_run (fun _ hk => r_loadA (blkR x) rfl rfl rfl (by first | rfl | (rw [binV_len]; rfl) | (rw [dgR_len]; rfl) | (rw [refR_len]; rfl) | (rw [secR_len]; rfl) | (rw [List.length_map, tagF_len]; rfl) | (rw [blkR_len]; rfl)) ((hk.blk' hB113 trivial).all)) (g_yes rfl rfl rfl g120) ?_
                        refine q_call rfl rfl (g_yes rfl rfl rfl g120) (fun _ hk => (bn_Finger _ x).mono fun e w'' ⟨u, he, h1, h2⟩ => ⟨u, he, h1, hk.trans h2⟩) ?_
                        refine q_run (fun _ hk => r_loadA (blkR x) rfl rfl rfl (by first | rfl | (rw [binV_len]; rfl) | (rw [dgR_len]; rfl) | (rw [refR_len]; rfl) | (rw [secR_len]; rfl) | (rw [List.length_map, tagF_len]; rfl) | (rw [blkR_len]; rfl)) ((hk.blk' hB113 trivial).all)) (g_yes rfl rfl rfl g120) ?_
                        refine q_call rfl rfl (g_yes rfl rfl rfl g120) (fun _ hk => (rf10_Finger _ x).mono fun e w'' ⟨u, he, h1, h2⟩ => ⟨u, he, h1, hk.trans h2⟩) ?_
                        refine q_run (fun _ _ => (r_neqC (p := True) rfl rfl rfl rfl (by kernel_rfl) (okC_dgR _) (okC_dgR _) rfl (⟨fun _ => trivial, fun _ => rfl⟩))) (g_yes rfl rfl rfl g120) ?_
                        refine q_pkFt rfl g120 rfl ?_
                        refine q_nil ?_; intro w126 hk126
                        exact ⟨by (repeat (first | with_reducible exact offM_refl _ _ | refine offM_updc rfl ?_ | refine offM_upd rfl ?_ | refine offM_updo rfl ?_ | refine offM_updo_none ?_ | refine offM_head rfl rfl ?_)), congrArg (fun b => [Value.bool b]) (by simp), hk126⟩
                      · rintro J128 vs w128 ⟨rfl, hk128⟩ -
                        refine W_no rfl (rfl) ?_
                        refine W_skip ?_
                        refine W_region ?_
                        refine op_run (r_add rfl rfl) rfl ?_
                        refine o_mvt rfl ?_
                        refine ops_nil ?_
                        have hinc := inc64' k (by omega)
                        refine ⟨by (repeat (first | with_reducible exact offM_refl _ _ | refine offM_updc rfl ?_ | refine offM_upd rfl ?_ | refine offM_updo rfl ?_ | refine offM_updo_none ?_ | refine offM_head rfl rfl ?_)), ⟨k + 1, congrArg (fun z : Int => [Value.int .i64 z]) hinc, by omega, (hk4983.trans hk113).trans hk128⟩, ?_⟩
                        show L.length - (IntKind.i64.wrap ((k : Int) + 1)).toNat < L.length - (k : Int).toNat
                        rw [hinc]; omega
                  · refine W_exit ?_
                    refine W_seq ?_
                    refine W_region ?_
                    refine o_mvt rfl ?_
                    have hall : allB M' B = some L := by rw [hMe, hBe]; exact allB_put hLne (by rw [List.length_replicate]; omega)
                    have hB78 := hk78.blk' hB49 trivial
                    refine op_run (r_loadA (binV B) rfl rfl rfl (by first | rfl | (rw [binV_len]; rfl) | (rw [dgR_len]; rfl) | (rw [refR_len]; rfl) | (rw [secR_len]; rfl) | (rw [List.length_map, tagF_len]; rfl) | (rw [blkR_len]; rfl)) (hB78.all)) rfl ?_
                    refine op_call rfl rfl rfl (bn_All w10 _ bD N _ M' _ (hD49.keep hk78) B (by omega) (by rw [hBe]; exact ha) (by rw [hBe]; exact ha2) hN.2) ?_; rintro v133 w133 ⟨u, rfl, hS133, hk133⟩
                    rw [hall] at hS133 ⊢
                    have hv133 := hv.keepE (((hkw24.trans hk49).trans hk78).trans hk133) fun _ _ => trivial
                    have hB133 := hk133.blk' hB78 trivial
                    refine o_mvt rfl ?_
                    refine op_run (r_extract rfl rfl) rfl ?_
                    refine op_run (r_extract rfl rfl) rfl ?_
                    refine o_ast rfl ?_
                    refine o_ast rfl ?_
                    refine ops_nil ?_
                    refine W_seq ?_
                    refine W_quiet (Keep All w133) (by kernel_rfl) (by kernel_rfl) (Keep.drawn _) ?_
                    refine q_mvt rfl ?_
                    refine q_run (fun _ _ => (r_eql rfl rfl)) rfl ?_
                    refine q_mvt rfl ?_
                    refine q_split rfl rfl rfl (fun g135 => ?_) (fun g => absurd g (by simp [hE]))
                    refine q_run (fun _ hk => r_loadA (binV B) rfl rfl rfl (by first | rfl | (rw [binV_len]; rfl) | (rw [dgR_len]; rfl) | (rw [refR_len]; rfl) | (rw [secR_len]; rfl) | (rw [List.length_map, tagF_len]; rfl) | (rw [blkR_len]; rfl)) ((hk.blk' hB133 trivial).all)) (g_yes rfl rfl rfl g135) ?_
                    refine q_mvt (g_yes rfl rfl rfl g135) ?_
                    refine q_mvt (g_yes rfl rfl rfl g135) ?_
                    refine q_mvt (g_yes rfl rfl rfl g135) ?_
                    refine q_run (fun _ _ => (r_len rfl rfl rfl)) (g_yes rfl rfl rfl g135) ?_
                    refine q_mvt (g_yes rfl rfl rfl g135) ?_
                    refine q_call rfl rfl (g_yes rfl rfl rfl g135) (fun _ hk => (rf10_Root _ _ L (hv133.keepE hk fun _ _ => trivial) (by omega)).mono fun e w'' ⟨u, he, h1, h2⟩ => ⟨u, he, h1, hk.trans h2⟩) ?_
                    refine q_run (fun _ _ => (r_build ((binV ⟨number, a, L.length, rootB L⟩)) (_) ([(0, .int .i64 number), (1, .int .i64 a), (2, .int .i64 L.length), (3, .agg (dgR (rootB L)).toArray)]) rfl rfl rfl rfl rfl (fill_bin (by kernel_rfl) rfl))) (g_yes rfl rfl rfl g135) ?_
                    refine q_run (fun _ _ => (r_eqlC (p := True) rfl rfl rfl rfl (by kernel_rfl) (okC_bin _) (okC_bin _) rfl (by rw [hBe]; exact ⟨fun _ => trivial, fun _ => rfl⟩))) (g_yes rfl rfl rfl g135) ?_
                    refine q_pkTt rfl g135 rfl ?_
                    refine q_mvt rfl ?_
                    refine q_split rfl rfl rfl (fun g140 => ?_) (fun g => absurd g (by simp))
                    refine q_mvt (g_yes rfl rfl rfl g140) ?_
                    refine q_run (fun _ _ => (r_eql rfl rfl)) (g_yes rfl rfl rfl g140) ?_
                    refine q_pkTt rfl g140 rfl ?_
                    refine q_mvt rfl ?_
                    refine q_split rfl rfl rfl (fun g141 => ?_) (fun g => absurd g (by simp))
                    refine q_mvt (g_yes rfl rfl rfl g141) ?_
                    refine q_mvt (g_yes rfl rfl rfl g141) ?_
                    refine q_call rfl rfl (g_yes rfl rfl rfl g141) (fun _ hk => (rf10_Same _ _ _ L L (Sl.keepE hS133 hk fun _ _ => trivial) (hv133.keepE hk fun _ _ => trivial)).mono fun e w'' ⟨u, he, h1, h2⟩ => ⟨u, he, h1, hk.trans h2⟩) ?_
                    refine q_pkTt rfl g141 rfl ?_
                    refine q_ast rfl ?_
                    refine q_nil ?_; intro w143 hk143
                    refine W_ret ?_
                    refine ret1 (.bool (decide (L = L))) rfl ?_ ?_; rfl
                    exact ⟨congrArg Value.bool (decide_eq_true rfl), (((hkw24.trans hk49).trans hk78).trans hk133).trans hk143⟩
end Go.Proofs.Ytigehkfdfecfoaa.B
