/-
  ModelTrims.
-/
import Derived.Test.YtkckphbdjkjfgaaModT
namespace Go.Proofs.Ytkckphbdjkjfgaa.B
open Go
set_option linter.unusedVariables false
set_option maxHeartbeats 2000000
set_option maxRecDepth 100000
attribute [local irreducible] W OpsW OpsQ retP
theorem walk_ModelTrims (w : World) (v : Value) (os : List OpV) (o : OpV) (hv : OpsIn w v os) (hwf : o.wf) : Ret Try.prog 3 [v, .agg (opR o).toArray].toArray w fun r w' => r = .bool true ∧ Keep All w w' := by
  obtain ⟨a0, c0, rfl, hc0, hcm0⟩ := SlR.form hv
  have hwf1 : ∀ x ∈ [o], x.wf := fun x hx => by rw [List.mem_singleton.1 hx]; exact hwf
  refine enter (fn := Try.f3) (n := 87) Try.func3 rfl rfl (by simp) ?_
  refine W_seq ?_
  refine W_region ?_
  refine o_box rfl rfl rfl ?_; intro w1 b1 e1 hB1 hk1 hs1
  have hB1 : Blk w1 b1 (opR o) 26 := hB1
  refine o_asc rfl ?_
  refine ops_nil ?_
  refine W_seq ?_
  refine W_seq ?_
  refine W_region ?_
  refine op_call rfl rfl rfl (lw_speaks w1) ?_; rintro v2 w2 ⟨rfl, hk2⟩
  refine op_run (r_not rfl) rfl ?_
  refine ops_nil ?_
  refine W_cond rfl (fun h3 => ?_) (fun h3 => ?_)
  · refine W_seq ?_
    refine W_region ?_
    refine o_asc rfl ?_
    refine ops_nil ?_
    refine W_ret ?_
    refine ret1 (.bool false) rfl ?_ ?_; rfl
    cases h3
  · refine W_skip ?_
    refine W_seq ?_
    refine W_cut [20] [14, 15, 16, 17, 18, 19, 20] (fun vs w5 => ∃ g : Bool, vs = [.bool g] ∧ Keep All w2 w5 ∧ (g = false → os.length ≤ 80 ∧ (∀ o ∈ os, o.small) ∧ o.small)) ?_ ?_
    · refine W_region ?_
      refine o_mvt rfl ?_
      refine op_call rfl rfl rfl (lw_Great w2 _ os (hv.k (hk1.trans hk2))) ?_; rintro v6 w6 ⟨⟨g1, rfl, hg1⟩, hk6⟩
      refine o_mvt rfl ?_
      refine g_split rfl rfl rfl (fun g7 => ?_) (fun g7 => ?_)
      · refine op_run (r_loadA (opR o) rfl rfl rfl (by first | rfl | (rw [binV_len]; rfl) | (rw [dgR_len]; rfl) | (rw [refR_len]; rfl) | (rw [secR_len]; rfl) | (rw [List.length_map, tagF_len]; rfl) | (rw [opR_len]; rfl) | (rw [ansR_len]; rfl) | (rw [blkR_len]; rfl)) (((hk2.trans hk6).blk' hB1 trivial).all)) (g_yes rfl rfl rfl g7) ?_
        refine o_bsR opR opR_len [o] rfl ti_op rfl rfl rfl rfl rfl (g_yes rfl rfl rfl g7) ?_; intro w9 b9 e9 hB9 hk9 hs9
        refine op_call rfl rfl (g_yes rfl rfl rfl g7) (lw_Great w9 _ [o] (ops_rows (os := [o]) hB9 (Nat.le_of_ble_eq_true rfl) (Nat.le_of_ble_eq_true rfl) hwf1)) ?_; rintro v10 w10 ⟨⟨g2, rfl, hg2⟩, hk10⟩
        refine o_pkFt rfl g7 rfl ?_
        refine ops_nil ?_
        exact ⟨by (repeat (first | with_reducible exact offM_refl _ _ | refine offM_updc rfl ?_ | refine offM_upd rfl ?_ | refine offM_updo rfl ?_ | refine offM_updo_none ?_ | refine offM_head rfl rfl ?_)), g2, rfl, (hk6.trans hk9).trans hk10, fun e => ⟨(hg1 g7).1, (hg1 g7).2, (hg2 e).2 o (List.mem_singleton.2 rfl)⟩⟩
      · refine op_skip (g_no rfl rfl rfl g7) ?_
        refine op_skip (g_no rfl rfl rfl g7) ?_
        refine op_skip (g_no rfl rfl rfl g7) ?_
        refine o_pkTc rfl g7 rfl ?_
        refine ops_nil ?_
        exact ⟨by (repeat (first | with_reducible exact offM_refl _ _ | refine offM_updc rfl ?_ | refine offM_upd rfl ?_ | refine offM_updo rfl ?_ | refine offM_updo_none ?_ | refine offM_head rfl rfl ?_)), true, rfl, hk6, fun e => by cases e⟩
    · rintro J13 vs w13 ⟨g, rfl, hk13, hg⟩ -
      have hB13 := (hk2.trans hk13).blk' hB1 trivial
      have hkA := (hk1.trans hk2).trans hk13
      refine W_cond rfl (fun h14 => ?_) (fun h14 => ?_)
      · refine W_seq ?_
        refine W_region ?_
        refine o_asc rfl ?_
        refine ops_nil ?_
        refine W_ret ?_
        refine ret1 (.bool true) rfl ?_ ?_; rfl
        exact ⟨rfl, hkA⟩
      · refine W_skip ?_
        refine W_seq ?_
        refine W_region ?_
        obtain ⟨hlen, hall, hso⟩ := hg h14
        refine op_call rfl rfl rfl (md_New w13) ?_; rintro v16 w16 ⟨mb, bm, rfl, hmb, hbm, _, hBm, hMm, hk16⟩
        have hz13 := hkA.size
        have M16 : MS w w16 mb bm [] := ⟨ModW.new hBm hMm, hkA.trans hk16, fun z hz => by
          rcases hz with rfl | ⟨x, hx, _⟩
          · omega
          · cases hx⟩
        have hB116 := hk16.blk' hB13 trivial
        refine o_ast rfl ?_
        refine ops_nil ?_
        refine W_seq ?_
        refine W_seq ?_
        refine W_region ?_
        refine o_mvt rfl ?_
        refine op_run (r_len rfl rfl rfl) rfl ?_
        refine o_mvc rfl ?_
        refine ops_nil ?_
        refine W_block ?_
        refine W_loop [24] [7, 24, 25, 26, 27, 28, 29, 30, 31] (fun vs w' => ∃ (k : Nat) (l' : ModL), vs = [.int .i64 k] ∧ k ≤ os.length ∧ abs l' = runD [] (os.take k) ∧ MS w w' mb bm l' ∧ Blk w' b1 (opR o) 26) (fun vs _ => match vs with | [.int _ y] => os.length - y.toNat | _ => 0) ⟨0, [], rfl, Nat.zero_le _, rfl, M16, hB116⟩ ?_
        rintro J17 vs w17 ⟨k, l', rfl, hk, ha, M, hB117⟩ -
        refine W_seq ?_
        refine W_region ?_
        refine op_run (r_lss rfl rfl) rfl ?_
        refine ops_nil ?_
        refine W_seq ?_
        refine W_cond_p rfl (fun h18 => ?_) (fun h18 => ?_)
        · refine W_skip ?_
          refine W_seq ?_
          refine W_block ?_
          refine W_seq ?_
          refine W_region ?_
          have hkl : k < os.length := by omega
          obtain ⟨c, hc⟩ : ∃ c, os[k]? = some c := ⟨_, List.getElem?_eq_getElem hkl⟩
          obtain ⟨b, off, cp, ev_, _, hcell⟩ := (hv.k M.k).at hc
          cases ev_
          have hinc := inc64' k (by unfold maxLen at hcm0; omega)
          have hcs := hall c (List.mem_of_getElem? hc)
          have hsm : SmallM (abs l') := by
            rw [ha]
            have := small_run (os.take k) 0 [] SmallN.nil
            exact this.m (by rw [List.length_take]; omega)
          refine op_run (r_idxS rfl rfl rfl rfl (by omega) (by omega)) rfl ?_
          refine op_run (r_loadA (opR c) rfl rfl rfl (by first | rfl | (rw [binV_len]; rfl) | (rw [dgR_len]; rfl) | (rw [refR_len]; rfl) | (rw [secR_len]; rfl) | (rw [List.length_map, tagF_len]; rfl) | (rw [opR_len]; rfl) | (rw [ansR_len]; rfl) | (rw [blkR_len]; rfl)) ((fun j u hj => by rw [Int.toNat_natCast]; exact hcell j u hj))) rfl ?_
          refine o_alloc rfl rfl rfl ?_; intro w21 b21 e21 hB21 hk21 hs21
          have hB21' : Blk w21 b21 (opR OpV.zero) 26 := hB21
          have M21 := M.keep hk21
          have hlt1 := hB117.lt
          have hzk := M.k.size
          refine o_storeA (cs := opR c) rfl rfl (by first | rfl | exact binV_one _ | exact dgR_one _ | exact refR_one _ | exact secR_one _ | exact all_c8 _ | exact opR_one _ | exact ansR_one _ _ _ | exact ansS_one (by assumption) | exact blkR_one _) (by first | rfl | (rw [binV_len]; rfl) | (rw [dgR_len]; rfl) | (rw [refR_len]; rfl) | (rw [secR_len]; rfl) | (rw [List.length_map, tagF_len]; rfl) | (rw [opR_len]; rfl) | (rw [ansR_len]; rfl) | (rw [blkR_len]; rfl)) hB21' (by exact Nat.le_of_eq (by simp [opR_len])) rfl ?_; intro w22 hB22 hk22 hs22
          have hB22' := op_st hB22
          have M22 := M21.st hB21' (by decide) (by decide) hk22 (by omega)
          have hB122 := hk22.blk' (hk21.blk' hB117 trivial) (show b1 ≠ b21 by omega)
          refine ops_nil ?_
          refine W_region ?_
          refine o_mvt rfl ?_
          refine op_run (r_loadA (opR c) rfl rfl rfl (by first | rfl | (rw [binV_len]; rfl) | (rw [dgR_len]; rfl) | (rw [refR_len]; rfl) | (rw [secR_len]; rfl) | (rw [List.length_map, tagF_len]; rfl) | (rw [opR_len]; rfl) | (rw [ansR_len]; rfl) | (rw [blkR_len]; rfl)) (hB22'.all)) rfl ?_
          refine op_call rfl rfl rfl (md_Do w22 mb bm l' c M22.m hcs hsm) ?_; rintro v24 w24 ⟨_, l2, ha2, hS⟩
          refine ops_nil ?_
          refine W_region ?_
          refine op_run (r_add rfl rfl) rfl ?_
          refine o_mvt rfl ?_
          refine ops_nil ?_
          have M24 := M22.go hS
          refine ⟨by (repeat (first | with_reducible exact offM_refl _ _ | refine offM_updc rfl ?_ | refine offM_upd rfl ?_ | refine offM_updo rfl ?_ | refine offM_updo_none ?_ | refine offM_head rfl rfl ?_)), ⟨k + 1, l2, congrArg (fun z : Int => [Value.int .i64 z]) hinc, by omega, ?_, M24, M22.blk hS hB122⟩, ?_⟩
          · rw [List.take_succ_eq_append_getElem hkl, (List.getElem?_eq_some_iff.1 hc).2, runD_snoc, ← ha]; exact ha2
          · show os.length - (IntKind.i64.wrap ((k : Int) + 1)).toNat < os.length - (k : Int).toNat
            rw [hinc]; omega
        · refine W_exit ?_
          refine W_seq ?_
          refine W_region ?_
          refine op_run (r_fieldAddr rfl rfl rfl rfl rfl) rfl ?_
          refine o_store (v := (.int .i64 4)) rfl rfl rfl rfl hB117 (by show 0 < (opR o).length; rw [opR_len]; decide) rfl ?_; intro w26 hB26 hk26 hs26
          have hB126 : Blk w26 b1 (opR (o.as 4)) 26 := hB26
          have M26 := M.st hB117 (by decide) (by decide) hk26 (by omega)
          refine ops_nil ?_
          refine W_seq ?_
          refine W_seq ?_
          refine W_region ?_
          refine o_mvt rfl ?_
          refine op_run (r_loadA (opR (o.as 4)) rfl rfl rfl (by first | rfl | (rw [binV_len]; rfl) | (rw [dgR_len]; rfl) | (rw [refR_len]; rfl) | (rw [secR_len]; rfl) | (rw [List.length_map, tagF_len]; rfl) | (rw [opR_len]; rfl) | (rw [ansR_len]; rfl) | (rw [blkR_len]; rfl)) (hB126.all)) rfl ?_
          refine op_call rfl rfl rfl (md_Do4 w26 mb bm l' (o.as 4) M26.m rfl) ?_; rintro v28 w28 ⟨rfl, l4, ha4, hS28⟩
          have M28 := M26.go hS28
          have hB128 := M26.blk hS28 hB126
          refine op_run (r_field1 rfl rfl rfl rfl rfl ((show (ansR _ _ _)[0]? = some (.int .i64 _) from rfl))) rfl ?_
          refine op_run (r_neq rfl rfl) rfl ?_
          refine ops_nil ?_
          refine W_cond_p rfl (fun h30 => ?_) (fun h30 => ?_)
          · refine W_seq ?_
            refine W_region ?_
            refine o_asc rfl ?_
            refine ops_nil ?_
            refine W_ret ?_
            refine ret1 (.bool true) rfl ?_ ?_; rfl
            exact ⟨rfl, M28.k⟩
          · refine W_skip ?_
            refine W_seq ?_
            refine W_region ?_
            have he4 : (doD (abs l') (o.as 4)).1.e = 0 := by omega
            obtain ⟨e5, hcase⟩ := trims he4
            have hz28 := M28.k.size
            have hl128 := hB128.lt
            refine op_run (r_loadA (opR (o.as 4)) rfl rfl rfl (by first | rfl | (rw [binV_len]; rfl) | (rw [dgR_len]; rfl) | (rw [refR_len]; rfl) | (rw [secR_len]; rfl) | (rw [List.length_map, tagF_len]; rfl) | (rw [opR_len]; rfl) | (rw [ansR_len]; rfl) | (rw [blkR_len]; rfl)) (hB128.all)) rfl ?_
            refine o_alloc rfl rfl rfl ?_; intro w33 b33 e33 hB33 hk33 hs33
            have hB33' : Blk w33 b33 (opR OpV.zero) 26 := hB33
            refine o_storeA (cs := opR (o.as 4)) rfl rfl (by first | rfl | exact binV_one _ | exact dgR_one _ | exact refR_one _ | exact secR_one _ | exact all_c8 _ | exact opR_one _ | exact ansR_one _ _ _ | exact ansS_one (by assumption) | exact blkR_one _) (by first | rfl | (rw [binV_len]; rfl) | (rw [dgR_len]; rfl) | (rw [refR_len]; rfl) | (rw [secR_len]; rfl) | (rw [List.length_map, tagF_len]; rfl) | (rw [opR_len]; rfl) | (rw [ansR_len]; rfl) | (rw [blkR_len]; rfl)) hB33' (by exact Nat.le_of_eq (by simp [opR_len])) rfl ?_; intro w34 hB34 hk34 hs34
            have hB34' := op_st hB34
            have M34 := (M28.keep hk33).st hB33' (by decide) (by decide) hk34 (by omega)
            have hB134 := hk34.blk' (hk33.blk' hB128 trivial) (show b1 ≠ b33 by omega)
            refine ops_nil ?_
            refine W_seq ?_
            refine W_region ?_
            refine op_run (r_fieldAddr rfl rfl rfl rfl rfl) rfl ?_
            refine o_store (v := (.int .i64 5)) rfl rfl rfl rfl hB34' (by show 0 < (opR (o.as 4)).length; rw [opR_len]; decide) rfl ?_; intro w35 hB35 hk35 hs35
            have hB35' : Blk w35 b33 (opR (o.as 5)) 26 := hB35
            have M35 := M34.st hB34' (by decide) (by decide) hk35 (by omega)
            have hB135 := hk35.blk' hB134 (show b1 ≠ b33 by omega)
            refine ops_nil ?_
            refine W_seq ?_
            refine W_region ?_
            refine o_mvt rfl ?_
            refine op_run (r_loadA (opR (o.as 5)) rfl rfl rfl (by first | rfl | (rw [binV_len]; rfl) | (rw [dgR_len]; rfl) | (rw [refR_len]; rfl) | (rw [secR_len]; rfl) | (rw [List.length_map, tagF_len]; rfl) | (rw [opR_len]; rfl) | (rw [ansR_len]; rfl) | (rw [blkR_len]; rfl)) (hB35'.all)) rfl ?_
            refine op_call rfl rfl rfl (md_Do5 w35 mb bm l4 (o.as 5) M35.m rfl) ?_; rintro v37 w37 ⟨rfl, l5, ha5, hS37⟩
            rw [ha4, e5] at ha5
            rw [ha4, e5]
            have M37 := M35.go hS37
            have hB137 := M35.blk hS37 hB135
            have hB337 := M35.blk hS37 hB35'
            have hz37 := M37.k.size
            have hl137 := hB137.lt
            have hl337 := hB337.lt
            refine o_alloc rfl rfl rfl ?_; intro w38 b38 e38 hB38 hk38 hs38
            have hB38' : Blk w38 b38 (ansR 0 false Bk.zero) 34 := hB38
            refine o_storeA (cs := ansR 0 false Bk.zero) rfl rfl (by first | rfl | exact binV_one _ | exact dgR_one _ | exact refR_one _ | exact secR_one _ | exact all_c8 _ | exact opR_one _ | exact ansR_one _ _ _ | exact ansS_one (by assumption) | exact blkR_one _) (by first | rfl | (rw [binV_len]; rfl) | (rw [dgR_len]; rfl) | (rw [refR_len]; rfl) | (rw [secR_len]; rfl) | (rw [List.length_map, tagF_len]; rfl) | (rw [opR_len]; rfl) | (rw [ansR_len]; rfl) | (rw [blkR_len]; rfl)) hB38' (by rw [ansR_len]; decide) rfl ?_; intro w39 hB39 hk39 hs39
            have hB39' := ans_st hB39
            have M39 := (M37.keep hk38).st hB38' (by decide) (by decide) hk39 (by omega)
            have hB139 := hk39.blk' (hk38.blk' hB137 trivial) (show b1 ≠ b38 by omega)
            have hB339 := hk39.blk' (hk38.blk' hB337 trivial) (show b33 ≠ b38 by omega)
            refine ops_nil ?_
            refine W_seq ?_
            refine W_cut [55] [43, 44, 45, 46, 47, 48, 49, 50, 51, 52, 53, 54, 55] (fun vs w40 => vs = [.bool false] ∧ w40 = w39) ?_ ?_
            · refine W_region ?_
              refine op_run (r_fieldAddr rfl rfl rfl rfl rfl) rfl ?_
              refine op_run (r_load rfl rfl rfl (hB39'.cell rfl)) rfl ?_
              refine op_run (r_neq rfl rfl) rfl ?_
              refine o_mvt rfl ?_
              refine g_split rfl rfl rfl (fun g42 => ?_) (fun g => absurd g ((by decide)))
              refine op_run (r_fieldAddr rfl rfl rfl rfl rfl) (g_yes rfl rfl rfl g42) ?_
              refine op_run (r_load rfl rfl rfl (hB39'.cell rfl)) (g_yes rfl rfl rfl g42) ?_
              refine o_pkFt rfl g42 rfl ?_
              refine o_mvt rfl ?_
              refine g_split rfl rfl rfl (fun g44 => ?_) (fun g => absurd g ((by decide)))
              refine op_run (r_fieldAddr rfl rfl rfl rfl rfl) (g_yes rfl rfl rfl g44) ?_
              refine op_run (r_loadA (blkR Bk.zero) rfl rfl rfl (by first | rfl | (rw [binV_len]; rfl) | (rw [dgR_len]; rfl) | (rw [refR_len]; rfl) | (rw [secR_len]; rfl) | (rw [List.length_map, tagF_len]; rfl) | (rw [opR_len]; rfl) | (rw [ansR_len]; rfl) | (rw [blkR_len]; rfl)) ((fun j u hj => by rw [Addr.add_lit]; exact hB39'.cell (ansR_blk hj)))) (g_yes rfl rfl rfl g44) ?_
              refine op_run (r_buildA (blkR Bk.zero) (_) ([]) rfl rfl rfl rfl rfl (rfl)) (g_yes rfl rfl rfl g44) ?_
              refine op_run (r_neqC (p := True) rfl rfl rfl rfl (by kernel_rfl) ((okC_bk _)) ((okC_bk _)) rfl ((iff_of_true rfl trivial))) (g_yes rfl rfl rfl g44) ?_
              refine o_pkFt rfl g44 rfl ?_
              refine ops_nil ?_
              exact ⟨by (repeat (first | with_reducible exact offM_refl _ _ | refine offM_updc rfl ?_ | refine offM_upd rfl ?_ | refine offM_updo rfl ?_ | refine offM_updo_none ?_ | refine offM_head rfl rfl ?_)), rfl, rfl⟩
            · rintro J49 vs w49 ⟨rfl, rfl⟩ -
              refine W_cond rfl (fun h50 => ?_) (fun h50 => ?_)
              · refine W_seq ?_
                refine W_region ?_
                refine o_asc rfl ?_
                refine ops_nil ?_
                refine W_ret ?_
                refine ret1 (.bool false) rfl ?_ ?_; rfl
                cases h50
              · refine W_skip ?_
                refine W_seq ?_
                refine W_region ?_
                refine op_run (r_fieldAddr rfl rfl rfl rfl rfl) rfl ?_
                refine o_store (v := (.int .i64 3)) rfl rfl rfl rfl hB139 (by show 0 < (opR (o.as 4)).length; rw [opR_len]; decide) rfl ?_; intro w52 hB52 hk52 hs52
                have hB154 : Blk w52 b1 (opR (o.as 3)) 26 := hB52
                have M52 := M39.st hB139 (by decide) (by decide) hk52 (by omega)
                have hB354 := hk52.blk' hB339 (show b33 ≠ b1 by omega)
                refine ops_nil ?_
                refine W_seq ?_
                refine W_region ?_
                refine o_mvt rfl ?_
                refine op_run (r_loadA (opR (o.as 3)) rfl rfl rfl (by first | rfl | (rw [binV_len]; rfl) | (rw [dgR_len]; rfl) | (rw [refR_len]; rfl) | (rw [secR_len]; rfl) | (rw [List.length_map, tagF_len]; rfl) | (rw [opR_len]; rfl) | (rw [ansR_len]; rfl) | (rw [blkR_len]; rfl)) (hB154.all)) rfl ?_
                refine op_call rfl rfl rfl (md_Do3 w52 mb bm l5 (o.as 3) M52.m rfl) ?_; rintro v54 w54 ⟨rfl, l6, ha6, hS54⟩
                rw [← ha5, ← ha6] at hcase
                generalize hA6 : (doD (abs l5) (o.as 3)).1 = A6 at hcase
                have M54 := M52.go hS54
                have hB156 := M52.blk hS54 hB154
                have hB356 := M52.blk hS54 hB354
                have hz54 := M54.k.size
                have hl156 := hB156.lt
                have hl356 := hB356.lt
                refine o_alloc rfl rfl rfl ?_; intro w55 b55 e55 hB55 hk55 hs55
                have hB55' : Blk w55 b55 (ansR 0 false Bk.zero) 34 := hB55
                refine o_storeA (cs := ansR A6.e A6.t A6.b) rfl rfl (by first | rfl | exact binV_one _ | exact dgR_one _ | exact refR_one _ | exact secR_one _ | exact all_c8 _ | exact opR_one _ | exact ansR_one _ _ _ | exact ansS_one (by assumption) | exact blkR_one _) (by first | rfl | (rw [binV_len]; rfl) | (rw [dgR_len]; rfl) | (rw [refR_len]; rfl) | (rw [secR_len]; rfl) | (rw [List.length_map, tagF_len]; rfl) | (rw [opR_len]; rfl) | (rw [ansR_len]; rfl) | (rw [blkR_len]; rfl)) hB55' (by rw [ansR_len]; decide) rfl ?_; intro w56 hB56 hk56 hs56
                have hB56' := ans_st hB56
                have M56 := (M54.keep hk55).st hB55' (by decide) (by decide) hk56 (by omega)
                have hB158 := hk56.blk' (hk55.blk' hB156 trivial) (show b1 ≠ b55 by omega)
                have hB358 := hk56.blk' (hk55.blk' hB356 trivial) (show b33 ≠ b55 by omega)
                refine ops_nil ?_
                refine W_seq ?_
                refine W_region ?_
                refine o_mvt rfl ?_
                refine op_run (r_loadA (opR (o.as 5)) rfl rfl rfl (by first | rfl | (rw [binV_len]; rfl) | (rw [dgR_len]; rfl) | (rw [refR_len]; rfl) | (rw [secR_len]; rfl) | (rw [List.length_map, tagF_len]; rfl) | (rw [opR_len]; rfl) | (rw [ansR_len]; rfl) | (rw [blkR_len]; rfl)) (hB358.all)) rfl ?_
                refine op_call rfl rfl rfl (md_Do5 w56 mb bm l6 (o.as 5) M56.m rfl) ?_; rintro v58 w58 ⟨rfl, l7, ha7, hS58⟩
                generalize hA7 : (doD (abs l6) (o.as 5)).1 = A7 at hcase
                have M58 := M56.go hS58
                have hB160 := M56.blk hS58 hB158
                have hB560 := M56.blk hS58 hB56'
                have hz58 := M58.k.size
                have hl160 := hB160.lt
                have hl560 := hB560.lt
                refine o_alloc rfl rfl rfl ?_; intro w59 b59 e59 hB59 hk59 hs59
                have hB59' : Blk w59 b59 (ansR 0 false Bk.zero) 34 := hB59
                refine o_storeA (cs := ansR A7.e A7.t A7.b) rfl rfl (by first | rfl | exact binV_one _ | exact dgR_one _ | exact refR_one _ | exact secR_one _ | exact all_c8 _ | exact opR_one _ | exact ansR_one _ _ _ | exact ansS_one (by assumption) | exact blkR_one _) (by first | rfl | (rw [binV_len]; rfl) | (rw [dgR_len]; rfl) | (rw [refR_len]; rfl) | (rw [secR_len]; rfl) | (rw [List.length_map, tagF_len]; rfl) | (rw [opR_len]; rfl) | (rw [ansR_len]; rfl) | (rw [blkR_len]; rfl)) hB59' (by rw [ansR_len]; decide) rfl ?_; intro w60 hB60 hk60 hs60
                have hB60' := ans_st hB60
                have M60 := (M58.keep hk59).st hB59' (by decide) (by decide) hk60 (by omega)
                have hB162 := hk60.blk' (hk59.blk' hB160 trivial) (show b1 ≠ b59 by omega)
                have hB562 := hk60.blk' (hk59.blk' hB560 trivial) (show b55 ≠ b59 by omega)
                refine ops_nil ?_
                refine W_seq ?_
                refine W_region ?_
                refine op_run (r_fieldAddr rfl rfl rfl rfl rfl) rfl ?_
                refine op_run (r_load rfl rfl rfl (hB562.cell rfl)) rfl ?_
                refine op_run (r_eql rfl rfl) rfl ?_
                refine o_mvt rfl ?_
                refine g_split rfl rfl rfl (fun g62 => ?_) (fun g62 => ?_)
                · refine op_run (r_fieldAddr rfl rfl rfl rfl rfl) (g_yes rfl rfl rfl g62) ?_
                  have hct : A7.t = false := by
                    rcases hcase with h | h
                    · exact h.2
                    · exfalso; rw [h.1] at g62; revert g62; decide
                  refine op_run (r_load rfl rfl rfl (hB60'.cell rfl)) (g_yes rfl rfl rfl g62) ?_
                  refine op_run (r_not rfl) (g_yes rfl rfl rfl g62) ?_
                  refine o_pkTt rfl g62 rfl ?_
                  refine o_mvt rfl ?_
                  refine g_split rfl rfl rfl (fun g => absurd g ((by rw [hct]; decide))) (fun g64 => ?_)
                  refine op_skip (g_no rfl rfl rfl (by rw [g64] <;> rfl)) ?_
                  refine op_skip (g_no rfl rfl rfl (by rw [g64] <;> rfl)) ?_
                  refine op_skip (g_no rfl rfl rfl (by rw [g64] <;> rfl)) ?_
                  refine op_skip (g_no rfl rfl rfl (by rw [g64] <;> rfl)) ?_
                  refine op_skip (g_und rfl rfl rfl) ?_
                  refine op_skip (g_und rfl rfl rfl) ?_
                  refine op_skip (g_no rfl rfl rfl (by rw [g64] <;> rfl)) ?_
                  refine op_skip (g_no rfl rfl rfl (by rw [g64] <;> rfl)) ?_
                  refine op_skip (g_und rfl rfl rfl) ?_
                  refine op_skip (g_und rfl rfl rfl) ?_
                  refine op_skip (g_und rfl rfl rfl) ?_
                  refine op_skip (g_und rfl rfl rfl) ?_
                  refine op_skip (g_und rfl rfl rfl) ?_
                  refine op_skip (g_no rfl rfl rfl (by rw [g64] <;> rfl)) ?_
                  refine o_pkTc rfl (by rw [g64] <;> rfl) rfl ?_
                  refine o_ast rfl ?_
                  refine ops_nil ?_
                  refine W_ret ?_
                  refine ret1 (.bool true) rfl ?_ ?_; rfl
                  exact ⟨rfl, M60.k⟩
                · refine op_skip (g_no rfl rfl rfl g62) ?_
                  refine op_skip (g_no rfl rfl rfl g62) ?_
                  refine op_skip (g_no rfl rfl rfl g62) ?_
                  refine o_pkFc rfl g62 rfl ?_
                  refine o_mvt rfl ?_
                  refine op_run (r_fieldAddr rfl rfl rfl rfl rfl) (g_yes rfl rfl rfl rfl) ?_
                  have hr : A6.e = 0 ∧ A7.t = true ∧ A7.b = o.block := by
                    rcases hcase with h | h
                    · exfalso; rw [h.1] at g62; revert g62; decide
                    · exact h
                  refine op_run (r_load rfl rfl rfl (hB562.cell rfl)) (g_yes rfl rfl rfl rfl) ?_
                  refine op_run (r_eql rfl rfl) (g_yes rfl rfl rfl rfl) ?_
                  refine o_mvt (g_yes rfl rfl rfl rfl) ?_
                  refine g_split rfl rfl rfl (fun g67 => ?_) (fun g => absurd g ((by rw [hr.1]; decide)))
                  refine op_run (r_fieldAddr rfl rfl rfl rfl rfl) (g_yes rfl rfl rfl g67) ?_
                  refine op_run (r_load rfl rfl rfl (hB60'.cell rfl)) (g_yes rfl rfl rfl g67) ?_
                  refine o_pkTt rfl g67 (g_yes rfl rfl rfl rfl) ?_
                  refine o_mvt (g_yes rfl rfl rfl rfl) ?_
                  refine g_split rfl rfl rfl (fun g69 => ?_) (fun g => absurd g ((by rw [hr.2.1]; decide)))
                  refine op_run (r_fieldAddr rfl rfl rfl rfl rfl) (g_yes rfl rfl rfl g69) ?_
                  refine op_run (r_loadA (blkR A7.b) rfl rfl rfl (by first | rfl | (rw [binV_len]; rfl) | (rw [dgR_len]; rfl) | (rw [refR_len]; rfl) | (rw [secR_len]; rfl) | (rw [List.length_map, tagF_len]; rfl) | (rw [opR_len]; rfl) | (rw [ansR_len]; rfl) | (rw [blkR_len]; rfl)) ((fun j u hj => by rw [Addr.add_lit]; exact hB60'.cell (ansR_blk hj)))) (g_yes rfl rfl rfl g69) ?_
                  refine op_run (r_fieldAddr rfl rfl rfl rfl rfl) (g_yes rfl rfl rfl g69) ?_
                  refine op_run (r_loadA (blkR o.block) rfl rfl rfl (by first | rfl | (rw [binV_len]; rfl) | (rw [dgR_len]; rfl) | (rw [refR_len]; rfl) | (rw [secR_len]; rfl) | (rw [List.length_map, tagF_len]; rfl) | (rw [opR_len]; rfl) | (rw [ansR_len]; rfl) | (rw [blkR_len]; rfl)) ((fun j u hj => by rw [Addr.add_lit]; exact hB162.cell (opR_blk (o.as 3) hj)))) (g_yes rfl rfl rfl g69) ?_
                  refine op_run (r_eqlC (p := A7.b = o.block) rfl rfl rfl rfl (by kernel_rfl) ((okC_bk _)) ((okC_bk _)) rfl (blkR_inj)) (g_yes rfl rfl rfl g69) ?_
                  refine o_pkTt rfl g69 (g_yes rfl rfl rfl rfl) ?_
                  refine o_pkFt rfl rfl rfl ?_
                  refine o_ast rfl ?_
                  refine ops_nil ?_
                  refine W_ret ?_
                  refine ret1 (.bool (decide (A7.b = o.block))) rfl ?_ ?_; rfl
                  exact ⟨by rw [hr.2.2]; simp, M60.k⟩
end Go.Proofs.Ytkckphbdjkjfgaa.B
