/-
  CommitCodes: the walk.
-/
import Derived.Test.YtlpkdblhaahkaaaCom8
namespace Go.Proofs.Ytlpkdblhaahkaaa.B
open Go
set_option linter.unusedVariables false
set_option maxHeartbeats 2000000
set_option maxRecDepth 100000
attribute [local irreducible] W OpsW OpsQ retP
attribute [local irreducible] numR
theorem walk_CommitCodes (w : World) (c : Cm) (vb ve : Value) (vks : List Value) (hc : CmIn w c vb ve vks) (h64 : c.epoch < 2 ^ 64) :
    Ret Try.prog 5 [.agg (cmV c vb ve).toArray].toArray w fun u w' => u = .bool true ∧ Keep All w w' := by
  obtain ⟨ab, cb, rfl, hcb, hcbm⟩ := hc.1.form
  obtain ⟨ae, ce, rfl, hce, hcem⟩ := hc.2.2.1.form
  refine enter (fn := Try.f5) (n := 68) Try.func5 rfl rfl (by simp) ?_
  refine W_seq ?_
  refine W_region ?_
  refine o_box rfl rfl rfl ?_; intro w1 b1 e1 hB1 hk1 hs1
  have hB1 : Blk w1 b1 (cmV c (.slice ab c.bins.length cb) (.slice ae c.events.length ce)) 32 := hB1
  refine o_asc rfl ?_
  refine ops_nil ?_
  refine W_seq ?_
  refine W_seq ?_
  refine W_region ?_
  refine op_call rfl rfl rfl (speaks13 w1) ?_; rintro v2 w2 ⟨rfl, hk2⟩
  have hk02 := hk1.trans hk2
  have hB2 := hk2.blk' hB1 trivial
  refine op_run (r_not rfl) rfl ?_
  refine ops_nil ?_
  refine W_no rfl (rfl) ?_
  refine W_skip ?_
  refine W_seq ?_
  refine W_seq ?_
  refine W_region ?_
  refine op_run (r_loadA (cmV c (.slice ab c.bins.length cb) (.slice ae c.events.length ce)) rfl rfl rfl (by first | rfl | (rw [binV_len]; rfl) | (rw [dgR_len]; rfl) | (rw [refR_len]; rfl) | (rw [secR_len]; rfl) | (rw [List.length_map, tagF_len]; rfl) | (rw [cmV_len]; rfl)) (hB2.all)) rfl ?_
  refine op_call rfl rfl rfl (great13 w2 c _ _ vks (hc.k hk02)) ?_; rintro v6 w6 ⟨rfl, hk6⟩
  refine ops_nil ?_
  refine W_cond rfl (fun h7 => ?_) (fun h7 => ?_)
  · refine W_seq ?_
    refine W_region ?_
    refine o_asc rfl ?_
    refine ops_nil ?_
    refine W_ret ?_
    refine ret1 (.bool true) rfl ?_ ?_; rfl
    exact ⟨rfl, hk02.trans hk6⟩
  · refine W_skip ?_
    refine W_seq ?_
    refine W_region ?_
    have hsm := greatC_small (of_decide_eq_false h7) h64
    have hk06 := hk02.trans hk6
    refine op_run (r_loadA (cmV c (.slice ab c.bins.length cb) (.slice ae c.events.length ce)) rfl rfl rfl (by first | rfl | (rw [binV_len]; rfl) | (rw [dgR_len]; rfl) | (rw [refR_len]; rfl) | (rw [secR_len]; rfl) | (rw [List.length_map, tagF_len]; rfl) | (rw [cmV_len]; rfl)) ((hk6.blk' hB2 trivial).all)) rfl ?_
    refine op_call rfl rfl rfl (cm_Encode w6 c _ _ vks (hc.k hk06) hsm) ?_; rintro v10 w10 ⟨v, rfl, hby10, hin10, hk10⟩
    have hk010 := hk06.trans hk10
    obtain ⟨B, hB⟩ : ∃ B, B = if c.right ∧ (encC c).length ≤ 65536 then encC c else [] := ⟨_, rfl⟩
    rw [← hB] at hby10
    obtain ⟨a10, c10, rfl, _, _⟩ := hby10.form
    have hB10 := (hk6.trans hk10).blk' hB2 trivial
    refine o_mvt rfl ?_
    refine op_run (r_extract rfl rfl) rfl ?_
    refine op_run (r_extract rfl rfl) rfl ?_
    refine o_ast rfl ?_
    refine o_ast rfl ?_
    refine ops_nil ?_
    refine W_seq ?_
    refine W_seq ?_
    refine W_region ?_
    refine op_run (r_loadA (cmV c (.slice ab c.bins.length cb) (.slice ae c.events.length ce)) rfl rfl rfl (by first | rfl | (rw [binV_len]; rfl) | (rw [dgR_len]; rfl) | (rw [refR_len]; rfl) | (rw [secR_len]; rfl) | (rw [List.length_map, tagF_len]; rfl) | (rw [cmV_len]; rfl)) (hB10.all)) rfl ?_
    refine op_call rfl rfl rfl (rf13_Right w10 c _ _ vks (hc.k hk010)) ?_; rintro v12 w12 ⟨rfl, hk12⟩
    refine op_run (r_not rfl) rfl ?_
    refine ops_nil ?_
    refine W_cond rfl (fun h13 => ?_) (fun h13 => ?_)
    · refine W_seq ?_
      refine W_region ?_
      refine o_mvt rfl ?_
      refine op_run (r_eql rfl rfl) rfl ?_
      refine o_mvt rfl ?_
      have hn : ¬ c.right := by simpa using h13
      refine g_split rfl rfl rfl (fun g14 => ?_) (fun g => absurd g (by rw [if_neg hn]; simp))
      refine o_mvt (g_yes rfl rfl rfl g14) ?_
      refine op_run (r_len rfl rfl rfl) (g_yes rfl rfl rfl g14) ?_
      refine op_run (r_eql rfl rfl) (g_yes rfl rfl rfl g14) ?_
      refine o_pkTt rfl g14 rfl ?_
      refine o_ast rfl ?_
      refine ops_nil ?_
      refine W_ret ?_
      refine ret1 (.bool (decide ((B.length : Int) = 0))) rfl ?_ ?_; rfl
      exact ⟨congrArg Value.bool (decide_eq_true (by rw [hB, if_neg (fun h => hn h.1)]; rfl)), hk010.trans hk12⟩
    · refine W_skip ?_
      refine W_seq ?_
      refine W_region ?_
      have hr : c.right := by simpa using h13
      have hk012 := hk010.trans hk12
      refine op_run (r_loadA (cmV c (.slice ab c.bins.length cb) (.slice ae c.events.length ce)) rfl rfl rfl (by first | rfl | (rw [binV_len]; rfl) | (rw [dgR_len]; rfl) | (rw [refR_len]; rfl) | (rw [secR_len]; rfl) | (rw [List.length_map, tagF_len]; rfl) | (rw [cmV_len]; rfl)) ((hk12.blk' hB10 trivial).all)) rfl ?_
      refine op_call rfl rfl rfl (rf13_Bytes w12 c _ _ vks (hc.k hk012) hsm) ?_; rintro v17 w17 ⟨hO17, hk17, hin17⟩
      obtain ⟨a17, c17, rfl, _, _⟩ := (OwnB.by_ hO17).form
      have hk017 := hk012.trans hk17
      refine o_ast rfl ?_
      refine ops_nil ?_
      refine W_seq ?_
      refine W_seq ?_
      refine W_region ?_
      refine o_mvt rfl ?_
      refine op_run (r_len rfl rfl rfl) rfl ?_
      refine op_run (r_gtr rfl rfl) rfl ?_
      refine ops_nil ?_
      refine W_cond_p rfl (fun h18 => ?_) (fun h18 => ?_)
      · refine W_seq ?_
        refine W_region ?_
        refine o_mvt rfl ?_
        refine op_run (r_eql rfl rfl) rfl ?_
        refine o_mvt rfl ?_
        refine g_split rfl rfl rfl (fun g19 => ?_) (fun g => absurd g (by rw [if_pos hr, if_neg (by omega)]; simp))
        refine o_mvt (g_yes rfl rfl rfl g19) ?_
        refine op_run (r_len rfl rfl rfl) (g_yes rfl rfl rfl g19) ?_
        refine op_run (r_eql rfl rfl) (g_yes rfl rfl rfl g19) ?_
        refine o_pkTt rfl g19 rfl ?_
        refine o_ast rfl ?_
        refine ops_nil ?_
        refine W_ret ?_
        refine ret1 (.bool (decide ((B.length : Int) = 0))) rfl ?_ ?_; rfl
        exact ⟨congrArg Value.bool (decide_eq_true (by rw [hB, if_neg (fun h => by omega)]; rfl)), hk017⟩
      · refine W_skip ?_
        refine W_seq ?_
        refine W_region ?_
        refine o_mvt rfl ?_
        have hle : (encC c).length ≤ 65536 := by omega
        have hBe : B = encC c := by rw [hB, if_pos ⟨hr, hle⟩]
        have hdc : decC B = some c := by rw [hBe]; exact decC_enc hr h64 hle
        refine op_call rfl rfl rfl (cm_Decode w17 _ B (hby10.k (hk12.trans hk17)) (by rw [hBe]; omega)) ?_; rintro v21 w21 ⟨vb', ve', vks', rfl, hC21, hk21⟩
        obtain ⟨ab', cb', rfl, _, _⟩ := hC21.1.form
        obtain ⟨ae', ce', rfl, _, _⟩ := hC21.2.2.1.form
        refine o_mvt rfl ?_
        refine op_run (r_extract rfl rfl) rfl ?_
        refine op_run (r_extract rfl rfl) rfl ?_
        refine o_alloc rfl rfl rfl ?_; intro w22 b22 e22 hB22 hk22 hs22
        refine o_storeA (cs := cmV ((decC B).getD Cm.zero) (.slice ab' ((decC B).getD Cm.zero).bins.length cb') (.slice ae' ((decC B).getD Cm.zero).events.length ce')) rfl rfl (by first | rfl | exact binV_one _ | exact dgR_one _ | exact refR_one _ | exact secR_one _ | exact all_c8 _ | exact cmV_one _ rfl rfl) (by first | rfl | (rw [binV_len]; rfl) | (rw [dgR_len]; rfl) | (rw [refR_len]; rfl) | (rw [secR_len]; rfl) | (rw [List.length_map, tagF_len]; rfl) | (rw [cmV_len]; rfl)) hB22 (by simp [cmV_len]) rfl ?_; intro w23 hB23 hk23 hs23
        rw [splice_all (by simp [cmV_len])] at hB23
        have hk1723 : Keep All w17 w23 := hk21.trans (hk22.new hk23 (by omega))
        have hk1023 := (hk12.trans hk17).trans hk1723
        refine o_ast rfl ?_
        refine ops_nil ?_
        refine W_seq ?_
        refine W_region ?_
        refine o_mvt rfl ?_
        refine op_run (r_eql rfl rfl) rfl ?_
        refine o_mvt rfl ?_
        refine g_split rfl rfl rfl (fun g24 => ?_) (fun g => absurd g (by rw [if_pos hr, if_pos hle]; simp))
        refine o_mvt (g_yes rfl rfl rfl g24) ?_
        refine o_mvt (g_yes rfl rfl rfl g24) ?_
        refine op_call rfl rfl (g_yes rfl rfl rfl g24) (ref01_Same w23 _ _ B (encC c) (hby10.k hk1023) ((OwnB.by_ hO17).keep hk1723 (fun _ _ => trivial))) ?_; rintro v25 w25 ⟨rfl, hk25⟩
        refine o_pkTt rfl g24 rfl ?_
        refine o_mvt rfl ?_
        refine g_split rfl rfl rfl (fun g26 => ?_) (fun g => absurd g (by rw [hBe]; simp))
        refine o_mvt (g_yes rfl rfl rfl g26) ?_
        refine op_run (r_eql rfl rfl) (g_yes rfl rfl rfl g26) ?_
        refine o_pkTt rfl g26 rfl ?_
        refine o_mvt rfl ?_
        refine g_split rfl rfl rfl (fun g27 => ?_) (fun g => absurd g (by rw [hdc]; simp))
        refine op_run (r_loadA (cmV ((decC B).getD Cm.zero) (.slice ab' ((decC B).getD Cm.zero).bins.length cb') (.slice ae' ((decC B).getD Cm.zero).events.length ce')) rfl rfl rfl (by first | rfl | (rw [binV_len]; rfl) | (rw [dgR_len]; rfl) | (rw [refR_len]; rfl) | (rw [secR_len]; rfl) | (rw [List.length_map, tagF_len]; rfl) | (rw [cmV_len]; rfl)) ((hk25.blk' hB23 trivial).all)) (g_yes rfl rfl rfl g27) ?_
        refine op_run (r_loadA (cmV c (.slice ab c.bins.length cb) (.slice ae c.events.length ce)) rfl rfl rfl (by first | rfl | (rw [binV_len]; rfl) | (rw [dgR_len]; rfl) | (rw [refR_len]; rfl) | (rw [secR_len]; rfl) | (rw [List.length_map, tagF_len]; rfl) | (rw [cmV_len]; rfl)) (((hk1023.trans hk25).blk' hB10 trivial).all)) (g_yes rfl rfl rfl g27) ?_
        refine op_call rfl rfl (g_yes rfl rfl rfl g27) (rf13_Same w25 _ c _ _ _ _ vks' vks (hC21.k ((hk22.new hk23 (by omega)).trans hk25)) (hc.k ((hk010.trans hk1023).trans hk25))) ?_; rintro v30 w30 ⟨rfl, hk30⟩
        refine o_pkTt rfl g27 rfl ?_
        refine o_mvt rfl ?_
        refine g_split rfl rfl rfl (fun g31 => ?_) (fun g => absurd g (by rw [hdc]; simp))
        refine o_mvt (g_yes rfl rfl rfl g31) ?_
        refine op_call rfl rfl (g_yes rfl rfl rfl g31) (cm_Digest w30 _ B (hby10.k ((hk1023.trans hk25).trans hk30)) (by rw [hBe]; omega)) ?_; rintro v32 w32 ⟨rfl, hk32⟩
        refine o_mvt (g_yes rfl rfl rfl g31) ?_
        refine op_call rfl rfl (g_yes rfl rfl rfl g31) (rf07_Of w32 0 _ B (hby10.k (((hk1023.trans hk25).trans hk30).trans hk32)) (by rw [hBe]; omega)) ?_; rintro v33 w33 ⟨rfl, hk33⟩
        refine op_run (r_fieldA (dgR (tagD 3 [B])) rfl rfl rfl rfl rfl rfl ((by show ((refR (ofR 0 B)).drop 0).take 32 = _; unfold refR ofR; rw [List.drop_zero]; exact List.take_left' (dgR_len _)))) (g_yes rfl rfl rfl g31) ?_
        refine op_run (r_eqlC (p := True) rfl rfl rfl rfl (by kernel_rfl) (okC_dgR _) (okC_dgR _) rfl (⟨fun _ => trivial, fun _ => rfl⟩)) (g_yes rfl rfl rfl g31) ?_
        refine o_pkTt rfl g31 rfl ?_
        refine o_ast rfl ?_
        refine ops_nil ?_
        refine W_ret ?_
        refine ret1 (.bool (decide True)) rfl ?_ ?_; rfl
        exact ⟨congrArg Value.bool (by simp), (((hk010.trans hk1023).trans hk25).trans hk30).trans (hk32.trans hk33)⟩
end Go.Proofs.Ytlpkdblhaahkaaa.B
