/-
  model: Do: delete, snapshot, clone.
-/
import Derived.Test.YtkckphbdjkjfgaaMod6
namespace Go.Proofs.Ytkckphbdjkjfgaa.B
open Go
set_option linter.unusedVariables false
set_option maxHeartbeats 2000000
set_option maxRecDepth 100000
attribute [local irreducible] W OpsW OpsQ retP
theorem del_abs (l : ModL) (nm : List UInt8) : abs (delP l nm) = delP (abs l) nm := by
  unfold abs delP mapP
  rw [List.filter_map]; rfl
theorem md_Do2 (w : World) (mb bm : Nat) (l : ModL) (o : OpV) (h : ModW w mb bm l) (hk : o.kind = 2) :
    Ret Try.prog 11 [.pointer (some ⟨mb, 0, none⟩), .agg (opR o).toArray].toArray w fun r w' => r = (doD (abs l) o).1.v ∧ ∃ l', abs l' = (doD (abs l) o).2 ∧ ModS w mb bm l w' l' := by
  obtain ⟨pv, th, hlk, hth⟩ := look_vol l o.name
  refine enter (fn := Try.f11) (n := 67) Try.func11 rfl rfl (by simp) ?_
  refine W_seq ?_
  refine W_region ?_
  refine o_box rfl rfl rfl ?_; intro w1 b1 e1 hB1 hk1 hs1
  have hB1 : Blk w1 b1 (opR o) 26 := hB1
  refine o_alloc rfl rfl rfl ?_; intro w2 b2 e2 hB2 hk2 hs2
  have hB2 : Blk w2 b2 (ansR 0 false Bk.zero) 34 := hB2
  have hk02 := hk1.trans hk2
  have hB12 := hk2.blk' hB1 trivial
  have h2 := h.k hk02
  refine ops_nil ?_
  refine W_seq ?_
  refine W_seq ?_
  refine W_region ?_
  refine op_run (r_fieldAddr rfl rfl rfl rfl rfl) rfl ?_
  refine op_run (r_load rfl rfl rfl ((hk2.blk' hB1 trivial).cell rfl)) rfl ?_
  refine ops_nil ?_
  refine W_block ?_
  refine W_seq ?_
  refine W_region ?_
  refine op_run (r_eql rfl rfl) rfl ?_
  refine o_ast rfl ?_
  refine ops_nil ?_
  refine W_no rfl (decide_eq_false (by omega)) ?_
  refine W_seq ?_
  refine W_region ?_
  refine op_run (r_eql rfl rfl) rfl ?_
  refine o_ast rfl ?_
  refine ops_nil ?_
  refine W_yes rfl (decide_eq_true hk) ?_
  refine W_seq ?_
  refine W_seq ?_
  refine W_quiet (Keep All w2) (by kernel_rfl) (by kernel_rfl) (Keep.drawn _) ?_
  refine q_mvt rfl ?_
  refine q_run (fun _ _ => (r_nilCheck rfl)) rfl ?_
  refine q_run (fun _ _ => (r_fieldAddr rfl rfl rfl rfl rfl)) rfl ?_
  refine q_run (fun _ hk => r_load rfl rfl rfl (hk.cell (h2.m.cell rfl) trivial)) rfl ?_
  refine q_run (fun _ _ => (r_fieldAddr rfl rfl rfl rfl rfl)) rfl ?_
  refine q_run (fun _ hk => r_load rfl rfl rfl (hk.cell (hB12.cell rfl) trivial)) rfl ?_
  refine q_run (fun _ hk => (r_lookupGok (a := o.name) (keyOk_strA rfl) rfl rfl rfl ti_ptrV ((h2.vs.keep hk trivial))).val (hlk)) rfl ?_
  refine q_mvt rfl ?_
  refine q_run (fun _ _ => (r_extract rfl rfl)) rfl ?_
  refine q_run (fun _ _ => (r_extract rfl rfl)) rfl ?_
  refine q_ast rfl ?_
  refine q_ast rfl ?_
  refine q_nil ?_; intro w19 hk19
  have hB2A := hk19.blk' hB2 trivial
  have hkA := hk02.trans hk19
  refine W_seq ?_
  refine W_region ?_
  refine o_mvt rfl ?_
  refine op_run (r_not rfl) rfl ?_
  refine ops_nil ?_
  refine W_cond rfl (fun h20 => ?_) (fun h20 => ?_)
  · refine W_seq ?_
    refine W_region ?_
    have hno : lookP l o.name = none := by
      rcases hth with ⟨_, hv⟩ | ⟨rfl, _⟩
      · exact hv
      · cases h20
    refine op_run (r_build (ansR 5 false Bk.zero) (_) ([(0, .int .i64 5)]) rfl rfl rfl rfl rfl (rfl)) rfl ?_
    refine o_storeA (cs := ansR 5 false Bk.zero) rfl rfl (by first | rfl | exact binV_one _ | exact dgR_one _ | exact refR_one _ | exact secR_one _ | exact all_c8 _ | exact ansR_one _ _ _) (by first | rfl | (rw [binV_len]; rfl) | (rw [dgR_len]; rfl) | (rw [refR_len]; rfl) | (rw [secR_len]; rfl) | (rw [List.length_map, tagF_len]; rfl) | (rw [opR_len]; rfl) | (rw [ansR_len]; rfl) | (rw [blkR_len]; rfl)) hB2A (by rw [ansR_len]; decide) rfl ?_; intro w22 hB22 hk22 hs22
    refine ops_nil ?_
    refine W_ret ?_
    refine retA (ansR 5 false Bk.zero) rfl rfl rfl rfl (by first | rfl | (rw [binV_len]; rfl) | (rw [dgR_len]; rfl) | (rw [refR_len]; rfl) | (rw [secR_len]; rfl) | (rw [List.length_map, tagF_len]; rfl) | (rw [opR_len]; rfl) | (rw [ansR_len]; rfl) | (rw [blkR_len]; rfl)) (ans_st hB22).all ?_
    have hno' : lookP (abs l) o.name = none := by rw [look_abs, hno]; rfl
    unfold doD
    rw [if_neg (by omega), if_pos (by omega), hno', if_neg (by simp)]
    exact ⟨rfl, l, rfl, ModS.same h (hkA.new hk22 (by omega))⟩
  · refine W_skip ?_
    refine W_seq ?_
    obtain ⟨v, hv⟩ : ∃ v, lookP l o.name = some v := by
      rcases hth with ⟨rfl, _⟩ | ⟨_, v, hv, _⟩
      · cases h20
      · exact ⟨v, hv⟩
    have hA := h.k hkA
    have hB1A := hk19.blk' hB12 trivial
    refine W_held (fun w' => Keep (· ≠ bm) w19 w') (by kernel_rfl) ((Keep.drawn w19).all) (fun hS => ?_)
    refine any_mvt 0 rfl (by kernel_rfl) (by kernel_rfl) (by kernel_rfl) rfl hS ?_
    refine any_run 1 (fun w' hS' => (r_nilCheck rfl)) rfl (by kernel_rfl) (by kernel_rfl) (by kernel_rfl) rfl hS ?_
    refine any_run 2 (fun w' hS' => (r_fieldAddr rfl rfl rfl rfl rfl)) rfl (by kernel_rfl) (by kernel_rfl) (by kernel_rfl) rfl hS ?_
    refine any_run 3 (fun w' hS' => (r_load rfl rfl rfl (((hS'.blk' hA.m (hA.m.ne_map hA.vs)).cell rfl)))) rfl (by kernel_rfl) (by kernel_rfl) (by kernel_rfl) rfl hS ?_
    refine any_run 4 (fun w' hS' => (r_fieldAddr rfl rfl rfl rfl rfl)) rfl (by kernel_rfl) (by kernel_rfl) (by kernel_rfl) rfl hS ?_
    refine any_run 5 (fun w' hS' => (r_load rfl rfl rfl (((hS'.blk' hB1A (hB1A.ne_map hA.vs)).cell rfl)))) rfl (by kernel_rfl) (by kernel_rfl) (by kernel_rfl) rfl hS ?_
    refine any_one 6 (by kernel_rfl) (one_of rfl ?_)
    refine o_mapDelG (a := o.name) (keyOk_strA rfl) rfl rfl rfl ((hA.vs.keep (Keep.drawn w19) trivial)) rfl ?_; intro w27 hM27 hk27 hs27
    rw [delP_map] at hM27
    refine ops_nil ⟨((Keep.drawn w19).all.trans hk27), fun hS => ?_⟩
    have hD := hA.del hM27 hS
    have hB2D := hS.blk' hB2A (hB2A.ne_map hA.vs)
    have hSD : ModS w19 mb bm l w27 (delP l o.name) := by
      refine ⟨hD, hS.mono fun z _ hz e => hz (.inl e), fun z hz => .inl ?_⟩
      rcases hz with e | ⟨x, hx, e⟩
      · exact .inl e
      · exact .inr ⟨x, (List.mem_filter.1 hx).1, e⟩
    refine any_done (by kernel_rfl) ?_
    refine W_seq ?_
    refine W_region ?_
    refine op_run (r_build (ansR 0 false Bk.zero) (_) ([]) rfl rfl rfl rfl rfl (rfl)) rfl ?_
    refine o_storeA (cs := ansR 0 false Bk.zero) rfl rfl (by first | rfl | exact binV_one _ | exact dgR_one _ | exact refR_one _ | exact secR_one _ | exact all_c8 _ | exact ansR_one _ _ _) (by first | rfl | (rw [binV_len]; rfl) | (rw [dgR_len]; rfl) | (rw [refR_len]; rfl) | (rw [secR_len]; rfl) | (rw [List.length_map, tagF_len]; rfl) | (rw [opR_len]; rfl) | (rw [ansR_len]; rfl) | (rw [blkR_len]; rfl)) hB2D (by rw [ansR_len]; decide) rfl ?_; intro w30 hB30 hk30 hs30
    refine ops_nil ?_
    refine W_ret ?_
    refine retA (ansR 0 false Bk.zero) rfl rfl rfl rfl (by first | rfl | (rw [binV_len]; rfl) | (rw [dgR_len]; rfl) | (rw [refR_len]; rfl) | (rw [secR_len]; rfl) | (rw [List.length_map, tagF_len]; rfl) | (rw [opR_len]; rfl) | (rw [ansR_len]; rfl) | (rw [blkR_len]; rfl)) (ans_st hB30).all ?_
    have hv' : (lookP (abs l) o.name).isSome = true := by rw [look_abs, hv]; rfl
    unfold doD
    rw [if_neg (by omega), if_pos (by omega), if_pos hv']
    exact ⟨rfl, _, del_abs l o.name, (ModS.pre h hkA hSD).st hB2D (by decide) (by decide) hk30 (by omega)⟩
theorem md_Do6 (w : World) (mb bm : Nat) (l : ModL) (o : OpV) (h : ModW w mb bm l) (hs : o.small) (hk : o.kind = 6) :
    Ret Try.prog 11 [.pointer (some ⟨mb, 0, none⟩), .agg (opR o).toArray].toArray w fun r w' => r = (doD (abs l) o).1.v ∧ ∃ l', abs l' = (doD (abs l) o).2 ∧ ModS w mb bm l w' l' := by
  refine enter (fn := Try.f11) (n := 67) Try.func11 rfl rfl (by simp) ?_
  refine W_seq ?_
  refine W_region ?_
  refine o_box rfl rfl rfl ?_; intro w1 b1 e1 hB1 hk1 hs1
  have hB1 : Blk w1 b1 (opR o) 26 := hB1
  refine o_alloc rfl rfl rfl ?_; intro w2 b2 e2 hB2 hk2 hs2
  have hB2 : Blk w2 b2 (ansR 0 false Bk.zero) 34 := hB2
  have hk02 := hk1.trans hk2
  refine ops_nil ?_
  refine W_seq ?_
  refine W_seq ?_
  refine W_region ?_
  refine op_run (r_fieldAddr rfl rfl rfl rfl rfl) rfl ?_
  refine op_run (r_load rfl rfl rfl ((hk2.blk' hB1 trivial).cell rfl)) rfl ?_
  refine ops_nil ?_
  refine W_block ?_
  refine W_seq ?_
  refine W_region ?_
  refine op_run (r_eql rfl rfl) rfl ?_
  refine o_ast rfl ?_
  refine ops_nil ?_
  refine W_no rfl (decide_eq_false (by omega)) ?_
  refine W_seq ?_
  refine W_region ?_
  refine op_run (r_eql rfl rfl) rfl ?_
  refine o_ast rfl ?_
  refine ops_nil ?_
  refine W_no rfl (decide_eq_false (by omega)) ?_
  refine W_seq ?_
  refine W_seq ?_
  refine W_region ?_
  refine op_run (r_eql rfl rfl) rfl ?_
  refine o_ast rfl ?_
  refine ops_nil ?_
  refine W_no rfl (decide_eq_false (by omega)) ?_
  refine W_seq ?_
  refine W_region ?_
  refine op_run (r_eql rfl rfl) rfl ?_
  refine o_ast rfl ?_
  refine ops_nil ?_
  refine W_no rfl (decide_eq_false (by omega)) ?_
  refine W_region ?_
  refine op_run (r_eql rfl rfl) rfl ?_
  refine o_ast rfl ?_
  refine ops_nil ?_
  refine W_no rfl (decide_eq_false (by omega)) ?_
  refine W_seq ?_
  refine W_seq ?_
  refine W_region ?_
  refine op_run (r_eql rfl rfl) rfl ?_
  refine o_ast rfl ?_
  refine ops_nil ?_
  refine W_yes rfl (decide_eq_true hk) ?_
  refine W_skip ?_
  refine W_yes rfl (decide_eq_true hk) ?_
  refine W_seq ?_
  refine W_region ?_
  refine o_mvt rfl ?_
  refine op_run (r_loadA (opR o) rfl rfl rfl (by first | rfl | (rw [binV_len]; rfl) | (rw [dgR_len]; rfl) | (rw [refR_len]; rfl) | (rw [secR_len]; rfl) | (rw [List.length_map, tagF_len]; rfl) | (rw [opR_len]; rfl) | (rw [ansR_len]; rfl) | (rw [blkR_len]; rfl)) ((hk2.blk' hB1 trivial).all)) rfl ?_
  refine op_call rfl rfl rfl (md_copied w2 mb bm l o (h.k hk02) hs) ?_; rintro v118 w118 ⟨rfl, l', ha, hS⟩
  have hB2C := hS.2.1.blk' hB2 (neB (h.k hk02) hB2)
  refine op_run (r_build (ansR (copD (abs l) o).1 false Bk.zero) (_) ([(0, .int .i64 (copD (abs l) o).1)]) rfl rfl rfl rfl rfl (rfl)) rfl ?_
  refine o_storeA (cs := ansR (copD (abs l) o).1 false Bk.zero) rfl rfl (by first | rfl | exact binV_one _ | exact dgR_one _ | exact refR_one _ | exact secR_one _ | exact all_c8 _ | exact ansR_one _ _ _) (by first | rfl | (rw [binV_len]; rfl) | (rw [dgR_len]; rfl) | (rw [refR_len]; rfl) | (rw [secR_len]; rfl) | (rw [List.length_map, tagF_len]; rfl) | (rw [opR_len]; rfl) | (rw [ansR_len]; rfl) | (rw [blkR_len]; rfl)) hB2C (by rw [ansR_len]; decide) rfl ?_; intro w120 hB120 hk120 hs120
  refine ops_nil ?_
  refine W_ret ?_
  refine retA (ansR (copD (abs l) o).1 false Bk.zero) rfl rfl rfl rfl (by first | rfl | (rw [binV_len]; rfl) | (rw [dgR_len]; rfl) | (rw [refR_len]; rfl) | (rw [secR_len]; rfl) | (rw [List.length_map, tagF_len]; rfl) | (rw [opR_len]; rfl) | (rw [ansR_len]; rfl) | (rw [blkR_len]; rfl)) (ans_st hB120).all ?_
  unfold doD
  rw [if_neg (by omega), if_neg (by omega), if_neg (by omega), if_pos (by omega)]
  exact ⟨rfl, l', ha, (ModS.pre h hk02 hS).st hB2C (by decide) (by decide) hk120 (by omega)⟩
theorem md_Do7 (w : World) (mb bm : Nat) (l : ModL) (o : OpV) (h : ModW w mb bm l) (hs : o.small) (hk : o.kind = 7) :
    Ret Try.prog 11 [.pointer (some ⟨mb, 0, none⟩), .agg (opR o).toArray].toArray w fun r w' => r = (doD (abs l) o).1.v ∧ ∃ l', abs l' = (doD (abs l) o).2 ∧ ModS w mb bm l w' l' := by
  refine enter (fn := Try.f11) (n := 67) Try.func11 rfl rfl (by simp) ?_
  refine W_seq ?_
  refine W_region ?_
  refine o_box rfl rfl rfl ?_; intro w1 b1 e1 hB1 hk1 hs1
  have hB1 : Blk w1 b1 (opR o) 26 := hB1
  refine o_alloc rfl rfl rfl ?_; intro w2 b2 e2 hB2 hk2 hs2
  have hB2 : Blk w2 b2 (ansR 0 false Bk.zero) 34 := hB2
  have hk02 := hk1.trans hk2
  refine ops_nil ?_
  refine W_seq ?_
  refine W_seq ?_
  refine W_region ?_
  refine op_run (r_fieldAddr rfl rfl rfl rfl rfl) rfl ?_
  refine op_run (r_load rfl rfl rfl ((hk2.blk' hB1 trivial).cell rfl)) rfl ?_
  refine ops_nil ?_
  refine W_block ?_
  refine W_seq ?_
  refine W_region ?_
  refine op_run (r_eql rfl rfl) rfl ?_
  refine o_ast rfl ?_
  refine ops_nil ?_
  refine W_no rfl (decide_eq_false (by omega)) ?_
  refine W_seq ?_
  refine W_region ?_
  refine op_run (r_eql rfl rfl) rfl ?_
  refine o_ast rfl ?_
  refine ops_nil ?_
  refine W_no rfl (decide_eq_false (by omega)) ?_
  refine W_seq ?_
  refine W_seq ?_
  refine W_region ?_
  refine op_run (r_eql rfl rfl) rfl ?_
  refine o_ast rfl ?_
  refine ops_nil ?_
  refine W_no rfl (decide_eq_false (by omega)) ?_
  refine W_seq ?_
  refine W_region ?_
  refine op_run (r_eql rfl rfl) rfl ?_
  refine o_ast rfl ?_
  refine ops_nil ?_
  refine W_no rfl (decide_eq_false (by omega)) ?_
  refine W_region ?_
  refine op_run (r_eql rfl rfl) rfl ?_
  refine o_ast rfl ?_
  refine ops_nil ?_
  refine W_no rfl (decide_eq_false (by omega)) ?_
  refine W_seq ?_
  refine W_seq ?_
  refine W_region ?_
  refine op_run (r_eql rfl rfl) rfl ?_
  refine o_ast rfl ?_
  refine ops_nil ?_
  refine W_no rfl (decide_eq_false (by omega)) ?_
  refine W_region ?_
  refine op_run (r_eql rfl rfl) rfl ?_
  refine o_ast rfl ?_
  refine ops_nil ?_
  refine W_yes rfl (decide_eq_true hk) ?_
  refine W_seq ?_
  refine W_region ?_
  refine o_mvt rfl ?_
  refine op_run (r_loadA (opR o) rfl rfl rfl (by first | rfl | (rw [binV_len]; rfl) | (rw [dgR_len]; rfl) | (rw [refR_len]; rfl) | (rw [secR_len]; rfl) | (rw [List.length_map, tagF_len]; rfl) | (rw [opR_len]; rfl) | (rw [ansR_len]; rfl) | (rw [blkR_len]; rfl)) ((hk2.blk' hB1 trivial).all)) rfl ?_
  refine op_call rfl rfl rfl (md_copied w2 mb bm l o (h.k hk02) hs) ?_; rintro v134 w134 ⟨rfl, l', ha, hS⟩
  have hB2C := hS.2.1.blk' hB2 (neB (h.k hk02) hB2)
  refine op_run (r_build (ansR (copD (abs l) o).1 false Bk.zero) (_) ([(0, .int .i64 (copD (abs l) o).1)]) rfl rfl rfl rfl rfl (rfl)) rfl ?_
  refine o_storeA (cs := ansR (copD (abs l) o).1 false Bk.zero) rfl rfl (by first | rfl | exact binV_one _ | exact dgR_one _ | exact refR_one _ | exact secR_one _ | exact all_c8 _ | exact ansR_one _ _ _) (by first | rfl | (rw [binV_len]; rfl) | (rw [dgR_len]; rfl) | (rw [refR_len]; rfl) | (rw [secR_len]; rfl) | (rw [List.length_map, tagF_len]; rfl) | (rw [opR_len]; rfl) | (rw [ansR_len]; rfl) | (rw [blkR_len]; rfl)) hB2C (by rw [ansR_len]; decide) rfl ?_; intro w136 hB136 hk136 hs136
  refine ops_nil ?_
  refine W_ret ?_
  refine retA (ansR (copD (abs l) o).1 false Bk.zero) rfl rfl rfl rfl (by first | rfl | (rw [binV_len]; rfl) | (rw [dgR_len]; rfl) | (rw [refR_len]; rfl) | (rw [secR_len]; rfl) | (rw [List.length_map, tagF_len]; rfl) | (rw [opR_len]; rfl) | (rw [ansR_len]; rfl) | (rw [blkR_len]; rfl)) (ans_st hB136).all ?_
  unfold doD
  rw [if_neg (by omega), if_neg (by omega), if_neg (by omega), if_pos (by omega)]
  exact ⟨rfl, l', ha, (ModS.pre h hk02 hS).st hB2C (by decide) (by decide) hk136 (by omega)⟩
end Go.Proofs.Ytkckphbdjkjfgaa.B
