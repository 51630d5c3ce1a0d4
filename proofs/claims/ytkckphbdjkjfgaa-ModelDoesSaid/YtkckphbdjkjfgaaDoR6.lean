/-
  sporranref15.Do: Delete.
-/
import Derived.Test.YtkckphbdjkjfgaaDoR5
namespace Go.Proofs.Ytkckphbdjkjfgaa.B
open Go
set_option linter.unusedVariables false
set_option maxHeartbeats 2000000
set_option maxRecDepth 100000
attribute [local irreducible] W OpsW OpsQ retP
/-- Images with one less. -/
theorem ImgsS.cut {w w' : World} {v r : Value} {L : List Img} {ys : List (Img × Value)} {k : Nat} (h : ImgsS w v L ys) (hk : Keep All w w') (hkl : k < L.length) (hr : Sl w' r (L.length - 1) 4 (rows imR (ys.take k) ++ rows imR (ys.drop (k + 1)))) :
    ImgsS w' r (L.take k ++ L.drop (k + 1)) (ys.take k ++ ys.drop (k + 1)) := by
  have h24 := h.k hk
  refine ⟨by rw [List.map_append, List.map_take, List.map_drop, h.e], ?_, fun y hy => ?_⟩
  · have e1 : (L.take k ++ L.drop (k + 1)).length = L.length - 1 := by
      rw [List.length_append, List.length_take, List.length_drop]; omega
    rw [e1, rows_app]; exact hr
  · rcases List.mem_append.1 hy with hy | hy
    · exact h24.b y (List.mem_of_mem_take hy)
    · exact h24.b y (List.mem_of_mem_drop hy)
theorem rf15_Do2 (w : World) (v : Value) (l : AL) (ys : List (Img × Value)) (o : OpV) (h : ImgsS w v (imgD l) ys) (hN : NdA l) (hl : l.length ≤ 1000) (hk : o.kind = 2) :
    Ret Try.prog 19 [v, .agg (opR o).toArray].toArray w (DoQR w l o) := by
  have hil := imgD_len l
  have hd := doD_2 (l := l) hk
  obtain ⟨a0, c0, rfl, hc0, hca⟩ := h.o.form
  refine enter (fn := Try.f19) (n := 306) Try.func19 rfl rfl (by simp) ?_
  refine W_seq ?_
  refine W_region ?_
  refine o_box rfl rfl rfl ?_; intro w1 b1 e1 hB1 hk1 hs1
  have hB1 : Blk w1 b1 (opR o) 26 := hB1
  refine o_asc rfl ?_
  refine o_alloc rfl rfl rfl ?_; intro w2 b2 e2 hB2 hk2 hs2
  have hB2 : Blk w2 b2 (ansR 0 false Bk.zero) 34 := hB2
  have hk02 := hk1.trans hk2
  have hB12 := hk2.blk' hB1 trivial
  refine ops_nil ?_
  refine W_seq ?_
  refine W_region ?_
  refine o_mvt rfl ?_
  refine op_run (r_fieldAddr rfl rfl rfl rfl rfl) rfl ?_
  refine op_run (r_load rfl rfl rfl (hB12.cell rfl)) rfl ?_
  refine op_call rfl rfl rfl (rf15_Find w2 _ (imgD l) ys o.name (h.k hk02)) ?_; rintro v4 w4 ⟨⟨z, rfl, hz⟩, hk4⟩
  have hk04 := hk02.trans hk4
  have hB14 := hk4.blk' hB12 trivial
  have hB24 := hk4.blk' hB2 trivial
  have hb2 : w.heap.size ≤ b2 := by have := hk1.size; omega
  have hzz := find_case hz
  refine o_ast rfl ?_
  refine ops_nil ?_
  refine W_seq ?_
  refine W_seq ?_
  refine W_region ?_
  refine op_run (r_fieldAddr rfl rfl rfl rfl rfl) rfl ?_
  refine op_run (r_load rfl rfl rfl (hB14.cell rfl)) rfl ?_
  refine op_run (r_eql rfl rfl) rfl ?_
  refine ops_nil ?_
  refine W_no rfl (decide_eq_false (by omega)) ?_
  refine W_skip ?_
  refine W_seq ?_
  refine W_seq ?_
  refine W_region ?_
  refine op_run (r_fieldAddr rfl rfl rfl rfl rfl) rfl ?_
  refine op_run (r_load rfl rfl rfl (hB14.cell rfl)) rfl ?_
  refine op_run (r_eql rfl rfl) rfl ?_
  refine ops_nil ?_
  refine W_no rfl (decide_eq_false (by omega)) ?_
  refine W_skip ?_
  refine W_seq ?_
  refine W_cut [73] [66, 67, 68, 69, 70, 71, 72, 73] (fun vs w46 => vs = [.bool false] ∧ w46 = w4) ?_ ?_
  · refine W_region ?_
    refine op_run (r_fieldAddr rfl rfl rfl rfl rfl) rfl ?_
    refine op_run (r_load rfl rfl rfl (hB14.cell rfl)) rfl ?_
    refine op_run (r_eql rfl rfl) rfl ?_
    refine o_mvt rfl ?_
    refine g_split rfl rfl rfl (fun g48 => ?_) (fun g => absurd g (by rw [decide_eq_false (show ¬ o.kind = 6 by omega)]; decide))
    refine op_run (r_fieldAddr rfl rfl rfl rfl rfl) (g_yes rfl rfl rfl g48) ?_
    refine op_run (r_load rfl rfl rfl (hB14.cell rfl)) (g_yes rfl rfl rfl g48) ?_
    refine op_run (r_eql rfl rfl) (g_yes rfl rfl rfl g48) ?_
    refine o_pkFt rfl g48 rfl ?_
    refine ops_nil ?_
    exact ⟨by (repeat (first | with_reducible exact offM_refl _ _ | refine offM_updc rfl ?_ | refine offM_upd rfl ?_ | refine offM_updo rfl ?_ | refine offM_updo_none ?_ | refine offM_head rfl rfl ?_)), congrArg (fun b => [Value.bool b]) (decide_eq_false (by omega)), rfl⟩
  · rintro J51 vs w51 ⟨rfl, rfl⟩ -
    refine W_no rfl (rfl) ?_
    refine W_skip ?_
    refine W_seq ?_
    refine W_cut [136] [129, 130, 131, 132, 133, 134, 135, 136] (fun vs w158 => vs = [.bool false] ∧ w158 = w51) ?_ ?_
    · refine W_region ?_
      refine op_run (r_fieldAddr rfl rfl rfl rfl rfl) rfl ?_
      refine op_run (r_load rfl rfl rfl (hB14.cell rfl)) rfl ?_
      refine op_run (r_lss rfl rfl) rfl ?_
      refine o_mvt rfl ?_
      refine g_split rfl rfl rfl (fun g160 => ?_) (fun g => absurd g (by rw [decide_eq_false (show ¬ o.kind < 1 by omega)]; decide))
      refine op_run (r_fieldAddr rfl rfl rfl rfl rfl) (g_yes rfl rfl rfl g160) ?_
      refine op_run (r_load rfl rfl rfl (hB14.cell rfl)) (g_yes rfl rfl rfl g160) ?_
      refine op_run (r_gtr rfl rfl) (g_yes rfl rfl rfl g160) ?_
      refine o_pkFt rfl g160 rfl ?_
      refine ops_nil ?_
      exact ⟨by (repeat (first | with_reducible exact offM_refl _ _ | refine offM_updc rfl ?_ | refine offM_upd rfl ?_ | refine offM_updo rfl ?_ | refine offM_updo_none ?_ | refine offM_head rfl rfl ?_)), congrArg (fun b => [Value.bool b]) (decide_eq_false (by omega)), rfl⟩
    · rintro J163 vs w163 ⟨rfl, rfl⟩ -
      refine W_no rfl (rfl) ?_
      refine W_skip ?_
      refine W_seq ?_
      refine W_seq ?_
      refine W_region ?_
      refine o_mvt rfl ?_
      refine op_run (r_lss rfl rfl) rfl ?_
      refine ops_nil ?_
      refine W_cond_p rfl (fun h168 => ?_) (fun h168 => ?_)
      · refine W_seq ?_
        refine W_region ?_
        refine o_mvt rfl ?_
        have hn : lookP l o.name = none := by
          rcases hzz with ⟨e, _⟩ | ⟨_, _, _, e, _⟩
          · exact e
          · omega
        refine op_run (r_build (ansR 5 false Bk.zero) (_) ([(0, .int .i64 5)]) rfl rfl rfl rfl rfl (rfl)) rfl ?_
        refine o_ast rfl ?_
        refine o_storeA (cs := ansR 5 false Bk.zero) rfl rfl (by first | rfl | exact binV_one _ | exact dgR_one _ | exact refR_one _ | exact secR_one _ | exact all_c8 _ | exact ansR_one _ _ _) (by first | rfl | (rw [binV_len]; rfl) | (rw [dgR_len]; rfl) | (rw [refR_len]; rfl) | (rw [secR_len]; rfl) | (rw [List.length_map, tagF_len]; rfl) | (rw [opR_len]; rfl) | (rw [ansR_len]; rfl) | (rw [blkR_len]; rfl)) hB24 (by rw [ansR_len]; decide) rfl ?_; intro w170 hB170 hk170 hs170
        refine ops_nil ?_
        refine W_ret ?_
        refine retTA (_) ((ansR 5 false Bk.zero)) rfl rfl rfl rfl rfl (by first | rfl | (rw [binV_len]; rfl) | (rw [dgR_len]; rfl) | (rw [refR_len]; rfl) | (rw [secR_len]; rfl) | (rw [List.length_map, tagF_len]; rfl) | (rw [opR_len]; rfl) | (rw [ansR_len]; rfl) | (rw [blkR_len]; rfl)) ((ans_st hB170).all) ?_
        have hkZ := hk04.new hk170 hb2
        exact doq_same (a := Ans.no 5) (by rw [hd, hn]; rfl) (by omega) (h.k hkZ) hkZ
      · refine W_skip ?_
        refine W_seq ?_
        refine W_seq ?_
        refine W_region ?_
        refine op_run (r_fieldAddr rfl rfl rfl rfl rfl) rfl ?_
        obtain ⟨vv, ki, hv, rfl, hki⟩ : ∃ (v : VA) (k : Nat), lookP l o.name = some v ∧ z = k ∧ (imgD l)[k]? = some ⟨o.name, v.q, v.fr, blkS v.bl⟩ := by
          rcases hzz with ⟨_, e⟩ | hh
          · omega
          · exact hh
        have hkil := (List.getElem?_eq_some_iff.1 hki).1
        have hinc := inc64' ki (by omega)
        refine op_run (r_load rfl rfl rfl (hB14.cell rfl)) rfl ?_
        refine op_run (r_eql rfl rfl) rfl ?_
        refine ops_nil ?_
        refine W_yes rfl (decide_eq_true hk) ?_
        refine W_seq ?_
        refine W_held (fun w' => Keep All w w') (by kernel_rfl) (hk04.trans (Keep.drawn _)) (fun hS => ?_)
        refine any_mvt 1 rfl (by kernel_rfl) (by kernel_rfl) (by kernel_rfl) rfl hS ?_
        refine any_mvt 2 rfl (by kernel_rfl) (by kernel_rfl) (by kernel_rfl) rfl hS ?_
        refine any_run 3 (fun w' hS' => (r_sliceS_hi rfl rfl rfl rfl (by omega) (by omega))) rfl (by kernel_rfl) (by kernel_rfl) (by kernel_rfl) rfl hS ?_
        refine any_mvt 5 rfl (by kernel_rfl) (by kernel_rfl) (by kernel_rfl) rfl hS ?_
        refine any_mvt 6 rfl (by kernel_rfl) (by kernel_rfl) (by kernel_rfl) rfl hS ?_
        refine any_run 7 (fun w' hS' => (r_add rfl rfl)) rfl (by kernel_rfl) (by kernel_rfl) (by kernel_rfl) rfl hS ?_
        refine any_run 8 (fun w' hS' => ((r_sliceS_lo rfl rfl rfl rfl (by rw [hinc]; omega) (by rw [hinc]; omega)).val ((show subSl a0 4 (IntKind.i64.wrap ((ki : Int) + 1)).toNat (imgD l).length c0 = subSl a0 4 (ki + 1) (imgD l).length c0 by rw [hinc]; rfl)))) rfl (by kernel_rfl) (by kernel_rfl) (by kernel_rfl) rfl hS ?_
        refine any_run 10 (fun w' hS' => (r_build (ansR 0 false Bk.zero) (_) ([]) rfl rfl rfl rfl rfl (rfl))) rfl (by kernel_rfl) (by kernel_rfl) (by kernel_rfl) rfl hS ?_
        refine any_one 0 (by kernel_rfl) (one_of rfl ?_)
        refine o_bs0 rfl rfl rfl ?_; intro w178 b178 e178 hB178 hk178 hs178
        have hB178e : Own w178 41 4 (.slice (some ⟨b178, 0, none⟩) 0 0) 0 [] := Own.blk hB178 rfl (Nat.zero_le _)
        have hB2178 := ((Keep.drawn w163).trans hk178).blk' hB24 trivial
        have hz163 := hk04.size
        have hb178 : w163.heap.size ≤ b178 := Nat.le_of_eq e178.symm
        refine ops_nil ⟨(hS.trans hk178), fun hS => ?_⟩
        refine any_one 4 (by kernel_rfl) (one_of rfl ?_)
        refine o_appS (v := .slice (some ⟨b178, 0, none⟩) 0 0) rfl rfl ((h.k hS).takeS (Nat.le_of_lt hkil)) rfl ti_im rfl rfl hB178e (rowsIm_one fun y hy => imgs_ones h y (List.mem_of_mem_take hy)) (by unfold maxLen; omega) (by omega) rfl ?_; intro v180 w180 hown180 hk180 hb180
        have hb180' : InB (fun z => w163.heap.size ≤ z) v180 := hb180.mono fun z hz => by
          rcases hz with h | h
          · have h : some b178 = some z := h; injection h with h; omega
          · have := hs178; omega
        have hB2180 := hk180.blk' hB2178 (fun e => by have e : some b2 = some b178 := e; injection e with e; have := hB24.lt; omega)
        refine ops_nil ⟨(hS.own hk180 (fun z hz _ => by have hz : some b178 = some z := hz; injection hz with hz; omega)), fun hS => ?_⟩
        refine any_one 9 (by kernel_rfl) (one_of rfl ?_)
        refine o_appS (v := v180) rfl rfl ((h.k hS).dropS (show ki + 1 ≤ (imgD l).length from hkil)) rfl ti_im rfl rfl hown180 (rowsIm_one fun y hy => imgs_ones h y (List.mem_of_mem_drop hy)) (by unfold maxLen; omega) (by omega) rfl ?_; intro v182 w182 hown182 hk182 hb182
        have hB2182 := hk182.blk' hB2180 (fun e => by have := hb180' b2 e.symm; have := hB24.lt; omega)
        refine ops_nil ⟨(hS.own hk182 (fun z hz _ => by have := hb180' z hz; omega)), fun hS => ?_⟩
        refine any_ast 11 rfl (by kernel_rfl) (by kernel_rfl) (by kernel_rfl) rfl hS ?_
        refine any_one 12 (by kernel_rfl) (one_of rfl ?_)
        refine o_storeA (cs := ansR 0 false Bk.zero) rfl rfl (by first | rfl | exact binV_one _ | exact dgR_one _ | exact refR_one _ | exact secR_one _ | exact all_c8 _ | exact ansR_one _ _ _) (by first | rfl | (rw [binV_len]; rfl) | (rw [dgR_len]; rfl) | (rw [refR_len]; rfl) | (rw [secR_len]; rfl) | (rw [List.length_map, tagF_len]; rfl) | (rw [opR_len]; rfl) | (rw [ansR_len]; rfl) | (rw [blkR_len]; rfl)) hB2182 (by rw [ansR_len]; decide) rfl ?_; intro w184 hB184 hk184 hs184
        refine ops_nil ⟨(hS.new hk184 hb2), fun hS => ?_⟩
        refine any_done (by kernel_rfl) ?_
        refine W_ret ?_
        refine retTA (v182) ((ansR 0 false Bk.zero)) rfl rfl rfl rfl rfl (by first | rfl | (rw [binV_len]; rfl) | (rw [dgR_len]; rfl) | (rw [refR_len]; rfl) | (rw [secR_len]; rfl) | (rw [List.length_map, tagF_len]; rfl) | (rw [opR_len]; rfl) | (rw [ansR_len]; rfl) | (rw [blkR_len]; rfl)) ((ans_st hB184).all) ?_
        have hr : Sl w182 v182 (0 + ki + ((imgD l).length - (ki + 1))) 4 ([] ++ rows imR (ys.take ki) ++ rows imR (ys.drop (ki + 1))) := hown182.sl
        have e1 : 0 + ki + ((imgD l).length - (ki + 1)) = (imgD l).length - 1 := by omega
        rw [e1, List.nil_append] at hr
        have hb182' : InB (fun z => w163.heap.size ≤ z) v182 := hb182.mono fun z hz => by
          rcases hz with h | h
          · exact hb180' z h
          · have h2 := ((Keep.drawn w163).trans hk178).size
            have h3 := hk180.size
            omega
        have hlt := hB24.lt
        have hI3 := h.cut hS hkil (hr.keep hk184 (fun z hz => by have := hb182' z hz; omega))
        rw [imgD_del hN.1 hki rfl] at hI3
        exact doq_to (a := Ans.no 0) (by rw [hd, hv]; rfl) (by omega) hI3 hS
end Go.Proofs.Ytkckphbdjkjfgaa.B
