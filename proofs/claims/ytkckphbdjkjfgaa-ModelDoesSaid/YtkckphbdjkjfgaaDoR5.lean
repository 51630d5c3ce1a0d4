/-
  sporranref15.Do: Snapshot, Clone.
-/
import Derived.Test.YtkckphbdjkjfgaaDoR4
namespace Go.Proofs.Ytkckphbdjkjfgaa.B
open Go
set_option linter.unusedVariables false
set_option maxHeartbeats 2000000
set_option maxRecDepth 100000
attribute [local irreducible] W OpsW OpsQ retP
def qC (l : AL) (o : OpV) : Int := if o.kind = 6 then (match lookP l o.name with | none => 0 | some v => v.q) else o.quota
theorem qC_none {l : AL} {o : OpV} (h : lookP l o.name = none) : qC l o = if o.kind = 6 then 0 else o.quota := by unfold qC; rw [h]
theorem qC_some {l : AL} {o : OpV} {v : VA} (h : lookP l o.name = some v) : qC l o = if o.kind = 6 then v.q else o.quota := by unfold qC; rw [h]
def mayC (l : AL) (o : OpV) : Prop := namedB o.other ∧ 0 ≤ qC l o ∧ qC l o ≤ 1048576
theorem addE_bad {l : AL} {nm : List UInt8} {q code : Int} {n : Nat} (h : ¬ (namedB nm ∧ 0 ≤ q ∧ q ≤ 1048576)) : addE l nm q code n = 1 := by
  unfold addE; rw [if_pos (Classical.byContradiction fun hn => h ⟨Classical.byContradiction fun h1 => hn (.inl h1), by omega, by omega⟩)]
theorem addE_go {l : AL} {nm : List UInt8} {q code : Int} {n : Nat} (h : namedB nm ∧ 0 ≤ q ∧ q ≤ 1048576) : addE l nm q code n = if code ≠ 0 then code else if (lookP l nm).isSome = true then 6 else if q < n then 8 else 0 := by
  unfold addE; rw [if_neg (by intro hc; rcases hc with hc | hc | hc; exact hc h.1; omega; omega)]
theorem copD_1 {l : AL} {o : OpV} (h : ¬ mayC l o) : copD l o = (1, l) := by
  cases hv : lookP l o.name with
  | none =>
    rw [copD_none hv, ← qC_none hv, addE_bad h]
  | some v =>
    rw [copD_some hv, ← qC_some hv, addE_bad h, if_neg (by decide)]
theorem copD_5 {l : AL} {o : OpV} (h : mayC l o) (hv : lookP l o.name = none) : copD l o = (5, l) := by
  rw [copD_none hv, ← qC_none hv, addE_go h, if_pos (by decide)]
theorem copD_6 {l : AL} {o : OpV} {v : VA} (h : mayC l o) (hv : lookP l o.name = some v) (h6 : (lookP l o.other).isSome = true) : copD l o = (6, l) := by
  rw [copD_some hv, ← qC_some hv, addE_go h, if_neg (by simp), if_pos h6, if_neg (by decide)]
theorem copD_8 {l : AL} {o : OpV} {v : VA} (h : mayC l o) (hv : lookP l o.name = some v) (h6 : lookP l o.other = none) (h8 : qC l o < v.bl.length) : copD l o = (8, l) := by
  rw [copD_some hv, ← qC_some hv, addE_go h, if_neg (by simp), if_neg (by rw [h6]; simp), if_pos h8, if_neg (by decide)]
theorem copD_0 {l : AL} {o : OpV} {v : VA} (h : mayC l o) (hv : lookP l o.name = some v) (h6 : lookP l o.other = none) (h8 : ¬ qC l o < v.bl.length) : copD l o = (0, l ++ [(o.other, ⟨qC l o, decide (o.kind = 6), v.bl⟩)]) := by
  rw [copD_some hv, ← qC_some hv, addE_go h, if_neg (by simp), if_neg (by rw [h6]; simp), if_neg h8, if_pos rfl]
theorem rf15_Do67 (w : World) (v : Value) (l : AL) (ys : List (Img × Value)) (o : OpV) (h : ImgsS w v (imgD l) ys) (hN : NdA l) (hs : o.small) (hl : l.length ≤ 1000) (hk : o.kind = 6 ∨ o.kind = 7) :
    Ret Try.prog 19 [v, .agg (opR o).toArray].toArray w (DoQR w l o) := by
  have hnl : o.other.length ≤ 2 ^ 40 := by have := hs.2; omega
  have hil := imgD_len l
  have hd := doD_67 (l := l) hk
  refine enter (fn := Try.f19) (n := 306) Try.func19 rfl rfl (by simp) ?_
  refine W_seq ?_
  refine W_region ?_
  refine o_box rfl rfl rfl ?_; intro w1 b1 e1 hB1 hk1 hs1
  have hB1 : Blk w1 b1 (opR o) 26 := hB1
  refine o_asc rfl ?_
  refine o_alloc rfl rfl rfl ?_; intro w2 b2 e2 hB2 hk2 hs2
  have hB2 : Blk w2 b2 (ansR 0 false Bk.zero) 34 := hB2
  have hk02 := hk1.trans hk2
  have hB12 := hk2.blk' hB1 trivial
  refine ops_nil ?_
  refine W_seq ?_
  refine W_region ?_
  refine o_mvt rfl ?_
  refine op_run (r_fieldAddr rfl rfl rfl rfl rfl) rfl ?_
  refine op_run (r_load rfl rfl rfl (hB12.cell rfl)) rfl ?_
  refine op_call rfl rfl rfl (rf15_Find w2 v (imgD l) ys o.name (h.k hk02)) ?_; rintro v4 w4 ⟨⟨z, rfl, hz⟩, hk4⟩
  have hk04 := hk02.trans hk4
  have hB14 := hk4.blk' hB12 trivial
  have hB24 := hk4.blk' hB2 trivial
  have hb2 : w.heap.size ≤ b2 := by have := hk1.size; omega
  have hzz := find_case hz
  refine o_ast rfl ?_
  refine ops_nil ?_
  refine W_seq ?_
  refine W_seq ?_
  refine W_region ?_
  refine op_run (r_fieldAddr rfl rfl rfl rfl rfl) rfl ?_
  refine op_run (r_load rfl rfl rfl (hB14.cell rfl)) rfl ?_
  refine op_run (r_eql rfl rfl) rfl ?_
  refine ops_nil ?_
  refine W_no rfl (decide_eq_false (by omega)) ?_
  refine W_skip ?_
  refine W_seq ?_
  refine W_seq ?_
  refine W_region ?_
  refine op_run (r_fieldAddr rfl rfl rfl rfl rfl) rfl ?_
  refine op_run (r_load rfl rfl rfl (hB14.cell rfl)) rfl ?_
  refine op_run (r_eql rfl rfl) rfl ?_
  refine ops_nil ?_
  refine W_no rfl (decide_eq_false (by omega)) ?_
  refine W_skip ?_
  refine W_seq ?_
  refine W_cut [73] [66, 67, 68, 69, 70, 71, 72, 73] (fun vs w46 => vs = [.bool true] ∧ w46 = w4) ?_ ?_
  · refine W_region ?_
    refine op_run (r_fieldAddr rfl rfl rfl rfl rfl) rfl ?_
    refine op_run (r_load rfl rfl rfl (hB14.cell rfl)) rfl ?_
    refine op_run (r_eql rfl rfl) rfl ?_
    refine o_mvt rfl ?_
    refine g_split rfl rfl rfl (fun g48 => ?_) (fun g48 => ?_)
    · refine op_run (r_fieldAddr rfl rfl rfl rfl rfl) (g_yes rfl rfl rfl g48) ?_
      refine op_run (r_load rfl rfl rfl (hB14.cell rfl)) (g_yes rfl rfl rfl g48) ?_
      refine op_run (r_eql rfl rfl) (g_yes rfl rfl rfl g48) ?_
      refine o_pkFt rfl g48 rfl ?_
      refine ops_nil ?_
      exact ⟨by (repeat (first | with_reducible exact offM_refl _ _ | refine offM_updc rfl ?_ | refine offM_upd rfl ?_ | refine offM_updo rfl ?_ | refine offM_updo_none ?_ | refine offM_head rfl rfl ?_)), congrArg (fun b => [Value.bool b]) (decide_eq_true (by have := of_decide_eq_false g48; omega)), rfl⟩
    · refine op_skip (g_no rfl rfl rfl g48) ?_
      refine op_skip (g_no rfl rfl rfl g48) ?_
      refine op_skip (g_no rfl rfl rfl g48) ?_
      refine o_pkTc rfl g48 rfl ?_
      refine ops_nil ?_
      exact ⟨by (repeat (first | with_reducible exact offM_refl _ _ | refine offM_updc rfl ?_ | refine offM_upd rfl ?_ | refine offM_updo rfl ?_ | refine offM_updo_none ?_ | refine offM_head rfl rfl ?_)), rfl, rfl⟩
  · rintro J52 vs w52 ⟨rfl, rfl⟩ -
    refine W_yes rfl (rfl) ?_
    refine W_seq ?_
    refine W_region ?_
    refine op_run (r_fieldAddr rfl rfl rfl rfl rfl) rfl ?_
    refine op_run (r_load rfl rfl rfl (hB14.cell rfl)) rfl ?_
    refine o_ast rfl ?_
    refine ops_nil ?_
    refine W_cut [9] [9, 76, 77, 78, 79, 80, 81, 82, 83, 84, 85] (fun vs w55 => vs = [.int .i64 (qC l o)] ∧ w55 = w52) ?_ ?_
    · refine W_seq ?_
      refine W_region ?_
      refine op_run (r_fieldAddr rfl rfl rfl rfl rfl) rfl ?_
      refine op_run (r_load rfl rfl rfl (hB14.cell rfl)) rfl ?_
      refine op_run (r_eql rfl rfl) rfl ?_
      refine ops_nil ?_
      refine W_cond_p rfl (fun h57 => ?_) (fun h57 => ?_)
      · refine W_seq ?_
        refine W_region ?_
        refine o_asc rfl ?_
        refine ops_nil ?_
        refine W_seq ?_
        refine W_region ?_
        refine o_mvt rfl ?_
        refine op_run (r_geq rfl rfl) rfl ?_
        refine ops_nil ?_
        refine W_cond_p rfl (fun h58 => ?_) (fun h58 => ?_)
        · refine W_region ?_
          refine o_mvt rfl ?_
          refine o_mvt rfl ?_
          obtain ⟨vv, ki, hv, rfl, hki⟩ : ∃ (v : VA) (k : Nat), lookP l o.name = some v ∧ z = k ∧ (imgD l)[k]? = some ⟨o.name, v.q, v.fr, blkS v.bl⟩ := by
            rcases hzz with ⟨_, e⟩ | hh
            · omega
            · exact hh
          have hkil := (List.getElem?_eq_some_iff.1 hki).1
          obtain ⟨i0, x0, bi, oi, ci, _, hi0, ei0, hci, hbi⟩ := h.at hkil
          rw [hki] at hi0
          cases hi0
          subst ei0
          refine op_run (r_idxS rfl rfl rfl rfl (by omega) (by omega)) rfl ?_
          refine op_run (r_fieldAddr rfl rfl rfl rfl rfl) rfl ?_
          refine op_run (r_load rfl rfl rfl (by rw [Int.toNat_natCast]; exact hk04.cell (hci 1 _ rfl) trivial)) rfl ?_
          refine o_ast rfl ?_
          refine ops_nil ?_
          exact ⟨by (repeat (first | with_reducible exact offM_refl _ _ | refine offM_updc rfl ?_ | refine offM_upd rfl ?_ | refine offM_updo rfl ?_ | refine offM_updo_none ?_ | refine offM_head rfl rfl ?_)), congrArg (fun z : Int => [Value.int .i64 z]) (by rw [qC_some hv, if_pos h57]), rfl⟩
        · refine W_skip ?_
          exact ⟨by (repeat (first | with_reducible exact offM_refl _ _ | refine offM_updc rfl ?_ | refine offM_upd rfl ?_ | refine offM_updo rfl ?_ | refine offM_updo_none ?_ | refine offM_head rfl rfl ?_)), congrArg (fun z : Int => [Value.int .i64 z]) (by
            have hn : lookP l o.name = none := by
              rcases hzz with ⟨e, _⟩ | ⟨_, _, _, e, _⟩
              · exact e
              · omega
            rw [qC_none hn, if_pos h57]), rfl⟩
      · refine W_skip ?_
        exact ⟨by (repeat (first | with_reducible exact offM_refl _ _ | refine offM_updc rfl ?_ | refine offM_upd rfl ?_ | refine offM_updo rfl ?_ | refine offM_updo_none ?_ | refine offM_head rfl rfl ?_)), congrArg (fun z : Int => [Value.int .i64 z]) (by unfold qC; rw [if_neg h57]), rfl⟩
    · rintro J64 vs w64 ⟨rfl, rfl⟩ -
      refine W_seq ?_
      refine W_seq ?_
      refine W_region ?_
      refine op_run (r_fieldAddr rfl rfl rfl rfl rfl) rfl ?_
      refine op_run (r_load rfl rfl rfl (hB14.cell rfl)) rfl ?_
      refine o_mvt rfl ?_
      refine op_call rfl rfl rfl (rf15_may w64 o.other (qC l o) hnl) ?_; rintro v66 w66 ⟨rfl, rfl⟩
      refine op_run (r_not rfl) rfl ?_
      refine ops_nil ?_
      refine W_cond rfl (fun h67 => ?_) (fun h67 => ?_)
      · refine W_seq ?_
        refine W_region ?_
        refine o_mvt rfl ?_
        have hm : ¬ mayC l o := fun hc => by unfold mayC at hc; rw [decide_eq_true hc] at h67; cases h67
        refine op_run (r_build (ansR 1 false Bk.zero) (_) ([(0, .int .i64 1)]) rfl rfl rfl rfl rfl (rfl)) rfl ?_
        refine o_ast rfl ?_
        refine o_storeA (cs := ansR 1 false Bk.zero) rfl rfl (by first | rfl | exact binV_one _ | exact dgR_one _ | exact refR_one _ | exact secR_one _ | exact all_c8 _ | exact ansR_one _ _ _) (by first | rfl | (rw [binV_len]; rfl) | (rw [dgR_len]; rfl) | (rw [refR_len]; rfl) | (rw [secR_len]; rfl) | (rw [List.length_map, tagF_len]; rfl) | (rw [opR_len]; rfl) | (rw [ansR_len]; rfl) | (rw [blkR_len]; rfl)) hB24 (by rw [ansR_len]; decide) rfl ?_; intro w69 hB69 hk69 hs69
        refine ops_nil ?_
        refine W_ret ?_
        refine retTA (v) ((ansR 1 false Bk.zero)) rfl rfl rfl rfl rfl (by first | rfl | (rw [binV_len]; rfl) | (rw [dgR_len]; rfl) | (rw [refR_len]; rfl) | (rw [secR_len]; rfl) | (rw [List.length_map, tagF_len]; rfl) | (rw [opR_len]; rfl) | (rw [ansR_len]; rfl) | (rw [blkR_len]; rfl)) ((ans_st hB69).all) ?_
        have hkZ := hk04.new hk69 hb2
        exact doq_same (a := Ans.no 1) (by rw [hd, copD_1 hm]) (by omega) (h.k hkZ) hkZ
      · refine W_skip ?_
        refine W_seq ?_
        refine W_seq ?_
        refine W_region ?_
        refine o_mvt rfl ?_
        refine op_run (r_lss rfl rfl) rfl ?_
        refine ops_nil ?_
        have hm : mayC l o := Classical.byContradiction fun hc => by unfold mayC at hc; rw [decide_eq_false hc] at h67; cases h67
        refine W_cond_p rfl (fun h71 => ?_) (fun h71 => ?_)
        · refine W_seq ?_
          refine W_region ?_
          refine o_mvt rfl ?_
          have hn : lookP l o.name = none := by
            rcases hzz with ⟨e, _⟩ | ⟨_, _, _, e, _⟩
            · exact e
            · omega
          refine op_run (r_build (ansR 5 false Bk.zero) (_) ([(0, .int .i64 5)]) rfl rfl rfl rfl rfl (rfl)) rfl ?_
          refine o_ast rfl ?_
          refine o_storeA (cs := ansR 5 false Bk.zero) rfl rfl (by first | rfl | exact binV_one _ | exact dgR_one _ | exact refR_one _ | exact secR_one _ | exact all_c8 _ | exact ansR_one _ _ _) (by first | rfl | (rw [binV_len]; rfl) | (rw [dgR_len]; rfl) | (rw [refR_len]; rfl) | (rw [secR_len]; rfl) | (rw [List.length_map, tagF_len]; rfl) | (rw [opR_len]; rfl) | (rw [ansR_len]; rfl) | (rw [blkR_len]; rfl)) hB24 (by rw [ansR_len]; decide) rfl ?_; intro w73 hB73 hk73 hs73
          refine ops_nil ?_
          refine W_ret ?_
          refine retTA (v) ((ansR 5 false Bk.zero)) rfl rfl rfl rfl rfl (by first | rfl | (rw [binV_len]; rfl) | (rw [dgR_len]; rfl) | (rw [refR_len]; rfl) | (rw [secR_len]; rfl) | (rw [List.length_map, tagF_len]; rfl) | (rw [opR_len]; rfl) | (rw [ansR_len]; rfl) | (rw [blkR_len]; rfl)) ((ans_st hB73).all) ?_
          have hkZ := hk04.new hk73 hb2
          exact doq_same (a := Ans.no 5) (by rw [hd, copD_5 hm hn]) (by omega) (h.k hkZ) hkZ
        · refine W_skip ?_
          refine W_seq ?_
          refine W_seq ?_
          refine W_region ?_
          refine o_mvt rfl ?_
          refine op_run (r_fieldAddr rfl rfl rfl rfl rfl) rfl ?_
          obtain ⟨vv, ki, hv, rfl, hki⟩ : ∃ (v : VA) (k : Nat), lookP l o.name = some v ∧ z = k ∧ (imgD l)[k]? = some ⟨o.name, v.q, v.fr, blkS v.bl⟩ := by
            rcases hzz with ⟨_, e⟩ | hh
            · omega
            · exact hh
          have hkil := (List.getElem?_eq_some_iff.1 hki).1
          obtain ⟨i0, x0, bi, oi, ci, _, hi0, ei0, hci, hbi⟩ := h.at hkil
          rw [hki] at hi0
          cases hi0
          subst ei0
          refine op_run (r_load rfl rfl rfl (hB14.cell rfl)) rfl ?_
          refine op_call rfl rfl rfl (rf15_Find w66 _ (imgD l) ys o.other (h.k hk04)) ?_; rintro v76 w76 ⟨⟨z2, rfl, hz2⟩, hk76⟩
          have hzz2 := find_case hz2
          have hk076 := hk04.trans hk76
          have hB276 := hk76.blk' hB24 trivial
          have hB176 := hk76.blk' hB14 trivial
          refine op_run (r_geq rfl rfl) rfl ?_
          refine ops_nil ?_
          refine W_cond_p rfl (fun h77 => ?_) (fun h77 => ?_)
          · refine W_seq ?_
            refine W_region ?_
            refine o_mvt rfl ?_
            have h6 : (lookP l o.other).isSome = true := by
              rcases hzz2 with ⟨_, e⟩ | ⟨_, _, e, _⟩
              · omega
              · rw [e]; rfl
            refine op_run (r_build (ansR 6 false Bk.zero) (_) ([(0, .int .i64 6)]) rfl rfl rfl rfl rfl (rfl)) rfl ?_
            refine o_ast rfl ?_
            refine o_storeA (cs := ansR 6 false Bk.zero) rfl rfl (by first | rfl | exact binV_one _ | exact dgR_one _ | exact refR_one _ | exact secR_one _ | exact all_c8 _ | exact ansR_one _ _ _) (by first | rfl | (rw [binV_len]; rfl) | (rw [dgR_len]; rfl) | (rw [refR_len]; rfl) | (rw [secR_len]; rfl) | (rw [List.length_map, tagF_len]; rfl) | (rw [opR_len]; rfl) | (rw [ansR_len]; rfl) | (rw [blkR_len]; rfl)) hB276 (by rw [ansR_len]; decide) rfl ?_; intro w79 hB79 hk79 hs79
            refine ops_nil ?_
            refine W_ret ?_
            refine retTA (_) ((ansR 6 false Bk.zero)) rfl rfl rfl rfl rfl (by first | rfl | (rw [binV_len]; rfl) | (rw [dgR_len]; rfl) | (rw [refR_len]; rfl) | (rw [secR_len]; rfl) | (rw [List.length_map, tagF_len]; rfl) | (rw [opR_len]; rfl) | (rw [ansR_len]; rfl) | (rw [blkR_len]; rfl)) ((ans_st hB79).all) ?_
            have hkZ := hk076.new hk79 hb2
            exact doq_same (a := Ans.no 6) (by rw [hd, copD_6 hm hv h6]) (by omega) (h.k hkZ) hkZ
          · refine W_skip ?_
            refine W_seq ?_
            refine W_seq ?_
            refine W_region ?_
            refine o_mvt rfl ?_
            refine o_mvt rfl ?_
            have h6 : lookP l o.other = none := by
              rcases hzz2 with ⟨e, _⟩ | ⟨_, _, _, e, _⟩
              · exact e
              · omega
            obtain ⟨xa, xc, exa, _, _⟩ := hbi.form
            subst exa
            have hbl : (blkS vv.bl).length = vv.bl.length := blkS_len _
            refine op_run (r_idxS rfl rfl rfl rfl (by omega) (by omega)) rfl ?_
            refine op_run (r_fieldAddr rfl rfl rfl rfl rfl) rfl ?_
            refine op_run (r_load rfl rfl rfl (by rw [Int.toNat_natCast]; exact hk076.cell (hci 3 _ rfl) trivial)) rfl ?_
            refine op_run (r_len rfl rfl rfl) rfl ?_
            refine o_mvt rfl ?_
            refine op_run (r_gtr rfl rfl) rfl ?_
            refine ops_nil ?_
            refine W_cond_p rfl (fun h83 => ?_) (fun h83 => ?_)
            · refine W_seq ?_
              refine W_region ?_
              refine o_mvt rfl ?_
              refine op_run (r_build (ansR 8 false Bk.zero) (_) ([(0, .int .i64 8)]) rfl rfl rfl rfl rfl (rfl)) rfl ?_
              refine o_ast rfl ?_
              refine o_storeA (cs := ansR 8 false Bk.zero) rfl rfl (by first | rfl | exact binV_one _ | exact dgR_one _ | exact refR_one _ | exact secR_one _ | exact all_c8 _ | exact ansR_one _ _ _) (by first | rfl | (rw [binV_len]; rfl) | (rw [dgR_len]; rfl) | (rw [refR_len]; rfl) | (rw [secR_len]; rfl) | (rw [List.length_map, tagF_len]; rfl) | (rw [opR_len]; rfl) | (rw [ansR_len]; rfl) | (rw [blkR_len]; rfl)) hB276 (by rw [ansR_len]; decide) rfl ?_; intro w85 hB85 hk85 hs85
              refine ops_nil ?_
              refine W_ret ?_
              refine retTA (_) ((ansR 8 false Bk.zero)) rfl rfl rfl rfl rfl (by first | rfl | (rw [binV_len]; rfl) | (rw [dgR_len]; rfl) | (rw [refR_len]; rfl) | (rw [secR_len]; rfl) | (rw [List.length_map, tagF_len]; rfl) | (rw [opR_len]; rfl) | (rw [ansR_len]; rfl) | (rw [blkR_len]; rfl)) ((ans_st hB85).all) ?_
              have hkZ := hk076.new hk85 hb2
              have h83 : qC l o < ((blkS vv.bl).length : Int) := h83
              exact doq_same (a := Ans.no 8) (by rw [hd, copD_8 hm hv h6 (by omega)]) (by omega) (h.k hkZ) hkZ
            · refine W_skip ?_
              refine W_seq ?_
              refine W_gate 16 (fun w' => Keep All w76 w') (by kernel_rfl) (Keep.drawn w76) (fun hS => ?_)
              refine gt_mvt 0 rfl (by kernel_rfl) (by kernel_rfl) (by kernel_rfl) (by kernel_rfl) rfl hS ?_
              refine gt_run 1 (fun w' hS' => (r_fieldAddr rfl rfl rfl rfl rfl)) rfl (by kernel_rfl) (by kernel_rfl) (by kernel_rfl) (by kernel_rfl) rfl hS ?_
              refine gt_run 2 (fun w' hS' => (r_load rfl rfl rfl (((hS'.blk' hB176 trivial).cell rfl)))) rfl (by kernel_rfl) (by kernel_rfl) (by kernel_rfl) (by kernel_rfl) rfl hS ?_
              refine gt_mvt 3 rfl (by kernel_rfl) (by kernel_rfl) (by kernel_rfl) (by kernel_rfl) rfl hS ?_
              refine gt_run 4 (fun w' hS' => (r_fieldAddr rfl rfl rfl rfl rfl)) rfl (by kernel_rfl) (by kernel_rfl) (by kernel_rfl) (by kernel_rfl) rfl hS ?_
              refine gt_run 5 (fun w' hS' => (r_load rfl rfl rfl (((hS'.blk' hB176 trivial).cell rfl)))) rfl (by kernel_rfl) (by kernel_rfl) (by kernel_rfl) (by kernel_rfl) rfl hS ?_
              refine gt_run 6 (fun w' hS' => (r_eql rfl rfl)) rfl (by kernel_rfl) (by kernel_rfl) (by kernel_rfl) (by kernel_rfl) rfl hS ?_
              refine gt_mvt 7 rfl (by kernel_rfl) (by kernel_rfl) (by kernel_rfl) (by kernel_rfl) rfl hS ?_
              refine gt_mvt 8 rfl (by kernel_rfl) (by kernel_rfl) (by kernel_rfl) (by kernel_rfl) rfl hS ?_
              refine gt_run 9 (fun w' hS' => (r_idxS rfl rfl rfl rfl (by omega) (by omega))) rfl (by kernel_rfl) (by kernel_rfl) (by kernel_rfl) (by kernel_rfl) rfl hS ?_
              refine gt_run 10 (fun w' hS' => (r_fieldAddr rfl rfl rfl rfl rfl)) rfl (by kernel_rfl) (by kernel_rfl) (by kernel_rfl) (by kernel_rfl) rfl hS ?_
              refine gt_run 11 (fun w' hS' => (r_load rfl rfl rfl ((by rw [Int.toNat_natCast]; exact hS'.cell (hk076.cell (hci 3 _ rfl) trivial) trivial)))) rfl (by kernel_rfl) (by kernel_rfl) (by kernel_rfl) (by kernel_rfl) rfl hS ?_
              refine gt_run 12 (fun w' hS' => (r_build (imR (⟨o.other, qC l o, decide (o.kind = 6), blkS vv.bl⟩, .slice xa (blkS vv.bl).length xc)) (_) ([(0, strA o.other), (1, .int .i64 (qC l o)), (2, .bool (decide (o.kind = 6))), (3, .slice xa (blkS vv.bl).length xc)]) rfl rfl rfl rfl rfl (rfl))) rfl (by kernel_rfl) (by kernel_rfl) (by kernel_rfl) (by kernel_rfl) rfl hS ?_
              refine gt_run 14 (fun w' hS' => (r_build (ansR 0 false Bk.zero) (_) ([]) rfl rfl rfl rfl rfl (rfl))) rfl (by kernel_rfl) (by kernel_rfl) (by kernel_rfl) (by kernel_rfl) rfl hS ?_
              refine gt_one 13 (by kernel_rfl) (one_of rfl ?_)
              refine op_call rfl rfl rfl (rf15_add _ _ (.slice xa (blkS vv.bl).length xc) (imgD l) ys ⟨o.other, qC l o, decide (o.kind = 6), blkS vv.bl⟩ (h.k (hk076.trans hS)) (hbi.keep (hk076.trans hS) (fun _ _ => trivial)) (by omega)) ?_; rintro v94 w94 ⟨⟨k, ⟨hkk, hA1, hA2⟩, hI⟩, hI2, hk94⟩
              refine ops_nil ⟨(hS.trans hk94), fun hS => ?_⟩
              refine gt_ast 15 rfl (by kernel_rfl) (by kernel_rfl) (by kernel_rfl) (by kernel_rfl) rfl hS ?_
              refine gt_past 16 (by kernel_rfl) (by kernel_rfl) (one_of rfl ?_)
              refine o_storeA (cs := ansR 0 false Bk.zero) rfl rfl (by first | rfl | exact binV_one _ | exact dgR_one _ | exact refR_one _ | exact secR_one _ | exact all_c8 _ | exact ansR_one _ _ _) (by first | rfl | (rw [binV_len]; rfl) | (rw [dgR_len]; rfl) | (rw [refR_len]; rfl) | (rw [secR_len]; rfl) | (rw [List.length_map, tagF_len]; rfl) | (rw [opR_len]; rfl) | (rw [ansR_len]; rfl) | (rw [blkR_len]; rfl)) (hS.blk' hB276 trivial) (by rw [ansR_len]; decide) rfl ?_; intro w96 hB96 hk96 hs96
              refine ops_nil ?_
              refine gt_done (by kernel_rfl) ?_
              refine W_ret ?_
              refine retTA (v94) ((ansR 0 false Bk.zero)) rfl rfl rfl rfl rfl (by first | rfl | (rw [binV_len]; rfl) | (rw [dgR_len]; rfl) | (rw [refR_len]; rfl) | (rw [secR_len]; rfl) | (rw [List.length_map, tagF_len]; rfl) | (rw [opR_len]; rfl) | (rw [ansR_len]; rfl) | (rw [blkR_len]; rfl)) ((ans_st hB96).all) ?_
              have hkZ := (hk076.trans hS).new hk96 hb2
              have hlt := hB276.lt
              have hI3 := h.ins (i := ⟨o.other, qC l o, decide (o.kind = 6), blkS vv.bl⟩) hbi hkZ hkk (hI.keep hk96 (fun z hz => by have h1 := hI2 z hz; have h2 : w76.heap.size ≤ z := h1; omega))
              have hadd := imgD_add (v := ⟨qC l o, decide (o.kind = 6), vv.bl⟩) hN.1 h6 hkk hA1 hA2
              have hI4 : ImgsS w96 v94 (imgD (l ++ [(o.other, ⟨qC l o, decide (o.kind = 6), vv.bl⟩)])) _ := hadd ▸ hI3
              have h83 : ¬ qC l o < ((blkS vv.bl).length : Int) := h83
              exact doq_to (a := Ans.no 0) (by rw [hd, copD_0 hm hv h6 (by omega)]) (by omega) hI4 hkZ
end Go.Proofs.Ytkckphbdjkjfgaa.B
