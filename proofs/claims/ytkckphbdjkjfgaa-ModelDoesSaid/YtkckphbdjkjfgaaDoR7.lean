/-
  sporranref15.Do: Write, Trim, Read.
-/
import Derived.Test.YtkckphbdjkjfgaaDoR6
namespace Go.Proofs.Ytkckphbdjkjfgaa.B
open Go
set_option linter.unusedVariables false
set_option maxHeartbeats 2000000
set_option maxRecDepth 100000
attribute [local irreducible] W OpsW OpsQ retP
/-- Where a number was found. -/
def HadP (bs : List (Int × Bk)) (n : Int) (j : Nat) (z : Int) : Prop := (z = -1 ∧ ∀ p ∈ bs.take j, p.1 ≠ n) ∨ ∃ (m : Nat) (p : Int × Bk), z = m ∧ bs[m]? = some p ∧ p.1 = n
theorem had_none {bl : List (Int × Bk)} {n z : Int} (h : HadP (blkS bl) n (blkS bl).length z) (hz : z < 0) : lookP bl n = none := by
  rcases h with ⟨_, h⟩ | ⟨m, _, e, _⟩
  · rw [List.take_length] at h
    cases hv : lookP bl n with
    | none => rfl
    | some b => exact absurd rfl (h (n, b) (blkS_mem.2 hv))
  · omega
theorem had_some {bl : List (Int × Bk)} {n z : Int} {j : Nat} (h : HadP (blkS bl) n j z) (hz : ¬ z < 0) : ∃ (m : Nat) (p : Int × Bk), z = m ∧ (blkS bl)[m]? = some p ∧ lookP bl n = some p.2 := by
  rcases h with ⟨h, _⟩ | ⟨m, p, e, h1, h2⟩
  · omega
  · exact ⟨m, p, e, h1, by rw [← h2]; exact blkS_mem.1 (List.mem_of_getElem? h1)⟩
theorem doB {l : AL} {o : OpV} (h : o.kind = 3 ∨ o.kind = 4 ∨ o.kind = 5) : doD l o = blockD l o := doD_blk h
theorem blk_e5 {l : AL} {o : OpV} (hv : lookP l o.name = none) : blockD l o = (Ans.no 5, l) := by
  have : findD l o = 5 := by unfold findD; rw [hv]
  rw [blockD_err (by rw [this]; decide), this]
theorem findD_v {l : AL} {o : OpV} {v : VA} (hv : lookP l o.name = some v) : findD l o = if o.number < 0 ∨ 1048576 ≤ o.number then 2 else if v.fr = true ∧ o.kind ≠ 5 then 10 else 0 := by unfold findD; rw [hv]
theorem blk_e2 {l : AL} {o : OpV} {v : VA} (hv : lookP l o.name = some v) (h : o.number < 0 ∨ 1048576 ≤ o.number) : blockD l o = (Ans.no 2, l) := by
  have : findD l o = 2 := by rw [findD_v hv, if_pos h]
  rw [blockD_err (by rw [this]; decide), this]
theorem blk_e10 {l : AL} {o : OpV} {v : VA} (hv : lookP l o.name = some v) (h : ¬ (o.number < 0 ∨ 1048576 ≤ o.number)) (h5 : o.kind ≠ 5) (hf : v.fr = true) : blockD l o = (Ans.no 10, l) := by
  have : findD l o = 10 := by rw [findD_v hv, if_neg h, if_pos ⟨hf, h5⟩]
  rw [blockD_err (by rw [this]; decide), this]
theorem find_0 {l : AL} {o : OpV} {v : VA} (hv : lookP l o.name = some v) (h : ¬ (o.number < 0 ∨ 1048576 ≤ o.number)) (hf : ¬ (v.fr = true ∧ o.kind ≠ 5)) : findD l o = 0 := by rw [findD_v hv, if_neg h, if_neg hf]
theorem rows_set3 : ∀ {ys : List (Img × Value)} {k : Nat} {i i' : Img} {x u : Value}, ys[k]? = some (i, x) → i'.nm = i.nm → i'.q = i.q → i'.fr = i.fr → (rows imR ys).set (k * 4 + 3) u = rows imR (ys.set k (i', u))
  | [], _, _, _, _, _, h, _, _, _ => by cases h
  | y :: ys, 0, i, i', x, u, h, h1, h2, h3 => by
    have h : y = (i, x) := by simpa using h
    subst h
    rw [List.set_cons_zero, rows_cons, rows_cons, List.set_append_left _ _ (by rw [imR_len]; decide)]
    unfold imR
    rw [h1, h2, h3]; rfl
  | y :: ys, k + 1, i, i', x, u, h, h1, h2, h3 => by
    rw [List.getElem?_cons_succ] at h
    rw [List.set_cons_succ, rows_cons, rows_cons, List.set_append_right _ _ (by rw [imR_len]; omega), imR_len, show (k + 1) * 4 + 3 - 4 = k * 4 + 3 by omega, rows_set3 h h1 h2 h3]
theorem fin_len (n : Int) (b : Bk) (tr : Bool) (l : List (Int × Bk)) : (finN n b tr l).length ≤ l.length + 1 := by
  unfold finN
  have h := accN_len n b tr l
  split
  · rename_i e
    rw [List.length_append]
    have := h.2 e
    simp; omega
  · exact h.1
theorem rf15_Do345 (w : World) (v : Value) (l : AL) (ys : List (Img × Value)) (o : OpV) (h : ImgsS w v (imgD l) ys) (hN : NdA l) (hl : l.length ≤ 1000) (hbk : BlkN 1000 l) (hk : o.kind = 3 ∨ o.kind = 4 ∨ o.kind = 5) :
    Ret Try.prog 19 [v, .agg (opR o).toArray].toArray w (DoQR w l o) := by
  have hil := imgD_len l
  have hd := doB (l := l) hk
  have hn8 : o.kind ≠ 8 := by omega
  obtain ⟨a0, c0, rfl, hc0, hca⟩ := h.o.form
  refine enter (fn := Try.f19) (n := 306) Try.func19 rfl rfl (by simp) ?_
  refine W_seq ?_
  refine W_region ?_
  refine o_box rfl rfl rfl ?_; intro w1 b1 e1 hB1 hk1 hs1
  have hB1 : Blk w1 b1 (opR o) 26 := hB1
  refine o_asc rfl ?_
  refine o_alloc rfl rfl rfl ?_; intro w2 b2 e2 hB2 hk2 hs2
  have hB2 : Blk w2 b2 (ansR 0 false Bk.zero) 34 := hB2
  have hk02 := hk1.trans hk2
  have hB12 := hk2.blk' hB1 trivial
  refine ops_nil ?_
  refine W_seq ?_
  refine W_region ?_
  refine o_mvt rfl ?_
  refine op_run (r_fieldAddr rfl rfl rfl rfl rfl) rfl ?_
  refine op_run (r_load rfl rfl rfl (hB12.cell rfl)) rfl ?_
  refine op_call rfl rfl rfl (rf15_Find w2 _ (imgD l) ys o.name (h.k hk02)) ?_; rintro v4 w4 ⟨⟨z, rfl, hz⟩, hk4⟩
  have hk04 := hk02.trans hk4
  have hB14 := hk4.blk' hB12 trivial
  have hB24 := hk4.blk' hB2 trivial
  have hb2 : w.heap.size ≤ b2 := by have := hk1.size; omega
  have hb12 : b1 < b2 := by have := hB1.lt; omega
  have hzz := find_case hz
  refine o_ast rfl ?_
  refine ops_nil ?_
  refine W_seq ?_
  refine W_seq ?_
  refine W_region ?_
  refine op_run (r_fieldAddr rfl rfl rfl rfl rfl) rfl ?_
  refine op_run (r_load rfl rfl rfl (hB14.cell rfl)) rfl ?_
  refine op_run (r_eql rfl rfl) rfl ?_
  refine ops_nil ?_
  refine W_no rfl (decide_eq_false (by omega)) ?_
  refine W_skip ?_
  refine W_seq ?_
  refine W_seq ?_
  refine W_region ?_
  refine op_run (r_fieldAddr rfl rfl rfl rfl rfl) rfl ?_
  refine op_run (r_load rfl rfl rfl (hB14.cell rfl)) rfl ?_
  refine op_run (r_eql rfl rfl) rfl ?_
  refine ops_nil ?_
  refine W_no rfl (decide_eq_false (by omega)) ?_
  refine W_skip ?_
  refine W_seq ?_
  refine W_cut [73] [66, 67, 68, 69, 70, 71, 72, 73] (fun vs w46 => vs = [.bool false] ∧ w46 = w4) ?_ ?_
  · refine W_region ?_
    refine op_run (r_fieldAddr rfl rfl rfl rfl rfl) rfl ?_
    refine op_run (r_load rfl rfl rfl (hB14.cell rfl)) rfl ?_
    refine op_run (r_eql rfl rfl) rfl ?_
    refine o_mvt rfl ?_
    refine g_split rfl rfl rfl (fun g48 => ?_) (fun g => absurd g (by rw [decide_eq_false (show ¬ o.kind = 6 by omega)]; decide))
    refine op_run (r_fieldAddr rfl rfl rfl rfl rfl) (g_yes rfl rfl rfl g48) ?_
    refine op_run (r_load rfl rfl rfl (hB14.cell rfl)) (g_yes rfl rfl rfl g48) ?_
    refine op_run (r_eql rfl rfl) (g_yes rfl rfl rfl g48) ?_
    refine o_pkFt rfl g48 rfl ?_
    refine ops_nil ?_
    exact ⟨by (repeat (first | with_reducible exact offM_refl _ _ | refine offM_updc rfl ?_ | refine offM_upd rfl ?_ | refine offM_updo rfl ?_ | refine offM_updo_none ?_ | refine offM_head rfl rfl ?_)), congrArg (fun b => [Value.bool b]) (decide_eq_false (by omega)), rfl⟩
  · rintro J51 vs w51 ⟨rfl, rfl⟩ -
    refine W_no rfl (rfl) ?_
    refine W_skip ?_
    refine W_seq ?_
    refine W_cut [136] [129, 130, 131, 132, 133, 134, 135, 136] (fun vs w158 => vs = [.bool false] ∧ w158 = w51) ?_ ?_
    · refine W_region ?_
      refine op_run (r_fieldAddr rfl rfl rfl rfl rfl) rfl ?_
      refine op_run (r_load rfl rfl rfl (hB14.cell rfl)) rfl ?_
      refine op_run (r_lss rfl rfl) rfl ?_
      refine o_mvt rfl ?_
      refine g_split rfl rfl rfl (fun g160 => ?_) (fun g => absurd g (by rw [decide_eq_false (show ¬ o.kind < 1 by omega)]; decide))
      refine op_run (r_fieldAddr rfl rfl rfl rfl rfl) (g_yes rfl rfl rfl g160) ?_
      refine op_run (r_load rfl rfl rfl (hB14.cell rfl)) (g_yes rfl rfl rfl g160) ?_
      refine op_run (r_gtr rfl rfl) (g_yes rfl rfl rfl g160) ?_
      refine o_pkFt rfl g160 rfl ?_
      refine ops_nil ?_
      exact ⟨by (repeat (first | with_reducible exact offM_refl _ _ | refine offM_updc rfl ?_ | refine offM_upd rfl ?_ | refine offM_updo rfl ?_ | refine offM_updo_none ?_ | refine offM_head rfl rfl ?_)), congrArg (fun b => [Value.bool b]) (decide_eq_false (by omega)), rfl⟩
    · rintro J163 vs w163 ⟨rfl, rfl⟩ -
      refine W_no rfl (rfl) ?_
      refine W_skip ?_
      refine W_seq ?_
      refine W_seq ?_
      refine W_region ?_
      refine o_mvt rfl ?_
      refine op_run (r_lss rfl rfl) rfl ?_
      refine ops_nil ?_
      refine W_cond_p rfl (fun h168 => ?_) (fun h168 => ?_)
      · refine W_seq ?_
        refine W_region ?_
        refine o_mvt rfl ?_
        have hn : lookP l o.name = none := by
          rcases hzz with ⟨e, _⟩ | ⟨_, _, _, e, _⟩
          · exact e
          · omega
        refine op_run (r_build (ansR 5 false Bk.zero) (_) ([(0, .int .i64 5)]) rfl rfl rfl rfl rfl (rfl)) rfl ?_
        refine o_ast rfl ?_
        refine o_storeA (cs := ansR 5 false Bk.zero) rfl rfl (by first | rfl | exact binV_one _ | exact dgR_one _ | exact refR_one _ | exact secR_one _ | exact all_c8 _ | exact ansR_one _ _ _ | exact nbR_one _) (by first | rfl | (rw [binV_len]; rfl) | (rw [dgR_len]; rfl) | (rw [refR_len]; rfl) | (rw [secR_len]; rfl) | (rw [List.length_map, tagF_len]; rfl) | (rw [opR_len]; rfl) | (rw [ansR_len]; rfl) | (rw [blkR_len]; rfl) | (rw [nbR_len]; rfl)) hB24 (by rw [ansR_len]; decide) rfl ?_; intro w170 hB170 hk170 hs170
        refine ops_nil ?_
        refine W_ret ?_
        refine retTA (_) ((ansR 5 false Bk.zero)) rfl rfl rfl rfl rfl (by first | rfl | (rw [binV_len]; rfl) | (rw [dgR_len]; rfl) | (rw [refR_len]; rfl) | (rw [secR_len]; rfl) | (rw [List.length_map, tagF_len]; rfl) | (rw [opR_len]; rfl) | (rw [ansR_len]; rfl) | (rw [blkR_len]; rfl) | (rw [nbR_len]; rfl)) ((ans_st hB170).all) ?_
        have hkZ := hk04.new hk170 hb2
        exact doq_same (a := Ans.no 5) (by rw [hd, blk_e5 hn]) hn8 (h.k hkZ) hkZ
      · refine W_skip ?_
        refine W_seq ?_
        refine W_seq ?_
        refine W_region ?_
        refine op_run (r_fieldAddr rfl rfl rfl rfl rfl) rfl ?_
        obtain ⟨vv, ki, hv, rfl, hki⟩ : ∃ (v : VA) (k : Nat), lookP l o.name = some v ∧ z = k ∧ (imgD l)[k]? = some ⟨o.name, v.q, v.fr, blkS v.bl⟩ := by
          rcases hzz with ⟨_, e⟩ | hh
          · omega
          · exact hh
        have hkil := (List.getElem?_eq_some_iff.1 hki).1
        obtain ⟨i0, x0, bi, oi, ci, hy0, hi0, ei0, hci, hbi⟩ := h.at hkil
        rw [hki] at hi0
        cases hi0
        cases ei0
        obtain ⟨xa, xc, exa, _, _⟩ := hbi.form
        subst exa
        have hbe : (Img.mk o.name vv.q vv.fr (blkS vv.bl)).bl.length = (blkS vv.bl).length := rfl
        have hvb := (hN.2 _ (lookP_mem hv))
        have hbn := hbk _ (lookP_mem hv)
        have hblen : (blkS vv.bl).length = vv.bl.length := blkS_len _
        have hbl : vv.bl.length ≤ 1000 := hbn.1
        refine op_run (r_load rfl rfl rfl (hB14.cell rfl)) rfl ?_
        refine op_run (r_eql rfl rfl) rfl ?_
        refine ops_nil ?_
        refine W_no rfl (decide_eq_false (by omega)) ?_
        refine W_skip ?_
        refine W_seq ?_
        refine W_cut [164] [157, 158, 159, 160, 161, 162, 163, 164] (fun vs w184 => vs = [.bool (decide (o.number < 0 ∨ 1048576 ≤ o.number))] ∧ w184 = w163) ?_ ?_
        · refine W_region ?_
          refine op_run (r_fieldAddr rfl rfl rfl rfl rfl) rfl ?_
          refine op_run (r_load rfl rfl rfl (hB14.cell rfl)) rfl ?_
          refine op_run (r_lss rfl rfl) rfl ?_
          refine o_mvt rfl ?_
          refine g_split rfl rfl rfl (fun g186 => ?_) (fun g186 => ?_)
          · refine op_run (r_fieldAddr rfl rfl rfl rfl rfl) (g_yes rfl rfl rfl g186) ?_
            refine op_run (r_load rfl rfl rfl (hB14.cell rfl)) (g_yes rfl rfl rfl g186) ?_
            refine op_run (r_geq rfl rfl) (g_yes rfl rfl rfl g186) ?_
            refine o_pkFt rfl g186 rfl ?_
            refine ops_nil ?_
            exact ⟨by (repeat (first | with_reducible exact offM_refl _ _ | refine offM_updc rfl ?_ | refine offM_upd rfl ?_ | refine offM_updo rfl ?_ | refine offM_updo_none ?_ | refine offM_head rfl rfl ?_)), congrArg (fun b => [Value.bool b]) (by have g := of_decide_eq_false g186; rw [decide_eq_decide]; constructor <;> intro h <;> omega), rfl⟩
          · refine op_skip (g_no rfl rfl rfl g186) ?_
            refine op_skip (g_no rfl rfl rfl g186) ?_
            refine op_skip (g_no rfl rfl rfl g186) ?_
            refine o_pkTc rfl g186 rfl ?_
            refine ops_nil ?_
            exact ⟨by (repeat (first | with_reducible exact offM_refl _ _ | refine offM_updc rfl ?_ | refine offM_upd rfl ?_ | refine offM_updo rfl ?_ | refine offM_updo_none ?_ | refine offM_head rfl rfl ?_)), congrArg (fun b => [Value.bool b]) (by have g := of_decide_eq_true g186; symm; apply decide_eq_true; omega), rfl⟩
        · rintro J190 vs w190 ⟨rfl, rfl⟩ -
          refine W_cond_p rfl (fun h191 => ?_) (fun h191 => ?_)
          · refine W_seq ?_
            refine W_region ?_
            refine o_mvt rfl ?_
            refine op_run (r_build (ansR 2 false Bk.zero) (_) ([(0, .int .i64 2)]) rfl rfl rfl rfl rfl (rfl)) rfl ?_
            refine o_ast rfl ?_
            refine o_storeA (cs := ansR 2 false Bk.zero) rfl rfl (by first | rfl | exact binV_one _ | exact dgR_one _ | exact refR_one _ | exact secR_one _ | exact all_c8 _ | exact ansR_one _ _ _ | exact nbR_one _) (by first | rfl | (rw [binV_len]; rfl) | (rw [dgR_len]; rfl) | (rw [refR_len]; rfl) | (rw [secR_len]; rfl) | (rw [List.length_map, tagF_len]; rfl) | (rw [opR_len]; rfl) | (rw [ansR_len]; rfl) | (rw [blkR_len]; rfl) | (rw [nbR_len]; rfl)) hB24 (by rw [ansR_len]; decide) rfl ?_; intro w193 hB193 hk193 hs193
            refine ops_nil ?_
            refine W_ret ?_
            refine retTA (_) ((ansR 2 false Bk.zero)) rfl rfl rfl rfl rfl (by first | rfl | (rw [binV_len]; rfl) | (rw [dgR_len]; rfl) | (rw [refR_len]; rfl) | (rw [secR_len]; rfl) | (rw [List.length_map, tagF_len]; rfl) | (rw [opR_len]; rfl) | (rw [ansR_len]; rfl) | (rw [blkR_len]; rfl) | (rw [nbR_len]; rfl)) ((ans_st hB193).all) ?_
            have hkZ := hk04.new hk193 hb2
            exact doq_same (a := Ans.no 2) (by rw [hd, blk_e2 hv h191]) hn8 (h.k hkZ) hkZ
          · refine W_skip ?_
            refine W_seq ?_
            refine W_region ?_
            refine o_asc rfl ?_
            refine ops_nil ?_
            refine W_seq ?_
            refine W_seq ?_
            refine W_region ?_
            refine o_asc rfl ?_
            refine ops_nil ?_
            refine W_block ?_
            refine W_loop [10, 11] [10, 11, 167, 168, 169, 170, 171, 172, 173, 174, 175, 176, 177, 178, 179, 180, 181, 182, 183, 184, 185, 186, 187, 188, 189] (fun vs w' => ∃ (z : Int) (j : Nat), vs = [.int .i64 z, .int .i64 j] ∧ j ≤ (blkS vv.bl).length ∧ HadP (blkS vv.bl) o.number j z ∧ Keep All w190 w') (fun vs _ => match vs with | [_, .int _ y] => (blkS vv.bl).length - y.toNat | _ => 0) ⟨-1, 0, rfl, Nat.zero_le _, .inl ⟨rfl, fun p hp => by cases hp⟩, Keep.refl _⟩ ?_
            rintro J195 vs w195 ⟨had, j, rfl, hj, hH, hkJ⟩ -
            have hk0J := hk04.trans hkJ
            refine W_seq ?_
            refine W_seq ?_
            refine W_region ?_
            refine o_mvt rfl ?_
            refine o_mvt rfl ?_
            refine o_mvt rfl ?_
            refine op_run (r_idxS rfl rfl rfl rfl (by omega) (by omega)) rfl ?_
            refine op_run (r_fieldAddr rfl rfl rfl rfl rfl) rfl ?_
            refine op_run (r_load rfl rfl rfl (by rw [Int.toNat_natCast]; exact hk0J.cell (hci 3 _ rfl) trivial)) rfl ?_
            refine op_run (r_len rfl rfl rfl) rfl ?_
            refine op_run (r_lss rfl rfl) rfl ?_
            refine ops_nil ?_
            refine W_cond_p rfl (fun h198 => ?_) (fun h198 => ?_)
            · refine W_skip ?_
              refine W_seq ?_
              refine W_block ?_
              refine W_seq ?_
              have hjl : j < (blkS vv.bl).length := by omega
              obtain ⟨p, pb, po, pc, hp, ep, hcp⟩ := nb_at hbi hjl
              cases ep
              have hinc2 := inc64' j (by omega)
              refine W_quiet (Keep All w195) (by kernel_rfl) (by kernel_rfl) (Keep.drawn _) ?_
              refine q_mvt rfl ?_
              refine q_mvt rfl ?_
              refine q_run (fun _ _ => r_idxS rfl rfl rfl rfl (by omega) (by omega)) rfl ?_
              refine q_run (fun _ _ => (r_fieldAddr rfl rfl rfl rfl rfl)) rfl ?_
              refine q_run (fun _ hk => r_load rfl rfl rfl (hk.cell (by rw [Int.toNat_natCast]; exact hk0J.cell (hci 3 _ rfl) trivial) trivial)) rfl ?_
              refine q_mvt rfl ?_
              refine q_run (fun _ _ => r_idxS rfl rfl rfl rfl (by omega) (by omega)) rfl ?_
              refine q_run (fun _ _ => (r_fieldAddr rfl rfl rfl rfl rfl)) rfl ?_
              refine q_run (fun _ hk => r_load rfl rfl rfl (hk.cell (by rw [Int.toNat_natCast]; have h := hcp 0 _ rfl; rw [Addr.add_lit] at h; exact hk0J.cell h trivial) trivial)) rfl ?_
              refine q_run (fun _ _ => (r_fieldAddr rfl rfl rfl rfl rfl)) rfl ?_
              refine q_run (fun _ hk => r_load rfl rfl rfl (hk.cell ((hkJ.blk' hB14 trivial).cell rfl) trivial)) rfl ?_
              refine q_run (fun _ _ => (r_eql rfl rfl)) rfl ?_
              refine q_nil ?_; intro w205 hk205
              refine W_cond_p rfl (fun h206 => ?_) (fun h206 => ?_)
              · refine W_region ?_
                refine o_mvt rfl ?_
                refine o_ast rfl ?_
                refine ops_nil ?_
                refine W_region ?_
                refine o_mvt rfl ?_
                refine op_run (r_add rfl rfl) rfl ?_
                refine o_ast rfl ?_
                refine ops_nil ?_
                refine ⟨by (repeat (first | with_reducible exact offM_refl _ _ | refine offM_updc rfl ?_ | refine offM_upd rfl ?_ | refine offM_updo rfl ?_ | refine offM_updo_none ?_ | refine offM_head rfl rfl ?_)), ⟨j, j + 1, congrArg (fun z : Int => [_, Value.int .i64 z]) hinc2, by omega, .inr ⟨j, p, rfl, hp, h206⟩, hkJ.trans hk205⟩, ?_⟩
                show (blkS vv.bl).length - (IntKind.i64.wrap ((j : Int) + 1)).toNat < (blkS vv.bl).length - (j : Int).toNat
                rw [hinc2]; omega
              · refine W_skip ?_
                refine W_region ?_
                refine o_mvt rfl ?_
                refine op_run (r_add rfl rfl) rfl ?_
                refine o_ast rfl ?_
                refine ops_nil ?_
                refine ⟨by (repeat (first | with_reducible exact offM_refl _ _ | refine offM_updc rfl ?_ | refine offM_upd rfl ?_ | refine offM_updo rfl ?_ | refine offM_updo_none ?_ | refine offM_head rfl rfl ?_)), ⟨had, j + 1, congrArg (fun z : Int => [_, Value.int .i64 z]) hinc2, by omega, ?_, hkJ.trans hk205⟩, ?_⟩
                · rcases hH with ⟨h1, h2⟩ | hh
                  · refine .inl ⟨h1, fun q hq => ?_⟩
                    rw [List.take_succ_eq_append_getElem hjl, (List.getElem?_eq_some_iff.1 hp).2] at hq
                    rcases List.mem_append.1 hq with hq | hq
                    · exact h2 q hq
                    · rw [List.mem_singleton.1 hq]; exact h206
                  · exact .inr hh
                · show (blkS vv.bl).length - (IntKind.i64.wrap ((j : Int) + 1)).toNat < (blkS vv.bl).length - (j : Int).toNat
                  rw [hinc2]; omega
            · refine W_exit ?_
              refine W_seq ?_
              refine W_seq ?_
              refine W_region ?_
              refine op_run (r_fieldAddr rfl rfl rfl rfl rfl) rfl ?_
              have hje : j = (blkS vv.bl).length := by omega
              rw [hje] at hH
              have hB1J := hkJ.blk' hB14 trivial
              have hB2J := hkJ.blk' hB24 trivial
              refine op_run (r_load rfl rfl rfl (hB1J.cell rfl)) rfl ?_
              refine op_run (r_eql rfl rfl) rfl ?_
              refine ops_nil ?_
              refine W_cond_p rfl (fun h210 => ?_) (fun h210 => ?_)
              · refine W_seq ?_
                refine W_seq ?_
                refine W_region ?_
                refine o_mvt rfl ?_
                refine op_run (r_lss rfl rfl) rfl ?_
                refine ops_nil ?_
                refine W_cond_p rfl (fun h211 => ?_) (fun h211 => ?_)
                · refine W_seq ?_
                  refine W_region ?_
                  refine o_mvt rfl ?_
                  have hno := had_none hH h211
                  refine op_run (r_build (ansR 0 false Bk.zero) (_) ([]) rfl rfl rfl rfl rfl (rfl)) rfl ?_
                  refine o_ast rfl ?_
                  refine o_storeA (cs := ansR 0 false Bk.zero) rfl rfl (by first | rfl | exact binV_one _ | exact dgR_one _ | exact refR_one _ | exact secR_one _ | exact all_c8 _ | exact ansR_one _ _ _ | exact nbR_one _) (by first | rfl | (rw [binV_len]; rfl) | (rw [dgR_len]; rfl) | (rw [refR_len]; rfl) | (rw [secR_len]; rfl) | (rw [List.length_map, tagF_len]; rfl) | (rw [opR_len]; rfl) | (rw [ansR_len]; rfl) | (rw [blkR_len]; rfl) | (rw [nbR_len]; rfl)) hB2J (by rw [ansR_len]; decide) rfl ?_; intro w213 hB213 hk213 hs213
                  refine ops_nil ?_
                  refine W_ret ?_
                  refine retTA (_) ((ansR 0 false Bk.zero)) rfl rfl rfl rfl rfl (by first | rfl | (rw [binV_len]; rfl) | (rw [dgR_len]; rfl) | (rw [refR_len]; rfl) | (rw [secR_len]; rfl) | (rw [List.length_map, tagF_len]; rfl) | (rw [opR_len]; rfl) | (rw [ansR_len]; rfl) | (rw [blkR_len]; rfl) | (rw [nbR_len]; rfl)) ((ans_st hB213).all) ?_
                  have hkZ := hk0J.new hk213 hb2
                  exact doq_same (a := ⟨0, false, Bk.zero⟩) (by rw [hd, blockD_ok (find_0 hv h191 (fun hh => hh.2 h210)) hv, if_pos h210, hno]; rfl) hn8 (h.k hkZ) hkZ
                · refine W_skip ?_
                  refine W_seq ?_
                  obtain ⟨m, p, rfl, hp, hlk⟩ := had_some hH h211
                  have hml := (List.getElem?_eq_some_iff.1 hp).1
                  obtain ⟨p', pb, po, pc, hp', ep, hcp⟩ := nb_at hbi hml
                  cases ep
                  obtain rfl : p = p' := by rw [hp] at hp'; exact Option.some.inj hp'
                  refine W_gate 12 (fun w' => Keep All w195 w') (by kernel_rfl) (Keep.drawn w195) (fun hS => ?_)
                  refine gt_mvt 0 rfl (by kernel_rfl) (by kernel_rfl) (by kernel_rfl) (by kernel_rfl) rfl hS ?_
                  refine gt_mvt 1 rfl (by kernel_rfl) (by kernel_rfl) (by kernel_rfl) (by kernel_rfl) rfl hS ?_
                  refine gt_mvt 2 rfl (by kernel_rfl) (by kernel_rfl) (by kernel_rfl) (by kernel_rfl) rfl hS ?_
                  refine gt_run 3 (fun w' hS' => (r_idxS rfl rfl rfl rfl (by omega) (by omega))) rfl (by kernel_rfl) (by kernel_rfl) (by kernel_rfl) (by kernel_rfl) rfl hS ?_
                  refine gt_run 4 (fun w' hS' => (r_fieldAddr rfl rfl rfl rfl rfl)) rfl (by kernel_rfl) (by kernel_rfl) (by kernel_rfl) (by kernel_rfl) rfl hS ?_
                  refine gt_run 5 (fun w' hS' => (r_load rfl rfl rfl ((by rw [Int.toNat_natCast]; exact hS'.cell (hk0J.cell (hci 3 _ rfl) trivial) trivial)))) rfl (by kernel_rfl) (by kernel_rfl) (by kernel_rfl) (by kernel_rfl) rfl hS ?_
                  refine gt_mvt 6 rfl (by kernel_rfl) (by kernel_rfl) (by kernel_rfl) (by kernel_rfl) rfl hS ?_
                  refine gt_run 7 (fun w' hS' => (r_idxS rfl rfl rfl rfl (by omega) (by omega))) rfl (by kernel_rfl) (by kernel_rfl) (by kernel_rfl) (by kernel_rfl) rfl hS ?_
                  refine gt_run 8 (fun w' hS' => (r_fieldAddr rfl rfl rfl rfl rfl)) rfl (by kernel_rfl) (by kernel_rfl) (by kernel_rfl) (by kernel_rfl) rfl hS ?_
                  refine gt_run 9 (fun w' hS' => (r_loadA (blkR p.2) rfl rfl rfl (by first | rfl | (rw [binV_len]; rfl) | (rw [dgR_len]; rfl) | (rw [refR_len]; rfl) | (rw [secR_len]; rfl) | (rw [List.length_map, tagF_len]; rfl) | (rw [opR_len]; rfl) | (rw [ansR_len]; rfl) | (rw [blkR_len]; rfl) | (rw [nbR_len]; rfl)) ((fun m u hm => by rw [Int.toNat_natCast, Addr.add_lit]; have h := hcp (1 + m) u (nbR_blk hm); rw [Addr.add_lit, ← Nat.add_assoc] at h; exact hS'.cell (hk0J.cell h trivial) trivial)))) rfl (by kernel_rfl) (by kernel_rfl) (by kernel_rfl) (by kernel_rfl) rfl hS ?_
                  refine gt_run 10 (fun w' hS' => (r_build (ansR 0 true p.2) (_) ([(1, .bool true), (2, bkV p.2)]) rfl rfl rfl rfl rfl (fill_ans rfl rfl))) rfl (by kernel_rfl) (by kernel_rfl) (by kernel_rfl) (by kernel_rfl) rfl hS ?_
                  refine gt_ast 11 rfl (by kernel_rfl) (by kernel_rfl) (by kernel_rfl) (by kernel_rfl) rfl hS ?_
                  refine gt_past 12 (by kernel_rfl) (by kernel_rfl) (one_of rfl ?_)
                  refine o_storeA (cs := ansR 0 true p.2) rfl rfl (by first | rfl | exact binV_one _ | exact dgR_one _ | exact refR_one _ | exact secR_one _ | exact all_c8 _ | exact ansR_one _ _ _ | exact nbR_one _) (by first | rfl | (rw [binV_len]; rfl) | (rw [dgR_len]; rfl) | (rw [refR_len]; rfl) | (rw [secR_len]; rfl) | (rw [List.length_map, tagF_len]; rfl) | (rw [opR_len]; rfl) | (rw [ansR_len]; rfl) | (rw [blkR_len]; rfl) | (rw [nbR_len]; rfl)) (hS.blk' hB2J trivial) (by rw [ansR_len, ansR_len]; decide) rfl ?_; intro w221 hB221 hk221 hs221
                  refine ops_nil ?_
                  refine gt_done (by kernel_rfl) ?_
                  refine W_ret ?_
                  refine retTA (_) ((ansR 0 true p.2)) rfl rfl rfl rfl rfl (by first | rfl | (rw [binV_len]; rfl) | (rw [dgR_len]; rfl) | (rw [refR_len]; rfl) | (rw [secR_len]; rfl) | (rw [List.length_map, tagF_len]; rfl) | (rw [opR_len]; rfl) | (rw [ansR_len]; rfl) | (rw [blkR_len]; rfl) | (rw [nbR_len]; rfl)) ((ans_st hB221).all) ?_
                  have hkZ := (hk0J.trans hS).new hk221 hb2
                  exact doq_same (a := ⟨0, true, p.2⟩) (by rw [hd, blockD_ok (find_0 hv h191 (fun hh => hh.2 h210)) hv, if_pos h210, hlk]; rfl) hn8 (h.k hkZ) hkZ
              · refine W_skip ?_
                refine W_seq ?_
                refine W_seq ?_
                refine W_region ?_
                refine o_mvt rfl ?_
                refine o_mvt rfl ?_
                refine op_run (r_idxS rfl rfl rfl rfl (by omega) (by omega)) rfl ?_
                refine op_run (r_fieldAddr rfl rfl rfl rfl rfl) rfl ?_
                refine op_run (r_load rfl rfl rfl (by rw [Int.toNat_natCast]; exact hk0J.cell (hci 2 _ rfl) trivial)) rfl ?_
                refine ops_nil ?_
                refine W_cond rfl (fun h225 => ?_) (fun h225 => ?_)
                · refine W_seq ?_
                  refine W_region ?_
                  refine o_mvt rfl ?_
                  refine op_run (r_build (ansR 10 false Bk.zero) (_) ([(0, .int .i64 10)]) rfl rfl rfl rfl rfl (rfl)) rfl ?_
                  refine o_ast rfl ?_
                  refine o_storeA (cs := ansR 10 false Bk.zero) rfl rfl (by first | rfl | exact binV_one _ | exact dgR_one _ | exact refR_one _ | exact secR_one _ | exact all_c8 _ | exact ansR_one _ _ _ | exact nbR_one _) (by first | rfl | (rw [binV_len]; rfl) | (rw [dgR_len]; rfl) | (rw [refR_len]; rfl) | (rw [secR_len]; rfl) | (rw [List.length_map, tagF_len]; rfl) | (rw [opR_len]; rfl) | (rw [ansR_len]; rfl) | (rw [blkR_len]; rfl) | (rw [nbR_len]; rfl)) hB2J (by rw [ansR_len]; decide) rfl ?_; intro w227 hB227 hk227 hs227
                  refine ops_nil ?_
                  refine W_ret ?_
                  refine retTA (_) ((ansR 10 false Bk.zero)) rfl rfl rfl rfl rfl (by first | rfl | (rw [binV_len]; rfl) | (rw [dgR_len]; rfl) | (rw [refR_len]; rfl) | (rw [secR_len]; rfl) | (rw [List.length_map, tagF_len]; rfl) | (rw [opR_len]; rfl) | (rw [ansR_len]; rfl) | (rw [blkR_len]; rfl) | (rw [nbR_len]; rfl)) ((ans_st hB227).all) ?_
                  have hkZ := hk0J.new hk227 hb2
                  exact doq_same (a := Ans.no 10) (by rw [hd, blk_e10 hv h191 h210 h225]) hn8 (h.k hkZ) hkZ
                · refine W_skip ?_
                  refine W_seq ?_
                  have hf0 := find_0 (o := o) hv h191 (fun hh => by have h1 := hh.1; have h2 : vv.fr = false := h225; rw [h2] at h1; cases h1)
                  refine W_cut [235] [215, 216, 217, 218, 219, 220, 221, 222, 223, 224, 225, 226, 227, 228, 229, 230, 231, 232, 233, 234, 235] (fun vs w229 => vs = [.bool (decide (o.kind = 3 ∧ had < 0 ∧ vv.q ≤ vv.bl.length))] ∧ Keep All w195 w229) ?_ ?_
                  · refine W_quiet (Keep All w195) (by kernel_rfl) (by kernel_rfl) (Keep.drawn _) ?_
                    refine q_run (fun _ _ => (r_fieldAddr rfl rfl rfl rfl rfl)) rfl ?_
                    refine q_run (fun _ hk => r_load rfl rfl rfl (hk.cell (hB1J.cell rfl) trivial)) rfl ?_
                    refine q_run (fun _ _ => (r_eql rfl rfl)) rfl ?_
                    refine q_mvt rfl ?_
                    refine q_split rfl rfl rfl (fun g232 => ?_) (fun g232 => ?_)
                    · refine q_mvt (g_yes rfl rfl rfl g232) ?_
                      refine q_run (fun _ _ => (r_lss rfl rfl)) (g_yes rfl rfl rfl g232) ?_
                      refine q_pkTt rfl g232 rfl ?_
                      refine q_mvt rfl ?_
                      refine q_split rfl rfl rfl (fun g233 => ?_) (fun g233 => ?_)
                      · refine q_mvt (g_yes rfl rfl rfl g233) ?_
                        refine q_mvt (g_yes rfl rfl rfl g233) ?_
                        refine q_run (fun _ _ => r_idxS rfl rfl rfl rfl (by omega) (by omega)) (g_yes rfl rfl rfl g233) ?_
                        refine q_run (fun _ _ => (r_fieldAddr rfl rfl rfl rfl rfl)) (g_yes rfl rfl rfl g233) ?_
                        refine q_run (fun _ hk => r_load rfl rfl rfl (hk.cell (by rw [Int.toNat_natCast]; exact hk0J.cell (hci 3 _ rfl) trivial) trivial)) (g_yes rfl rfl rfl g233) ?_
                        refine q_run (fun _ _ => (r_len rfl rfl rfl)) (g_yes rfl rfl rfl g233) ?_
                        refine q_mvt (g_yes rfl rfl rfl g233) ?_
                        refine q_mvt (g_yes rfl rfl rfl g233) ?_
                        refine q_run (fun _ _ => r_idxS rfl rfl rfl rfl (by omega) (by omega)) (g_yes rfl rfl rfl g233) ?_
                        refine q_run (fun _ _ => (r_fieldAddr rfl rfl rfl rfl rfl)) (g_yes rfl rfl rfl g233) ?_
                        refine q_run (fun _ hk => r_load rfl rfl rfl (hk.cell (by rw [Int.toNat_natCast]; exact hk0J.cell (hci 1 _ rfl) trivial) trivial)) (g_yes rfl rfl rfl g233) ?_
                        refine q_run (fun _ _ => (r_geq rfl rfl)) (g_yes rfl rfl rfl g233) ?_
                        refine q_pkTt rfl g233 rfl ?_
                        refine q_nil ?_; intro w238 hk238
                        exact ⟨by (repeat (first | with_reducible exact offM_refl _ _ | refine offM_updc rfl ?_ | refine offM_upd rfl ?_ | refine offM_updo rfl ?_ | refine offM_updo_none ?_ | refine offM_head rfl rfl ?_)), congrArg (fun b => [Value.bool b]) (by have g1 := of_decide_eq_true g232; have g2 := of_decide_eq_true g233; rw [decide_eq_decide, hblen]; exact ⟨fun h => ⟨g1, g2, h⟩, fun h => h.2.2⟩), hk238⟩
                      · refine q_skip (g_no rfl rfl rfl g233) ?_
                        refine q_skip (g_no rfl rfl rfl g233) ?_
                        refine q_skip (g_no rfl rfl rfl g233) ?_
                        refine q_skip (g_no rfl rfl rfl g233) ?_
                        refine q_skip (g_no rfl rfl rfl g233) ?_
                        refine q_skip (g_no rfl rfl rfl g233) ?_
                        refine q_skip (g_no rfl rfl rfl g233) ?_
                        refine q_skip (g_no rfl rfl rfl g233) ?_
                        refine q_skip (g_no rfl rfl rfl g233) ?_
                        refine q_skip (g_no rfl rfl rfl g233) ?_
                        refine q_skip (g_no rfl rfl rfl g233) ?_
                        refine q_skip (g_no rfl rfl rfl g233) ?_
                        refine q_pkFc rfl g233 rfl ?_
                        refine q_nil ?_; intro w240 hk240
                        exact ⟨by (repeat (first | with_reducible exact offM_refl _ _ | refine offM_updc rfl ?_ | refine offM_upd rfl ?_ | refine offM_updo rfl ?_ | refine offM_updo_none ?_ | refine offM_head rfl rfl ?_)), congrArg (fun b => [Value.bool b]) (by have g2 := of_decide_eq_false g233; symm; apply decide_eq_false; exact fun h => g2 h.2.1), hk240⟩
                    · refine q_skip (g_no rfl rfl rfl g232) ?_
                      refine q_skip (g_no rfl rfl rfl g232) ?_
                      refine q_pkFc rfl g232 rfl ?_
                      refine q_mvt rfl ?_
                      refine q_skip (g_no rfl rfl rfl rfl) ?_
                      refine q_skip (g_no rfl rfl rfl rfl) ?_
                      refine q_skip (g_no rfl rfl rfl rfl) ?_
                      refine q_skip (g_no rfl rfl rfl rfl) ?_
                      refine q_skip (g_no rfl rfl rfl rfl) ?_
                      refine q_skip (g_no rfl rfl rfl rfl) ?_
                      refine q_skip (g_no rfl rfl rfl rfl) ?_
                      refine q_skip (g_no rfl rfl rfl rfl) ?_
                      refine q_skip (g_no rfl rfl rfl rfl) ?_
                      refine q_skip (g_no rfl rfl rfl rfl) ?_
                      refine q_skip (g_no rfl rfl rfl rfl) ?_
                      refine q_skip (g_no rfl rfl rfl rfl) ?_
                      refine q_pkFc rfl rfl rfl ?_
                      refine q_nil ?_; intro w242 hk242
                      exact ⟨by (repeat (first | with_reducible exact offM_refl _ _ | refine offM_updc rfl ?_ | refine offM_upd rfl ?_ | refine offM_updo rfl ?_ | refine offM_updo_none ?_ | refine offM_head rfl rfl ?_)), congrArg (fun b => [Value.bool b]) (by have g1 := of_decide_eq_false g232; symm; apply decide_eq_false; exact fun h => g1 h.1), hk242⟩
                  · rintro J244 vs w244 ⟨rfl, hk244⟩ -
                    have hk0K := hk0J.trans hk244
                    have hB1K := hk244.blk' hB1J trivial
                    have hB2K := hk244.blk' hB2J trivial
                    refine W_cond_p rfl (fun h245 => ?_) (fun h245 => ?_)
                    · refine W_seq ?_
                      refine W_region ?_
                      refine o_mvt rfl ?_
                      refine op_run (r_build (ansR 8 false Bk.zero) (_) ([(0, .int .i64 8)]) rfl rfl rfl rfl rfl (rfl)) rfl ?_
                      refine o_ast rfl ?_
                      refine o_storeA (cs := ansR 8 false Bk.zero) rfl rfl (by first | rfl | exact binV_one _ | exact dgR_one _ | exact refR_one _ | exact secR_one _ | exact all_c8 _ | exact ansR_one _ _ _ | exact nbR_one _) (by first | rfl | (rw [binV_len]; rfl) | (rw [dgR_len]; rfl) | (rw [refR_len]; rfl) | (rw [secR_len]; rfl) | (rw [List.length_map, tagF_len]; rfl) | (rw [opR_len]; rfl) | (rw [ansR_len]; rfl) | (rw [blkR_len]; rfl) | (rw [nbR_len]; rfl)) hB2K (by rw [ansR_len]; decide) rfl ?_; intro w247 hB247 hk247 hs247
                      refine ops_nil ?_
                      refine W_ret ?_
                      refine retTA (_) ((ansR 8 false Bk.zero)) rfl rfl rfl rfl rfl (by first | rfl | (rw [binV_len]; rfl) | (rw [dgR_len]; rfl) | (rw [refR_len]; rfl) | (rw [secR_len]; rfl) | (rw [List.length_map, tagF_len]; rfl) | (rw [opR_len]; rfl) | (rw [ansR_len]; rfl) | (rw [blkR_len]; rfl) | (rw [nbR_len]; rfl)) ((ans_st hB247).all) ?_
                      have hkZ := hk0K.new hk247 hb2
                      exact doq_same (a := Ans.no 8) (by rw [hd, blockD_ok hf0 hv, if_neg h210, if_neg (by omega), if_pos ⟨had_none hH h245.2.1, h245.2.2⟩]) hn8 (h.k hkZ) hkZ
                    · refine W_skip ?_
                      refine W_seq ?_
                      refine W_region ?_
                      refine o_bs0 rfl rfl rfl ?_; intro w249 b249 e249 hB249 hk249 hs249
                      have hO249 : Own w249 76 49 (.slice (some ⟨b249, 0, none⟩) 0 0) 0 [] := Own.blk hB249 rfl (Nat.zero_le _)
                      have hB1L := hk249.blk' hB1K trivial
                      obtain ⟨tr, htr⟩ : ∃ tr : Bool, decide (o.kind = 4) = tr := ⟨_, rfl⟩
                      refine o_ast rfl ?_
                      refine ops_nil ?_
                      refine W_seq ?_
                      refine W_region ?_
                      refine op_run (r_fieldAddr rfl rfl rfl rfl rfl) rfl ?_
                      refine op_run (r_load rfl rfl rfl (hB1L.cell rfl)) rfl ?_
                      refine op_run (r_eql rfl rfl) rfl ?_
                      refine o_ast rfl ?_
                      refine ops_nil ?_
                      refine W_seq ?_
                      refine W_seq ?_
                      refine W_region ?_
                      refine o_asc rfl ?_
                      refine ops_nil ?_
                      refine W_block ?_
                      refine W_loop [12, 13, 14] [12, 13, 14, 15, 242, 243, 244, 245, 246, 247, 248, 249, 250, 251, 252, 253, 254, 255, 256, 257, 258, 259, 260, 261, 262, 263, 264, 265, 266, 267, 268, 269, 270, 271, 272, 273, 274, 275, 276, 277, 278, 279, 280, 281, 282, 283, 284, 285] (fun vs w' => ∃ (u : Value) (acc : List (Int × Bk)) (dn : Bool) (k : Nat), vs = [u, .bool dn, .int .i64 k] ∧ k ≤ (blkS vv.bl).length ∧ accN o.number o.block tr ((blkS vv.bl).take k) = (acc, dn) ∧ Own w' 76 49 u acc.length (rows nbR acc) ∧ InB (fun z => w244.heap.size ≤ z) u ∧ Keep All w244 w') (fun vs _ => match vs with | [_, _, .int _ y] => (blkS vv.bl).length - y.toNat | _ => 0) ⟨_, [], tr, 0, by rw [← htr]; rfl, Nat.zero_le _, rfl, hO249, (fun z hz => by have hz : some b249 = some z := hz; injection hz with hz; omega), hk249⟩ ?_
                      rintro J251 vs w251 ⟨u, acc, dn, k, rfl, hkk, hacc, hOu, hIu, hkA⟩ -
                      have hk0A := hk0K.trans hkA
                      have hB1A := hkA.blk' hB1K trivial
                      have hB2A := hkA.blk' hB2K trivial
                      have hlt2 := hB2K.lt
                      have hz0 := hk0K.size
                      refine W_seq ?_
                      refine W_seq ?_
                      refine W_region ?_
                      refine o_mvt rfl ?_
                      refine o_mvt rfl ?_
                      refine o_mvt rfl ?_
                      refine op_run (r_idxS rfl rfl rfl rfl (by omega) (by omega)) rfl ?_
                      refine op_run (r_fieldAddr rfl rfl rfl rfl rfl) rfl ?_
                      refine op_run (r_load rfl rfl rfl (by rw [Int.toNat_natCast]; exact hk0A.cell (hci 3 _ rfl) trivial)) rfl ?_
                      refine op_run (r_len rfl rfl rfl) rfl ?_
                      refine op_run (r_lss rfl rfl) rfl ?_
                      refine ops_nil ?_
                      refine W_cond_p rfl (fun h254 => ?_) (fun h254 => ?_)
                      · refine W_skip ?_
                        refine W_seq ?_
                        refine W_block ?_
                        refine W_seq ?_
                        refine W_region ?_
                        refine o_mvt rfl ?_
                        refine o_mvt rfl ?_
                        have hkl : k < (blkS vv.bl).length := by omega
                        obtain ⟨p, pb, po, pc, hp, ep, hcp⟩ := nb_at hbi hkl
                        cases ep
                        have hinc2 := inc64' k (by omega)
                        have htk : (blkS vv.bl).take (k + 1) = (blkS vv.bl).take k ++ [p] := by rw [List.take_succ_eq_append_getElem hkl, (List.getElem?_eq_some_iff.1 hp).2]
                        have hal : acc.length ≤ 1001 := by
                          have h1 := (accN_len o.number o.block tr ((blkS vv.bl).take k)).1
                          rw [hacc, List.length_take] at h1
                          have h1 : acc.length ≤ min k (blkS vv.bl).length + 1 := h1
                          omega
                        refine op_run (r_idxS rfl rfl rfl rfl (by omega) (by omega)) rfl ?_
                        refine op_run (r_fieldAddr rfl rfl rfl rfl rfl) rfl ?_
                        refine op_run (r_load rfl rfl rfl (by rw [Int.toNat_natCast]; exact hk0A.cell (hci 3 _ rfl) trivial)) rfl ?_
                        refine o_mvt rfl ?_
                        refine op_run (r_idxS rfl rfl rfl rfl (by omega) (by omega)) rfl ?_
                        refine op_run (r_loadA (nbR p) rfl rfl rfl (by first | rfl | (rw [binV_len]; rfl) | (rw [dgR_len]; rfl) | (rw [refR_len]; rfl) | (rw [secR_len]; rfl) | (rw [List.length_map, tagF_len]; rfl) | (rw [opR_len]; rfl) | (rw [ansR_len]; rfl) | (rw [blkR_len]; rfl) | (rw [nbR_len]; rfl)) ((fun m u hm => by rw [Int.toNat_natCast]; exact hk0A.cell (hcp m u hm) trivial))) rfl ?_
                        refine o_alloc rfl rfl rfl ?_; intro w259 b259 e259 hB259 hk259 hs259
                        have hB259' : Blk w259 b259 (nbR (0, Bk.zero)) 76 := hB259
                        have hzA := hkA.size
                        refine o_storeA (cs := nbR p) rfl rfl (by first | rfl | exact binV_one _ | exact dgR_one _ | exact refR_one _ | exact secR_one _ | exact all_c8 _ | exact ansR_one _ _ _ | exact nbR_one _) (by first | rfl | (rw [binV_len]; rfl) | (rw [dgR_len]; rfl) | (rw [refR_len]; rfl) | (rw [secR_len]; rfl) | (rw [List.length_map, tagF_len]; rfl) | (rw [opR_len]; rfl) | (rw [ansR_len]; rfl) | (rw [blkR_len]; rfl) | (rw [nbR_len]; rfl)) hB259' (by exact Nat.le_of_eq (by simp [nbR_len])) rfl ?_; intro w260 hB260 hk260 hs260
                        have hB260' : Blk w260 b259 (nbR p) 76 := by
                          have h := hB260
                          rwa [splice_all (by rw [nbR_len, nbR_len])] at h
                        have hkB : Keep All w244 w260 := (hkA.trans hk259).new hk260 (by omega)
                        have hO260 : Own w260 76 49 u acc.length (rows nbR acc) := (hOu.keep hk259 (fun _ _ => trivial)).keep hk260 (fun z hz => by have := hOu.lt z hz; omega)
                        have hB1B := hkB.blk' hB1K trivial
                        have hne0 : some b259 ≠ u.ownBlock := fun e => by have := hOu.lt b259 e.symm; omega
                        refine ops_nil ?_
                        refine W_cut [12, 13] [12, 13, 260, 261, 262, 263, 264, 265, 266, 267, 268, 269, 270, 271, 272, 273, 274, 275, 276] (fun vs w261 => ∃ (u1 : Value) (acc1 : List (Int × Bk)) (dn1 : Bool), vs = [u1, .bool dn1] ∧ (acc1, dn1) = (if dn = false ∧ o.number ≤ p.1 then (acc ++ [(o.number, o.block)], true) else (acc, dn)) ∧ Own w261 76 49 u1 acc1.length (rows nbR acc1) ∧ InB (fun z => w244.heap.size ≤ z) u1 ∧ Keep All w244 w261 ∧ Blk w261 b259 (nbR p) 76 ∧ acc1.length ≤ 1002 ∧ w260.heap.size ≤ w261.heap.size) ?_ ?_
                        · refine W_cut [268] [260, 261, 262, 263, 264, 265, 266, 267, 268] (fun vs w262 => vs = [.bool (decide (dn = false ∧ o.number ≤ p.1))] ∧ w262 = w260) ?_ ?_
                          · refine W_region ?_
                            refine o_mvt rfl ?_
                            refine op_run (r_not rfl) rfl ?_
                            refine o_mvt rfl ?_
                            refine g_split rfl rfl rfl (fun g263 => ?_) (fun g263 => ?_)
                            · refine op_run (r_fieldAddr rfl rfl rfl rfl rfl) (g_yes rfl rfl rfl (by rw [g263] <;> rfl)) ?_
                              refine op_run (r_load rfl rfl rfl (hB260'.cell rfl)) (g_yes rfl rfl rfl (by rw [g263] <;> rfl)) ?_
                              refine op_run (r_fieldAddr rfl rfl rfl rfl rfl) (g_yes rfl rfl rfl (by rw [g263] <;> rfl)) ?_
                              refine op_run (r_load rfl rfl rfl (hB1B.cell rfl)) (g_yes rfl rfl rfl (by rw [g263] <;> rfl)) ?_
                              refine op_run (r_geq rfl rfl) (g_yes rfl rfl rfl (by rw [g263] <;> rfl)) ?_
                              refine o_pkTt rfl (by rw [g263] <;> rfl) rfl ?_
                              refine ops_nil ?_
                              exact ⟨by (repeat (first | with_reducible exact offM_refl _ _ | refine offM_updc rfl ?_ | refine offM_upd rfl ?_ | refine offM_updo rfl ?_ | refine offM_updo_none ?_ | refine offM_head rfl rfl ?_)), congrArg (fun b => [Value.bool b]) (by have g : dn = false := (by simpa using g263); rw [decide_eq_decide]; exact ⟨fun h => ⟨g, h⟩, fun h => h.2⟩), rfl⟩
                            · refine op_skip (g_no rfl rfl rfl (by rw [g263] <;> rfl)) ?_
                              refine op_skip (g_no rfl rfl rfl (by rw [g263] <;> rfl)) ?_
                              refine op_skip (g_no rfl rfl rfl (by rw [g263] <;> rfl)) ?_
                              refine op_skip (g_no rfl rfl rfl (by rw [g263] <;> rfl)) ?_
                              refine op_skip (g_no rfl rfl rfl (by rw [g263] <;> rfl)) ?_
                              refine o_pkFc rfl (by rw [g263] <;> rfl) rfl ?_
                              refine ops_nil ?_
                              exact ⟨by (repeat (first | with_reducible exact offM_refl _ _ | refine offM_updc rfl ?_ | refine offM_upd rfl ?_ | refine offM_updo rfl ?_ | refine offM_updo_none ?_ | refine offM_head rfl rfl ?_)), congrArg (fun b => [Value.bool b]) (by have g : dn = true := (by simpa using g263); symm; apply decide_eq_false; rintro ⟨h, _⟩; rw [g] at h; cases h), rfl⟩
                          · rintro J268 vs w268 ⟨rfl, rfl⟩ -
                            refine W_cond_p rfl (fun h269 => ?_) (fun h269 => ?_)
                            · refine W_seq ?_
                              refine W_region ?_
                              refine o_mvt rfl ?_
                              refine op_run (r_fieldAddr rfl rfl rfl rfl rfl) rfl ?_
                              refine op_run (r_load rfl rfl rfl (hB1B.cell rfl)) rfl ?_
                              refine op_run (r_fieldAddr rfl rfl rfl rfl rfl) rfl ?_
                              refine op_run (r_loadA (blkR o.block) rfl rfl rfl (by first | rfl | (rw [binV_len]; rfl) | (rw [dgR_len]; rfl) | (rw [refR_len]; rfl) | (rw [secR_len]; rfl) | (rw [List.length_map, tagF_len]; rfl) | (rw [opR_len]; rfl) | (rw [ansR_len]; rfl) | (rw [blkR_len]; rfl) | (rw [nbR_len]; rfl)) ((fun j u hj => by rw [Addr.add_lit]; exact hB1B.cell (opR_blk o hj)))) rfl ?_
                              refine op_run (r_build (nbR (o.number, o.block)) (_) ([(0, .int .i64 o.number), (1, .agg (blkR o.block).toArray)]) rfl rfl rfl rfl rfl (fill_two rfl rfl rfl (blkR_len _))) rfl ?_
                              refine o_bsR nbR nbR_len [(o.number, o.block)] rfl ti_nb rfl rfl rfl rfl rfl rfl ?_; intro w273 b273 e273 hB273 hk273 hs273
                              refine o_app (v := u) (c := 1) (m := acc.length) (k := 1) (rows nbR [(o.number, o.block)]) rfl rfl rfl ti_nb rfl (by decide) (hO260.keep hk273 (fun _ _ => trivial)) (by rw [rows_len nbR_len]; rfl) hB273.all (rows_one nbR_one _) (by unfold maxLen; omega) (by omega) rfl ?_; intro v274 w274 hown274 hk274 hb274
                              refine o_ast rfl ?_
                              refine ops_nil ?_
                              refine W_region ?_
                              refine o_asc rfl ?_
                              refine ops_nil ?_
                              refine ⟨by (repeat (first | with_reducible exact offM_refl _ _ | refine offM_updc rfl ?_ | refine offM_upd rfl ?_ | refine offM_updo rfl ?_ | refine offM_updo_none ?_ | refine offM_head rfl rfl ?_)), ⟨v274, acc ++ [(o.number, o.block)], true, rfl, by rw [if_pos h269], ?_, ?_, ?_, ?_, ?_, ?_⟩⟩
                              · rw [List.length_append, rows_app]; exact hown274
                              · intro z hz
                                rcases hb274 z hz with h | h
                                · exact hIu z h
                                · have := hkB.size; have := hk273.size; omega
                              · exact (hkB.trans hk273).own hk274 (fun z hz _ => hIu z hz)
                              · exact hk274.blk' (hk273.blk' hB260' trivial) hne0
                              · rw [List.length_append]; show acc.length + 1 ≤ 1002; omega
                              · have := hk273.size; have := hk274.size; omega
                            · refine W_skip ?_
                              exact ⟨by (repeat (first | with_reducible exact offM_refl _ _ | refine offM_updc rfl ?_ | refine offM_upd rfl ?_ | refine offM_updo rfl ?_ | refine offM_updo_none ?_ | refine offM_head rfl rfl ?_)), ⟨u, acc, dn, rfl, by rw [if_neg h269], hO260, hIu, hkB, hB260', by omega, Nat.le_refl _⟩⟩
                        · rintro J277 vs w277 ⟨u1, acc1, dn1, rfl, hph, hO1, hI1, hkC, hBp, hal1, hzC⟩ -
                          have hB1C := hkC.blk' hB1K trivial
                          refine W_seq ?_
                          refine W_region ?_
                          refine op_run (r_fieldAddr rfl rfl rfl rfl rfl) rfl ?_
                          refine op_run (r_load rfl rfl rfl (hBp.cell rfl)) rfl ?_
                          refine op_run (r_fieldAddr rfl rfl rfl rfl rfl) rfl ?_
                          refine op_run (r_load rfl rfl rfl (hB1C.cell rfl)) rfl ?_
                          refine op_run (r_neq rfl rfl) rfl ?_
                          refine ops_nil ?_
                          refine W_cond_p rfl (fun h280 => ?_) (fun h280 => ?_)
                          · refine W_region ?_
                            refine o_mvt rfl ?_
                            refine op_run (r_loadA (nbR p) rfl rfl rfl (by first | rfl | (rw [binV_len]; rfl) | (rw [dgR_len]; rfl) | (rw [refR_len]; rfl) | (rw [secR_len]; rfl) | (rw [List.length_map, tagF_len]; rfl) | (rw [opR_len]; rfl) | (rw [ansR_len]; rfl) | (rw [blkR_len]; rfl) | (rw [nbR_len]; rfl)) (hBp.all)) rfl ?_
                            refine o_bsR nbR nbR_len [p] rfl ti_nb rfl rfl rfl rfl rfl rfl ?_; intro w282 b282 e282 hB282 hk282 hs282
                            refine o_app (v := u1) (c := 1) (m := acc1.length) (k := 1) (rows nbR [p]) rfl rfl rfl ti_nb rfl (by decide) (hO1.keep hk282 (fun _ _ => trivial)) (by rw [rows_len nbR_len]; rfl) hB282.all (rows_one nbR_one _) (by unfold maxLen; omega) (by omega) rfl ?_; intro v283 w283 hown283 hk283 hb283
                            refine o_ast rfl ?_
                            refine ops_nil ?_
                            refine W_region ?_
                            refine o_mvt rfl ?_
                            refine op_run (r_add rfl rfl) rfl ?_
                            refine o_ast rfl ?_
                            refine ops_nil ?_
                            refine ⟨by (repeat (first | with_reducible exact offM_refl _ _ | refine offM_updc rfl ?_ | refine offM_upd rfl ?_ | refine offM_updo rfl ?_ | refine offM_updo_none ?_ | refine offM_head rfl rfl ?_)), ⟨v283, acc1 ++ [p], dn1, k + 1, congrArg (fun z : Int => [_, _, Value.int .i64 z]) hinc2, by omega, ?_, ?_, ?_, ?_⟩, ?_⟩
                            · rw [htk, accN_snoc, hacc]
                              show (if p.1 ≠ o.number then ((if dn = false ∧ o.number ≤ p.1 then (acc ++ [(o.number, o.block)], true) else (acc, dn)).1 ++ [p], (if dn = false ∧ o.number ≤ p.1 then (acc ++ [(o.number, o.block)], true) else (acc, dn)).2) else _) = _
                              rw [if_pos h280, ← hph]
                            · rw [List.length_append, rows_app]; exact hown283
                            · intro z hz
                              rcases hb283 z hz with h | h
                              · exact hI1 z h
                              · have := hkC.size; have := hk282.size; omega
                            · exact (hkC.trans hk282).own hk283 (fun z hz _ => hI1 z hz)
                            · show (blkS vv.bl).length - (IntKind.i64.wrap ((k : Int) + 1)).toNat < (blkS vv.bl).length - (k : Int).toNat
                              rw [hinc2]; omega
                          · refine W_skip ?_
                            refine W_region ?_
                            refine o_mvt rfl ?_
                            refine op_run (r_add rfl rfl) rfl ?_
                            refine o_ast rfl ?_
                            refine ops_nil ?_
                            refine ⟨by (repeat (first | with_reducible exact offM_refl _ _ | refine offM_updc rfl ?_ | refine offM_upd rfl ?_ | refine offM_updo rfl ?_ | refine offM_updo_none ?_ | refine offM_head rfl rfl ?_)), ⟨u1, acc1, dn1, k + 1, congrArg (fun z : Int => [_, _, Value.int .i64 z]) hinc2, by omega, ?_, hO1, hI1, hkC⟩, ?_⟩
                            · rw [htk, accN_snoc, hacc]
                              show (if p.1 ≠ o.number then _ else (if dn = false ∧ o.number ≤ p.1 then (acc ++ [(o.number, o.block)], true) else (acc, dn))) = _
                              rw [if_neg h280, ← hph]
                            · show (blkS vv.bl).length - (IntKind.i64.wrap ((k : Int) + 1)).toNat < (blkS vv.bl).length - (k : Int).toNat
                              rw [hinc2]; omega
                      · refine W_exit ?_
                        have hke : k = (blkS vv.bl).length := by omega
                        rw [hke, List.take_length] at hacc
                        have hal : acc.length ≤ 1001 := by
                          have h1 := (accN_len o.number o.block tr (blkS vv.bl)).1
                          rw [hacc] at h1
                          have h1 : acc.length ≤ (blkS vv.bl).length + 1 := h1
                          omega
                        refine W_cut [12] [12, 286, 287, 288, 289, 290, 291, 292, 293, 294, 295] (fun vs w286 => ∃ u1 : Value, vs = [u1] ∧ Own w286 76 49 u1 (finN o.number o.block tr (blkS vv.bl)).length (rows nbR (finN o.number o.block tr (blkS vv.bl))) ∧ InB (fun z => w244.heap.size ≤ z) u1 ∧ Keep All w244 w286) ?_ ?_
                        · refine W_seq ?_
                          refine W_region ?_
                          refine o_mvt rfl ?_
                          refine op_run (r_not rfl) rfl ?_
                          refine ops_nil ?_
                          refine W_cond rfl (fun h287 => ?_) (fun h287 => ?_)
                          · refine W_region ?_
                            refine o_mvt rfl ?_
                            refine op_run (r_fieldAddr rfl rfl rfl rfl rfl) rfl ?_
                            refine op_run (r_load rfl rfl rfl (hB1A.cell rfl)) rfl ?_
                            refine op_run (r_fieldAddr rfl rfl rfl rfl rfl) rfl ?_
                            refine op_run (r_loadA (blkR o.block) rfl rfl rfl (by first | rfl | (rw [binV_len]; rfl) | (rw [dgR_len]; rfl) | (rw [refR_len]; rfl) | (rw [secR_len]; rfl) | (rw [List.length_map, tagF_len]; rfl) | (rw [opR_len]; rfl) | (rw [ansR_len]; rfl) | (rw [blkR_len]; rfl) | (rw [nbR_len]; rfl)) ((fun j u hj => by rw [Addr.add_lit]; exact hB1A.cell (opR_blk o hj)))) rfl ?_
                            refine op_run (r_build (nbR (o.number, o.block)) (_) ([(0, .int .i64 o.number), (1, .agg (blkR o.block).toArray)]) rfl rfl rfl rfl rfl (fill_two rfl rfl rfl (blkR_len _))) rfl ?_
                            refine o_bsR nbR nbR_len [(o.number, o.block)] rfl ti_nb rfl rfl rfl rfl rfl rfl ?_; intro w291 b291 e291 hB291 hk291 hs291
                            refine o_app (v := u) (c := 1) (m := acc.length) (k := 1) (rows nbR [(o.number, o.block)]) rfl rfl rfl ti_nb rfl (by decide) (hOu.keep hk291 (fun _ _ => trivial)) (by rw [rows_len nbR_len]; rfl) hB291.all (rows_one nbR_one _) (by unfold maxLen; omega) (by omega) rfl ?_; intro v292 w292 hown292 hk292 hb292
                            refine o_ast rfl ?_
                            refine ops_nil ?_
                            have hfin : finN o.number o.block tr (blkS vv.bl) = acc ++ [(o.number, o.block)] := by
                              unfold finN; rw [hacc]; exact if_pos (by simpa using h287)
                            refine ⟨by (repeat (first | with_reducible exact offM_refl _ _ | refine offM_updc rfl ?_ | refine offM_upd rfl ?_ | refine offM_updo rfl ?_ | refine offM_updo_none ?_ | refine offM_head rfl rfl ?_)), v292, rfl, ?_, ?_, ?_⟩
                            · rw [hfin, List.length_append, rows_app]; exact hown292
                            · intro z hz
                              rcases hb292 z hz with h | h
                              · exact hIu z h
                              · have := hkA.size; have := hk291.size; omega
                            · exact (hkA.trans hk291).own hk292 (fun z hz _ => hIu z hz)
                          · refine W_skip ?_
                            have hfin : finN o.number o.block tr (blkS vv.bl) = acc := by
                              unfold finN; rw [hacc]; exact if_neg (by have h : dn = true := (by simpa using h287); rw [h]; simp)
                            exact ⟨by (repeat (first | with_reducible exact offM_refl _ _ | refine offM_updc rfl ?_ | refine offM_upd rfl ?_ | refine offM_updo rfl ?_ | refine offM_updo_none ?_ | refine offM_head rfl rfl ?_)), u, rfl, by rw [hfin]; exact hOu, hIu, hkA⟩
                        · rintro J295 vs w295 ⟨u1, rfl, hOf, hIf, hkF⟩ -
                          have hk0F := hk0K.trans hkF
                          have hzF := hkF.size
                          refine W_seq ?_
                          refine W_region ?_
                          refine o_bs0 rfl rfl rfl ?_; intro w296 b296 e296 hB296 hk296 hs296
                          have hB296e : Own w296 41 4 (.slice (some ⟨b296, 0, none⟩) 0 0) 0 [] := Own.blk hB296 rfl (Nat.zero_le _)
                          refine o_mvt rfl ?_
                          refine o_appS (v := .slice (some ⟨b296, 0, none⟩) 0 0) rfl rfl (h.k (hk0F.trans hk296)).o rfl ti_im rfl rfl hB296e (rowsIm_one fun y hy => imgs_ones h y hy) (by unfold maxLen; omega) (by omega) rfl ?_; intro v297 w297 hown297 hk297 hb297
                          have hk0G : Keep All w w297 := (hk0F.trans hk296).own hk297 (fun z hz _ => by have hz : some b296 = some z := hz; injection hz with hz; have := hk0F.size; omega)
                          have hown297 : Own w297 41 4 v297 (imgD l).length (rows imR ys) := by
                            have h := hown297
                            rw [Nat.zero_add, List.nil_append] at h; exact h
                          obtain ⟨g, gc, ex, eg, hgc1, hgc2, hBg, hgo⟩ := hown297.open (by omega)
                          subst eg
                          have hgF : w295.heap.size ≤ g := by
                            rcases hb297 g rfl with h | h
                            · have h : some b296 = some g := h; injection h with h; omega
                            · have := hk296.size; omega
                          have hyl := h.len
                          have hrl : (rows imR ys).length = (imgD l).length * 4 := by rw [rows_len imR_len, hyl]
                          refine o_ast rfl ?_
                          refine ops_nil ?_
                          refine W_seq ?_
                          refine W_region ?_
                          refine o_mvt rfl ?_
                          refine o_mvt rfl ?_
                          refine o_mvt rfl ?_
                          refine op_run (r_idxS rfl rfl rfl rfl (by omega) (by omega)) rfl ?_
                          refine op_run (r_fieldAddr rfl rfl rfl rfl rfl) rfl ?_
                          refine o_store (v := u1) rfl rfl (own_one hOf) rfl hBg (by rw [List.length_append, hrl, Int.toNat_natCast]; show 0 + ki * 4 + 3 < _; omega) rfl ?_; intro w299 hB299 hk299 hs299
                          have hO1f : Own w299 76 49 u1 (finN o.number o.block tr (blkS vv.bl)).length (rows nbR (finN o.number o.block tr (blkS vv.bl))) := ((hOf.keep hk296 (fun _ _ => trivial)).keep hk297 (fun z hz e => by
                            have e : some z = some b296 := e
                            injection e with e
                            have := hOf.lt z hz
                            omega)).keep hk299 (fun z hz => by have := hOf.lt z hz; omega)
                          have hk0H : Keep All w w299 := hk0G.new hk299 (by have := hk0F.size; omega)
                          have hB2H : Blk w299 b2 (ansR 0 false Bk.zero) 34 := hk299.blk' (hk297.blk' (hk296.blk' (hkF.blk' hB2K trivial) trivial) (fun e => by have e : some b2 = some b296 := e; injection e with e; have := hB2K.lt; omega)) (show b2 ≠ g by have := hB2K.lt; omega)
                          have hBg2 : Blk w299 g (rows imR (ys.set ki (⟨o.name, vv.q, vv.fr, finN o.number o.block tr (blkS vv.bl)⟩, u1)) ++ ex) 41 := by
                            have h := hB299
                            rw [Int.toNat_natCast] at h
                            have h : Blk w299 g ((rows imR ys ++ ex).set (0 + ki * 4 + 3) u1) 41 := h
                            rw [Nat.zero_add, List.set_append_left _ _ (by rw [hrl]; omega), rows_set3 (i' := ⟨o.name, vv.q, vv.fr, finN o.number o.block tr (blkS vv.bl)⟩) hy0 rfl rfl rfl] at h
                            exact h
                          refine ops_nil ?_
                          refine W_seq ?_
                          refine W_region ?_
                          refine o_mvt rfl ?_
                          refine op_run (r_build (ansR 0 false Bk.zero) (_) ([]) rfl rfl rfl rfl rfl (rfl)) rfl ?_
                          refine o_ast rfl ?_
                          refine o_storeA (cs := ansR 0 false Bk.zero) rfl rfl (by first | rfl | exact binV_one _ | exact dgR_one _ | exact refR_one _ | exact secR_one _ | exact all_c8 _ | exact ansR_one _ _ _ | exact nbR_one _) (by first | rfl | (rw [binV_len]; rfl) | (rw [dgR_len]; rfl) | (rw [refR_len]; rfl) | (rw [secR_len]; rfl) | (rw [List.length_map, tagF_len]; rfl) | (rw [opR_len]; rfl) | (rw [ansR_len]; rfl) | (rw [blkR_len]; rfl) | (rw [nbR_len]; rfl)) hB2H (by rw [ansR_len]; decide) rfl ?_; intro w301 hB301 hk301 hs301
                          refine ops_nil ?_
                          refine W_ret ?_
                          refine retTA (_) ((ansR 0 false Bk.zero)) rfl rfl rfl rfl rfl (by first | rfl | (rw [binV_len]; rfl) | (rw [dgR_len]; rfl) | (rw [refR_len]; rfl) | (rw [secR_len]; rfl) | (rw [List.length_map, tagF_len]; rfl) | (rw [opR_len]; rfl) | (rw [ansR_len]; rfl) | (rw [blkR_len]; rfl) | (rw [nbR_len]; rfl)) ((ans_st hB301).all) ?_
                          have hkZ := hk0H.new hk301 hb2
                          have hOg := hgo w299 _ hBg2 (by rw [rows_len imR_len, rows_len imR_len, List.length_set])
                          have hfinl := fin_len o.number o.block tr (blkS vv.bl)
                          have hI : ImgsS w301 (.slice (some ⟨g, 0, none⟩) (imgD l).length gc) ((imgD l).set ki ⟨o.name, vv.q, vv.fr, finN o.number o.block tr (blkS vv.bl)⟩) (ys.set ki (⟨o.name, vv.q, vv.fr, finN o.number o.block tr (blkS vv.bl)⟩, u1)) := by
                            refine ⟨by rw [List.map_set, h.e], ?_, fun y hy => ?_⟩
                            · rw [List.length_set]
                              exact hOg.sl.keep hk301 (fun z hz => by have hz : some g = some z := hz; injection hz with hz; have := hB2K.lt; omega)
                            · rcases List.mem_or_eq_of_mem_set hy with hy | rfl
                              · exact (h.b y hy).keep hkZ (fun _ _ => trivial)
                              · exact hO1f.sl.keep hk301 (fun z hz => by have := hIf z hz; have := hB2K.lt; omega)
                          have key : ∀ bl', blkS bl' = finN o.number o.block tr (blkS vv.bl) → (imgD l).set ki ⟨o.name, vv.q, vv.fr, finN o.number o.block tr (blkS vv.bl)⟩ = imgD (putA l o.name bl') := fun bl' e => by rw [← e]; exact imgD_put hN.1 hv hki
                          by_cases h4 : o.kind = 4
                          · have et : tr = true := by rw [← htr]; exact decide_eq_true h4
                            rw [key (delP vv.bl o.number) (by rw [et]; exact blkS_del hvb _ _)] at hI
                            exact doq_to (a := Ans.no 0) (by rw [hd, blockD_ok hf0 hv, if_neg h210, if_pos h4]) hn8 hI hkZ
                          · have et : tr = false := by rw [← htr]; exact decide_eq_false h4
                            rw [key (setP vv.bl o.number o.block) (by rw [et]; exact blkS_set hvb _ _)] at hI
                            refine doq_to (a := Ans.no 0) ?_ hn8 hI hkZ
                            rw [hd, blockD_ok hf0 hv, if_neg h210, if_neg h4, if_neg]
                            rintro ⟨q1, q2⟩
                            refine h245 ⟨by omega, Classical.byContradiction fun hh => ?_, q2⟩
                            obtain ⟨m, p, _, _, hlk⟩ := had_some hH hh
                            rw [q1] at hlk; cases hlk
end Go.Proofs.Ytkckphbdjkjfgaa.B
