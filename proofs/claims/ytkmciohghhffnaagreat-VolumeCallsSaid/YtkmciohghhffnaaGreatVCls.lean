/-
  VolumeCalls.
-/
import Derived.Test.YtkmciohghhffnaaGreatVCall
import Derived.Test.YtkmciohghhffnaaGreatVDcP
import Derived.Test.YtkmciohghhffnaaGreatVDecE
import Derived.Test.YtkmciohghhffnaaGreatVEncR
import Derived.Test.YtkmciohghhffnaaGreatVKey
namespace Go.Proofs.YtkmciohghhffnaaGreat.B
open Go
set_option linter.unusedVariables false
set_option maxHeartbeats 2000000
set_option maxRecDepth 100000
attribute [local irreducible] W OpsW OpsQ retP
theorem sorL_small {l : AL} {n : Nat} (h : UpN [] (sorL l)) (hl : l.length ≤ n) : SmallN n (sorL l) := by
  refine ⟨?_, fun x hx => (h.1 x hx).2.1.2.2⟩
  unfold sorL; rw [List.length_map, imgD_len]; exact hl
theorem sorL_blk {l : AL} (h : UpN [] (sorL l)) (hB : BlkN 1000 l) : BlkN 1000 (sorL l) := fun x hx => by
  have h1 := (h.1 x hx).2.2.2.2.2.1
  refine ⟨?_, fun p hp => (h1 p hp).2⟩
  obtain ⟨i, hi, rfl⟩ := List.mem_map.1 hx
  obtain ⟨v, hv, e⟩ := imgD_iff.1 hi
  show i.bl.length ≤ 1000
  rw [e]
  show (blkS v.bl).length ≤ 1000
  rw [blkS_len]; exact (hB _ (lookP_mem hv)).1
theorem enc_len {l : AL} (hl : l.length ≤ 60) (hok : ∀ i ∈ imgD l, ImgOk i) : (encN l.length ++ (imgD l).flatMap encI).length ≤ 3000000 := by
  rw [List.length_append]
  have e1 := encN_len10 (show l.length < 2 ^ 64 by omega)
  have e2 := fl_len encI 42050 (imgD l) (fun y hy => encI_len (hok y hy))
  have e3 := imgD_len l
  have e4 : (imgD l).length * 42050 ≤ 60 * 42050 := Nat.mul_le_mul_right _ (by omega)
  omega
theorem ImgsS.nilC {w : World} {b : Nat} {t : TypeId} (hB : Blk w b [] t) : ImgsS w (.slice (some ⟨b, 0, none⟩) 0 0) (imgD []) [] := by
  rw [show imgD [] = [] by simp [imgD, namesD, sortS]]
  exact ⟨rfl, (Own.blk hB rfl (Nat.zero_le _)).sl, fun y hy => by cases hy⟩
theorem walk_VolumeCalls (w : World) (v : Value) (os : List CallV) (hv : CallsIn w v os) : Ret Tryz.prog 3 [v].toArray w fun r w' => r = .bool true ∧ Keep All w w' := by
  obtain ⟨a0, c0, rfl, hc0, hcm0⟩ := SlR.form hv
  refine enter (fn := Tryz.f3) (n := 121) Tryz.func3 rfl rfl (by simp) ?_
  refine W_seq ?_
  refine W_region ?_
  refine o_asc rfl ?_
  refine ops_nil ?_
  refine W_seq ?_
  refine W_seq ?_
  refine W_region ?_
  refine op_call rfl rfl rfl (lw_speaks w) ?_; rintro v1 w1 ⟨rfl, hk1⟩
  refine op_run (r_not rfl) rfl ?_
  refine ops_nil ?_
  refine W_no rfl (rfl) ?_
  refine W_skip ?_
  refine W_seq ?_
  refine W_seq ?_
  refine W_region ?_
  refine o_mvt rfl ?_
  refine op_call rfl rfl rfl (lw_great w1 _ os (hv.k hk1)) ?_; rintro v4 w4 ⟨⟨g, rfl, hg⟩, hk4⟩
  refine ops_nil ?_
  refine W_cond rfl (fun h5 => ?_) (fun h5 => ?_)
  · refine W_seq ?_
    refine W_region ?_
    refine o_asc rfl ?_
    refine ops_nil ?_
    refine W_ret ?_
    refine ret1 (.bool true) rfl ?_ ?_; rfl
    exact ⟨rfl, hk1.trans hk4⟩
  · refine W_skip ?_
    refine W_seq ?_
    refine W_region ?_
    obtain ⟨hlen, hall⟩ := hg h5
    have hkA := hk1.trans hk4
    refine op_call rfl rfl rfl (vl_New w4) ?_; rintro v7 w7 ⟨mb, bm, rfl, hmb, M7'⟩
    have M7 : MSv w w7 mb bm [] := ⟨M7'.m, hkA.trans M7'.k, fun z hz => by have := M7'.b z hz; have := hkA.size; omega⟩
    refine o_bs0 rfl rfl rfl ?_; intro w8 b8 e8 hB8 hk8 hs8
    have M8 := M7.keep hk8
    refine o_ast rfl ?_
    refine o_ast rfl ?_
    refine ops_nil ?_
    refine W_seq ?_
    refine W_seq ?_
    refine W_region ?_
    refine o_mvt rfl ?_
    refine op_run (r_len rfl rfl rfl) rfl ?_
    refine o_mvc rfl ?_
    refine ops_nil ?_
    refine W_block ?_
    refine W_loop [4, 25] [2, 4, 6, 7, 8, 9, 10, 11, 12, 13, 14, 25, 26, 27, 28, 29, 30, 31, 32, 33, 34, 35, 36, 37, 38, 39, 40, 41, 42, 43, 44, 45, 46, 47, 48, 49, 50, 51, 52, 53, 54, 55, 56, 57, 58, 59, 60, 61, 62, 63, 64, 65, 66, 67, 68, 69, 70, 71, 72, 73, 74, 75, 76, 77, 78, 79, 80, 81, 82, 83, 84, 85, 86, 87, 88, 89, 90, 91, 92, 93, 94, 95, 96, 97, 98, 99, 100, 101, 102] (fun vs w' => ∃ (u : Value) (k : Nat) (l' : ModL) (ys : List (Img × Value)), vs = [u, .int .i64 k] ∧ k ≤ os.length ∧ abs l' = runD [] (os.take k) ∧ BlQ (abs l') ∧ MSv w w' mb bm l' ∧ ImgsS w' u (imgD (abs l')) ys) (fun vs _ => match vs with | [_, .int _ y] => os.length - y.toNat | _ => 0) ⟨_, 0, [], [], rfl, Nat.zero_le _, rfl, BlQ.nil, M8, ImgsS.nilC hB8⟩ ?_
    rintro J9 vs w9 ⟨u, k, l', ys, rfl, hk, ha, hQ, M, hI⟩ -
    have hsm : SmallN 60 (abs l') := by rw [ha]; exact small_take hlen k
    have hbn : BlkN 60 (abs l') := by rw [ha]; exact blk_take hlen k
    have hnq : NQ (abs l') := by rw [ha]; exact nq_take k
    refine W_seq ?_
    refine W_region ?_
    refine op_run (r_lss rfl rfl) rfl ?_
    refine ops_nil ?_
    refine W_seq ?_
    refine W_cond_p rfl (fun h10 => ?_) (fun h10 => ?_)
    · refine W_skip ?_
      refine W_seq ?_
      refine W_block ?_
      refine W_seq ?_
      refine W_region ?_
      have hkl : k < os.length := by omega
      obtain ⟨c, hc⟩ : ∃ c, os[k]? = some c := ⟨_, List.getElem?_eq_getElem hkl⟩
      obtain ⟨b, off, cp, ev_, _, hcell⟩ := (hv.k M.k).at hc
      cases ev_
      have hinc := inc64' k (by unfold maxLen at hcm0; omega)
      have hcs := hall c (List.mem_of_getElem? hc)
      have hcn := hcs.1
      have htk : runD [] (os.take (k + 1)) = stepD (abs l') c := by
        rw [List.take_succ_eq_append_getElem hkl, (List.getElem?_eq_some_iff.1 hc).2, runD_snoc, ← ha]
      refine op_run (r_idxS rfl rfl rfl rfl (by omega) (by omega)) rfl ?_
      refine op_run (r_loadA (callR c) rfl rfl rfl (by first | rfl | (rw [binV_len]; rfl) | (rw [dgR_len]; rfl) | (rw [refR_len]; rfl) | (rw [secR_len]; rfl) | (rw [List.length_map, tagF_len]; rfl) | (rw [callR_len]; rfl) | (rw [blkR_len]; rfl)) ((fun j u hj => by rw [Int.toNat_natCast]; exact hcell j u hj))) rfl ?_
      refine o_alloc rfl rfl rfl ?_; intro w13 b13 e13 hB13 hk13 hs13
      have hB13' : Blk w13 b13 (callR CallV.zero) 31 := hB13
      refine o_storeA (cs := callR c) rfl rfl (by first | rfl | exact binV_one _ | exact dgR_one _ | exact refR_one _ | exact secR_one _ | exact all_c8 _ | exact callR_one _ | exact blkR_one _) (by first | rfl | (rw [binV_len]; rfl) | (rw [dgR_len]; rfl) | (rw [refR_len]; rfl) | (rw [secR_len]; rfl) | (rw [List.length_map, tagF_len]; rfl) | (rw [callR_len]; rfl) | (rw [blkR_len]; rfl)) hB13' (by exact Nat.le_of_eq (by simp [callR_len])) rfl ?_; intro w14 hB14 hk14 hs14
      have hB14' := call_st hB14
      have hk14' : Keep All w9 w14 := hk13.new hk14 (by omega)
      have M14 := M.keep hk14'
      refine ops_nil ?_
      refine W_seq ?_
      refine W_region ?_
      refine o_mvt rfl ?_
      refine o_mvt rfl ?_
      refine op_run (r_loadA (callR c) rfl rfl rfl (by first | rfl | (rw [binV_len]; rfl) | (rw [dgR_len]; rfl) | (rw [refR_len]; rfl) | (rw [secR_len]; rfl) | (rw [List.length_map, tagF_len]; rfl) | (rw [callR_len]; rfl) | (rw [blkR_len]; rfl)) (hB14'.all)) rfl ?_
      refine op_call rfl rfl rfl (lw_call w14 mb bm l' _ (abs l') ys c M14.m (hI.k hk14') M.m.nd hcs (by have := hsm.1; omega) (hbn.mono (by decide))) ?_; rintro v16 w16 ⟨v2, ys2, ok, l2, rfl, hI2, ha2, hS2, hok⟩
      obtain rfl : ok = true := hok rfl
      rw [← ha2] at hI2
      have M16 := M14.go hS2
      have hrun : abs l2 = runD [] (os.take (k + 1)) := by rw [htk]; exact ha2
      have hsm2 : SmallN 60 (abs l2) := by rw [hrun]; exact small_take hlen (k + 1)
      have hbn2 : BlkN 60 (abs l2) := by rw [hrun]; exact blk_take hlen (k + 1)
      have hnq2 : NQ (abs l2) := by rw [hrun]; exact nq_take (k + 1)
      have hQ2 : BlQ (abs l2) := by rw [ha2]; exact hQ.step M.m.nd.1 c
      have hok2 := imgOk_all hnq2 (hbn2.mono (by decide))
      have hsl2 := hsm2.1
      have hB16 : Blk w16 b13 (callR c) 31 := hS2.2.1.blk' hB14' (fun hB => by have := M.m.ltB hB; omega)
      refine o_mvt rfl ?_
      refine op_run (r_extract rfl rfl) rfl ?_
      refine op_run (r_extract rfl rfl) rfl ?_
      refine o_ast rfl ?_
      refine o_ast rfl ?_
      refine ops_nil ?_
      refine W_seq ?_
      refine W_region ?_
      refine o_mvt rfl ?_
      refine o_ast rfl ?_
      refine ops_nil ?_
      refine W_seq ?_
      refine W_region ?_
      refine o_mvt rfl ?_
      refine op_run (r_fieldAddr rfl rfl rfl rfl rfl) rfl ?_
      refine op_run (r_load rfl rfl rfl (hB16.cell rfl)) rfl ?_
      refine op_run (r_fieldAddr rfl rfl rfl rfl rfl) rfl ?_
      refine op_run (r_load rfl rfl rfl (hB16.cell rfl)) rfl ?_
      refine op_call rfl rfl rfl (vl_Get w16 mb bm l2 c.name c.number M16.m) ?_; rintro v19 w19 ⟨rfl, hk19⟩
      refine o_mvt rfl ?_
      refine op_run (r_extract rfl rfl) rfl ?_
      refine op_run (r_extract rfl rfl) rfl ?_
      refine op_run (r_extract rfl rfl) rfl ?_
      refine o_alloc rfl rfl rfl ?_; intro w20 b20 e20 hB20 hk20 hs20
      have hB20' : Blk w20 b20 (blkR Bk.zero) 29 := hB20
      refine o_storeA (cs := blkR (getV (abs l2) c.name c.number).f) rfl rfl (by first | rfl | exact binV_one _ | exact dgR_one _ | exact refR_one _ | exact secR_one _ | exact all_c8 _ | exact callR_one _ | exact blkR_one _) (by first | rfl | (rw [binV_len]; rfl) | (rw [dgR_len]; rfl) | (rw [refR_len]; rfl) | (rw [secR_len]; rfl) | (rw [List.length_map, tagF_len]; rfl) | (rw [callR_len]; rfl) | (rw [blkR_len]; rfl)) hB20' (by exact Nat.le_of_eq (by simp [blkR_len])) rfl ?_; intro w21 hB21 hk21 hs21
      have hB21' : Blk w21 b20 (blkR (getV (abs l2) c.name c.number).f) 29 := by
        have h := hB21
        rwa [splice_all (by rw [blkR_len, blkR_len])] at h
      have hk1621 : Keep All w16 w21 := hk19.trans (hk20.new hk21 (by omega))
      have hB1621 := hk1621.blk' hB16 trivial
      refine o_ast rfl ?_
      refine o_ast rfl ?_
      refine ops_nil ?_
      refine W_seq ?_
      refine W_region ?_
      refine o_mvt rfl ?_
      refine op_run (r_fieldAddr rfl rfl rfl rfl rfl) rfl ?_
      refine op_run (r_load rfl rfl rfl (hB1621.cell rfl)) rfl ?_
      refine op_run (r_fieldAddr rfl rfl rfl rfl rfl) rfl ?_
      refine op_run (r_load rfl rfl rfl (hB1621.cell rfl)) rfl ?_
      refine op_call rfl rfl rfl (rf12_Get w21 v2 (abs l2) ys2 c.name c.number (hI2.k hk1621) (by omega) (hbn2.mono (by decide))) ?_; rintro v24 w24 ⟨rfl, hk24⟩
      refine o_mvt rfl ?_
      refine op_run (r_extract rfl rfl) rfl ?_
      refine op_run (r_extract rfl rfl) rfl ?_
      refine op_run (r_extract rfl rfl) rfl ?_
      refine o_alloc rfl rfl rfl ?_; intro w25 b25 e25 hB25 hk25 hs25
      have hB25' : Blk w25 b25 (blkR Bk.zero) 29 := hB25
      refine o_storeA (cs := blkR (getV (abs l2) c.name c.number).f) rfl rfl (by first | rfl | exact binV_one _ | exact dgR_one _ | exact refR_one _ | exact secR_one _ | exact all_c8 _ | exact callR_one _ | exact blkR_one _) (by first | rfl | (rw [binV_len]; rfl) | (rw [dgR_len]; rfl) | (rw [refR_len]; rfl) | (rw [secR_len]; rfl) | (rw [List.length_map, tagF_len]; rfl) | (rw [callR_len]; rfl) | (rw [blkR_len]; rfl)) hB25' (by exact Nat.le_of_eq (by simp [blkR_len])) rfl ?_; intro w26 hB26 hk26 hs26
      have hB26' : Blk w26 b25 (blkR (getV (abs l2) c.name c.number).f) 29 := by
        have h := hB26
        rwa [splice_all (by rw [blkR_len, blkR_len])] at h
      have hk2126 : Keep All w21 w26 := hk24.trans (hk25.new hk26 (by omega))
      have hk1626 := hk1621.trans hk2126
      have hB2126 := hk2126.blk' hB21' trivial
      have hBc26 := hk1626.blk' hB16 trivial
      have M26 := M16.keep hk1626
      have hI26 := hI2.k hk1626
      have hEnc : encN (abs l2).length ++ (imgD (abs l2)).flatMap encI = encN (imgD (abs l2)).length ++ (imgD (abs l2)).flatMap encI := by rw [imgD_len]
      refine o_ast rfl ?_
      refine o_ast rfl ?_
      refine ops_nil ?_
      refine W_cut [101] [57, 58, 59, 60, 61, 62, 63, 64, 65, 66, 67, 68, 69, 70, 71, 72, 73, 74, 75, 76, 77, 78, 79, 80, 81, 82, 83, 84, 85, 86, 87, 88, 89, 90, 91, 92, 93, 94, 95, 96, 97, 98, 99, 100, 101] (fun vs w27 => vs = [.bool false] ∧ Keep All w26 w27) ?_ ?_
      · refine W_held (fun w' => Keep All w26 w') (by kernel_rfl) ((Keep.drawn w26)) (fun hS => ?_)
        refine any_mvt 0 rfl (by kernel_rfl) (by kernel_rfl) (by kernel_rfl) rfl hS ?_
        refine any_run 1 (fun w' hS' => (r_not rfl)) rfl (by kernel_rfl) (by kernel_rfl) (by kernel_rfl) rfl hS ?_
        refine any_mvt 2 rfl (by kernel_rfl) (by kernel_rfl) (by kernel_rfl) rfl hS ?_
        refine a_split 59 false rfl (fun g29 => ?_) (fun g => absurd g (by simp))
        refine any_run 3 (fun w' hS' => (r_loadA (blkR (getV (abs l2) c.name c.number).f) rfl rfl rfl (by first | rfl | (rw [binV_len]; rfl) | (rw [dgR_len]; rfl) | (rw [refR_len]; rfl) | (rw [secR_len]; rfl) | (rw [List.length_map, tagF_len]; rfl) | (rw [callR_len]; rfl) | (rw [blkR_len]; rfl)) ((Blk.all (hS'.blk' hB2126 trivial))))) rfl (by kernel_rfl) (by kernel_rfl) (by kernel_rfl) (g_yes rfl rfl rfl (by rw [g29] <;> rfl)) hS ?_
        refine any_run 4 (fun w' hS' => (r_loadA (blkR (getV (abs l2) c.name c.number).f) rfl rfl rfl (by first | rfl | (rw [binV_len]; rfl) | (rw [dgR_len]; rfl) | (rw [refR_len]; rfl) | (rw [secR_len]; rfl) | (rw [List.length_map, tagF_len]; rfl) | (rw [callR_len]; rfl) | (rw [blkR_len]; rfl)) ((Blk.all (hS'.blk' hB26' trivial))))) rfl (by kernel_rfl) (by kernel_rfl) (by kernel_rfl) (g_yes rfl rfl rfl (by rw [g29] <;> rfl)) hS ?_
        refine any_run 5 (fun w' hS' => (r_neqC (p := (getV (abs l2) c.name c.number).f = (getV (abs l2) c.name c.number).f) rfl rfl rfl rfl (by kernel_rfl) (okC_bk _) (okC_bk _) rfl (blkR_inj))) rfl (by kernel_rfl) (by kernel_rfl) (by kernel_rfl) (g_yes rfl rfl rfl (by rw [g29] <;> rfl)) hS ?_
        refine any_run 6 (fun w' hS' => (r_pickF rfl (by rw [g29] <;> rfl))) rfl (by kernel_rfl) (by kernel_rfl) (by kernel_rfl) rfl hS ?_
        refine any_mvt 7 rfl (by kernel_rfl) (by kernel_rfl) (by kernel_rfl) rfl hS ?_
        refine a_split 64 false rfl (fun g33 => ?_) (fun g => absurd g (by simp))
        refine any_mvt 8 rfl (by kernel_rfl) (by kernel_rfl) (by kernel_rfl) (g_yes rfl rfl rfl g33) hS ?_
        refine any_mvt 9 rfl (by kernel_rfl) (by kernel_rfl) (by kernel_rfl) (g_yes rfl rfl rfl g33) hS ?_
        refine any_run 10 (fun w' hS' => (r_neqB rfl rfl rfl)) rfl (by kernel_rfl) (by kernel_rfl) (by kernel_rfl) (g_yes rfl rfl rfl g33) hS ?_
        refine any_run 11 (fun w' hS' => (r_pickF rfl g33)) rfl (by kernel_rfl) (by kernel_rfl) (by kernel_rfl) rfl hS ?_
        refine any_mvt 12 rfl (by kernel_rfl) (by kernel_rfl) (by kernel_rfl) rfl hS ?_
        refine a_split 69 false rfl (fun g34 => ?_) (fun g => absurd g (by simp))
        refine any_mvt 13 rfl (by kernel_rfl) (by kernel_rfl) (by kernel_rfl) (g_yes rfl rfl rfl g34) hS ?_
        refine any_mvt 14 rfl (by kernel_rfl) (by kernel_rfl) (by kernel_rfl) (g_yes rfl rfl rfl g34) hS ?_
        refine any_run 15 (fun w' hS' => (r_neq rfl rfl)) rfl (by kernel_rfl) (by kernel_rfl) (by kernel_rfl) (g_yes rfl rfl rfl g34) hS ?_
        refine any_run 16 (fun w' hS' => (r_pickF rfl g34)) rfl (by kernel_rfl) (by kernel_rfl) (by kernel_rfl) rfl hS ?_
        refine any_mvt 17 rfl (by kernel_rfl) (by kernel_rfl) (by kernel_rfl) rfl hS ?_
        refine a_split 74 false rfl (fun g35 => ?_) (fun g => absurd g (by simp))
        refine any_mvt 18 rfl (by kernel_rfl) (by kernel_rfl) (by kernel_rfl) (g_yes rfl rfl rfl g35) hS ?_
        refine any_mvt 20 rfl (by kernel_rfl) (by kernel_rfl) (by kernel_rfl) (g_yes rfl rfl rfl g35) hS ?_
        refine any_one 19 (by kernel_rfl) (one_of rfl ?_)
        refine op_call rfl rfl (g_yes rfl rfl rfl g35) (md_Images _ mb bm l2 (M26.m.k hS) (hsm2.m (by decide)) (hbn2.mono (by decide))) ?_; rintro v36 w36 ⟨⟨ysA, hOA⟩, hIA, hk36⟩
        refine ops_nil ⟨(hS.trans hk36), fun hS => ?_⟩
        refine any_one 21 (by kernel_rfl) (one_of rfl ?_)
        refine op_call rfl rfl (g_yes rfl rfl rfl g35) (rf12_Same w36 _ _ (imgD (abs l2)) ysA ys2 hOA.s (hI26.k hS) (imgD_small hbn2 (by decide))) ?_; rintro v38 w38 ⟨rfl, hk38⟩
        refine ops_nil ⟨(hS.trans hk38), fun hS => ?_⟩
        refine any_run 22 (fun w' hS' => (r_not rfl)) rfl (by kernel_rfl) (by kernel_rfl) (by kernel_rfl) (g_yes rfl rfl rfl g35) hS ?_
        refine any_run 23 (fun w' hS' => (r_pickF rfl g35)) rfl (by kernel_rfl) (by kernel_rfl) (by kernel_rfl) rfl hS ?_
        refine any_mvt 24 rfl (by kernel_rfl) (by kernel_rfl) (by kernel_rfl) rfl hS ?_
        refine a_split 81 false rfl (fun g40 => ?_) (fun g => absurd g (by simp))
        refine any_mvt 25 rfl (by kernel_rfl) (by kernel_rfl) (by kernel_rfl) (g_yes rfl rfl rfl (by rw [g40] <;> rfl)) hS ?_
        refine any_mvt 27 rfl (by kernel_rfl) (by kernel_rfl) (by kernel_rfl) (g_yes rfl rfl rfl (by rw [g40] <;> rfl)) hS ?_
        refine any_one 26 (by kernel_rfl) (one_of rfl ?_)
        refine op_call rfl rfl (g_yes rfl rfl rfl (by rw [g40] <;> rfl)) (vl_Encode w38 mb bm l2 (M26.m.k hS) (hsm2.m (by decide)) (hbn2.mono (by decide)) hok2) ?_; rintro v41 w41 ⟨hO41, hk41, hI41⟩
        refine ops_nil ⟨(hS.trans hk41), fun hS => ?_⟩
        refine any_one 28 (by kernel_rfl) (one_of rfl ?_)
        refine op_call rfl rfl (g_yes rfl rfl rfl (by rw [g40] <;> rfl)) (rf12_Encode w41 v2 (imgD (abs l2)) ys2 (hI26.k hS) (by rw [imgD_len]; omega) hok2) ?_; rintro v43 w43 ⟨hO43, hk43⟩
        refine ops_nil ⟨(hS.trans hk43), fun hS => ?_⟩
        refine any_one 29 (by kernel_rfl) (one_of rfl ?_)
        refine op_call rfl rfl (g_yes rfl rfl rfl (by rw [g40] <;> rfl)) (ref01_Same w43 _ _ _ _ (OwnB.by_ (Own.keep hO41 hk43 (fun _ _ => trivial))) (OwnB.by_ hO43)) ?_; rintro v45 w45 ⟨rfl, hk45⟩
        refine ops_nil ⟨(hS.trans hk45), fun hS => ?_⟩
        refine any_run 30 (fun w' hS' => (r_not rfl)) rfl (by kernel_rfl) (by kernel_rfl) (by kernel_rfl) (g_yes rfl rfl rfl (by rw [g40] <;> rfl)) hS ?_
        refine any_run 31 (fun w' hS' => (r_pickF rfl (by rw [g40] <;> rfl))) rfl (by kernel_rfl) (by kernel_rfl) (by kernel_rfl) rfl hS ?_
        refine any_mvt 32 rfl (by kernel_rfl) (by kernel_rfl) (by kernel_rfl) rfl hS ?_
        refine a_split 89 false rfl (fun g47 => ?_) (fun g => absurd g (by rw [decide_eq_true hEnc]; simp))
        refine any_run 33 (fun w' hS' => (r_fieldAddr rfl rfl rfl rfl rfl)) rfl (by kernel_rfl) (by kernel_rfl) (by kernel_rfl) (g_yes rfl rfl rfl (by rw [g47] <;> rfl)) hS ?_
        refine any_run 34 (fun w' hS' => (r_load rfl rfl rfl (((hS'.blk' hBc26 trivial).cell rfl)))) rfl (by kernel_rfl) (by kernel_rfl) (by kernel_rfl) (g_yes rfl rfl rfl (by rw [g47] <;> rfl)) hS ?_
        refine any_run 35 (fun w' hS' => (r_fieldAddr rfl rfl rfl rfl rfl)) rfl (by kernel_rfl) (by kernel_rfl) (by kernel_rfl) (g_yes rfl rfl rfl (by rw [g47] <;> rfl)) hS ?_
        refine any_run 36 (fun w' hS' => (r_load rfl rfl rfl (((hS'.blk' hBc26 trivial).cell rfl)))) rfl (by kernel_rfl) (by kernel_rfl) (by kernel_rfl) (g_yes rfl rfl rfl (by rw [g47] <;> rfl)) hS ?_
        refine any_run 38 (fun w' hS' => (r_fieldAddr rfl rfl rfl rfl rfl)) rfl (by kernel_rfl) (by kernel_rfl) (by kernel_rfl) (g_yes rfl rfl rfl (by rw [g47] <;> rfl)) hS ?_
        refine any_run 39 (fun w' hS' => (r_load rfl rfl rfl (((hS'.blk' hBc26 trivial).cell rfl)))) rfl (by kernel_rfl) (by kernel_rfl) (by kernel_rfl) (g_yes rfl rfl rfl (by rw [g47] <;> rfl)) hS ?_
        refine any_run 40 (fun w' hS' => (r_fieldAddr rfl rfl rfl rfl rfl)) rfl (by kernel_rfl) (by kernel_rfl) (by kernel_rfl) (g_yes rfl rfl rfl (by rw [g47] <;> rfl)) hS ?_
        refine any_run 41 (fun w' hS' => (r_load rfl rfl rfl (((hS'.blk' hBc26 trivial).cell rfl)))) rfl (by kernel_rfl) (by kernel_rfl) (by kernel_rfl) (g_yes rfl rfl rfl (by rw [g47] <;> rfl)) hS ?_
        refine any_one 37 (by kernel_rfl) (one_of rfl ?_)
        refine op_call rfl rfl (g_yes rfl rfl rfl (by rw [g47] <;> rfl)) (vol_Key _ c.name c.number (by omega)) ?_; rintro v52 w52 ⟨rfl, hk52⟩
        refine ops_nil ⟨(hS.trans hk52), fun hS => ?_⟩
        refine any_one 42 (by kernel_rfl) (one_of rfl ?_)
        refine op_call rfl rfl (g_yes rfl rfl rfl (by rw [g47] <;> rfl)) (rf12_Key _ c.name c.number (by omega)) ?_; rintro v54 w54 ⟨rfl, hk54⟩
        refine ops_nil ⟨(hS.trans hk54), fun hS => ?_⟩
        refine any_run 43 (fun w' hS' => (r_neqC (p := keyD c.name c.number = keyD c.name c.number) rfl rfl rfl rfl (by kernel_rfl) (okC_dgR _) (okC_dgR _) rfl (dgR_inj))) rfl (by kernel_rfl) (by kernel_rfl) (by kernel_rfl) (g_yes rfl rfl rfl (by rw [g47] <;> rfl)) hS ?_
        refine any_run 44 (fun w' hS' => (r_pickF rfl (by rw [g47] <;> rfl))) rfl (by kernel_rfl) (by kernel_rfl) (by kernel_rfl) rfl hS ?_
        refine any_done (by kernel_rfl) ?_
        exact ⟨by (repeat (first | with_reducible exact offM_refl _ _ | refine offM_updc rfl ?_ | refine offM_upd rfl ?_ | refine offM_updo rfl ?_ | refine offM_updo_none ?_ | refine offM_head rfl rfl ?_)), congrArg (fun b => [Value.bool b]) (by simp), hS⟩
      · rintro J58 vs w58 ⟨rfl, hk58⟩ -
        refine W_no rfl (rfl) ?_
        refine W_skip ?_
        refine W_region ?_
        refine op_run (r_add rfl rfl) rfl ?_
        refine o_mvt rfl ?_
        refine ops_nil ?_
        have M27 := M26.keep hk58
        have hz := hk1626.size
        refine ⟨by (repeat (first | with_reducible exact offM_refl _ _ | refine offM_updc rfl ?_ | refine offM_upd rfl ?_ | refine offM_updo rfl ?_ | refine offM_updo_none ?_ | refine offM_head rfl rfl ?_)), ⟨v2, k + 1, l2, ys2, congrArg (fun z : Int => [v2, Value.int .i64 z]) hinc, by omega, hrun, hQ2, M27, hI26.k hk58⟩, ?_⟩
        show os.length - (IntKind.i64.wrap ((k : Int) + 1)).toNat < os.length - (k : Int).toNat
        rw [hinc]; omega
    · refine W_exit ?_
      refine W_seq ?_
      refine W_region ?_
      refine o_mvt rfl ?_
      have hokl := imgOk_all hnq (hbn.mono (by decide))
      have hup := sorL_up M.m.nd hQ hnq (hbn.mono (by decide))
      have hsl := hsm.1
      refine op_call rfl rfl rfl (vl_Encode w9 mb bm l' M.m (hsm.m (by decide)) (hbn.mono (by decide)) hokl) ?_; rintro v62 w62 ⟨hO62, hk62, hI62⟩
      have hel := enc_len hsl hokl
      have hby62 : By w62 v62 (encL (sorL (abs l'))) := by rw [← sorL_enc]; exact OwnB.by_ hO62
      refine op_call rfl rfl rfl (vl_DecodeP w62 _ _ hby62 (by rw [← sorL_enc]; omega)) ?_; rintro v63 w63 ⟨p63, k63, rfl, hD⟩
      have hset := setR12_enc hup (by have := (sorL_small hup hsl).1; omega)
      obtain ⟨mb3, bm3, l3, ha3, hp3, hk3, M3⟩ : ∃ mb3 bm3 l3, abs l3 = sorL (abs l') ∧ p63 = some ⟨mb3, 0, none⟩ ∧ k63 = 0 ∧ MSv w62 w63 mb3 bm3 l3 := by
        rcases hD with ⟨h1, _⟩ | ⟨mb3, bm3, l3, h1, h2, h3, h4⟩
        · rw [hset] at h1; cases h1
        · rw [hset] at h1; exact ⟨mb3, bm3, l3, (Option.some.inj h1).symm, h2, h3, h4⟩
      subst hp3
      subst hk3
      refine o_mvt rfl ?_
      refine op_run (r_extract rfl rfl) rfl ?_
      refine op_run (r_extract rfl rfl) rfl ?_
      refine o_ast rfl ?_
      refine o_ast rfl ?_
      refine ops_nil ?_
      refine W_seq ?_
      refine W_region ?_
      refine o_mvt rfl ?_
      refine op_run (r_eql rfl rfl) rfl ?_
      refine o_mvt rfl ?_
      refine g_split rfl rfl rfl (fun g64 => ?_) (fun g => absurd g (by simp))
      refine o_mvt (g_yes rfl rfl rfl g64) ?_
      refine op_run (r_notNilV rfl rfl) (g_yes rfl rfl rfl g64) ?_
      refine o_pkTt rfl g64 rfl ?_
      refine o_mvt rfl ?_
      refine g_split rfl rfl rfl (fun g66 => ?_) (fun g => absurd g (by simp))
      refine o_mvt (g_yes rfl rfl rfl g66) ?_
      refine op_call rfl rfl (g_yes rfl rfl rfl g66) (md_Images w63 mb3 bm3 l3 M3.m (by rw [ha3]; exact (sorL_small hup hsl).m (by decide)) (by rw [ha3]; exact sorL_blk hup (hbn.mono (by decide)))) ?_; rintro v67 w67 ⟨⟨ysA, hOA⟩, hIA, hk67⟩
      refine o_mvt (g_yes rfl rfl rfl g66) ?_
      refine op_call rfl rfl (g_yes rfl rfl rfl g66) (rf12_Same w67 _ _ (imgD (abs l3)) ysA ys hOA.s (by rw [ha3, imgD_up hup, sorL_img]; exact ((hI.k hk62).k M3.k).k hk67) (imgD_small (n := 1000) (by rw [ha3]; exact sorL_blk hup (hbn.mono (by decide))) (by decide))) ?_; rintro v68 w68 ⟨rfl, hk68⟩
      refine o_pkTt rfl g66 rfl ?_
      refine o_ast rfl ?_
      refine ops_nil ?_
      refine W_ret ?_
      refine ret1 (.bool true) rfl ?_ ?_; rfl
      exact ⟨rfl, (((M.k.trans hk62).trans M3.k).trans hk67).trans hk68⟩
end Go.Proofs.YtkmciohghhffnaaGreat.B
