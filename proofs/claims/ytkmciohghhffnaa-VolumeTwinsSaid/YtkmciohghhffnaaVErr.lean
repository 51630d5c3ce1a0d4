/-
  VolumeErrors.
-/
import Derived.Test.YtkmciohghhffnaaVCall
import Derived.Test.YtkmciohghhffnaaVBlq
namespace Go.Proofs.Ytkmciohghhffnaa.B
open Go
set_option linter.unusedVariables false
set_option maxHeartbeats 2000000
set_option maxRecDepth 100000
attribute [local irreducible] W OpsW OpsQ retP
/-- A frozen volume that was there is as it was. -/
theorem step_fr {l : AL} {c : CallV} {k : List UInt8} {v v0 : VA} (h : lookP (stepD l c) k = some v) (hf : v.fr = true) (h0 : lookP l k = some v0) : v0 = v := by
  unfold stepD at h
  split at h
  · have put : ∀ {v1 : VA} (bl : List (Int × Bk)), lookP l c.name = some v1 → v1.fr = false → lookP (putA l c.name bl) k = some v → v0 = v := fun {v1} bl h1 h2 h3 => by
      by_cases hk : k = c.name
      · rw [hk, look_put, h1] at h3
        have h3 := Option.some.inj h3
        rw [← h3] at hf
        rw [show ({ v1 with bl := bl } : VA).fr = v1.fr from rfl, h2] at hf
        cases hf
      · rw [look_put_ne _ hk, h0] at h3; exact Option.some.inj h3
    rcases setR_cases l c.name c.number (decide (c.what = 0)) c.finger with hh | ⟨v1, hv, hfr, _, _, _, ⟨_, e⟩ | ⟨_, hq, e⟩⟩
    · rw [hh.1, h0] at h; exact Option.some.inj h
    · rw [e] at h; exact put _ hv hfr h
    · rw [e] at h; exact put _ hv hfr h
  · split at h
    · unfold creL at h
      split at h
      · rw [look_app_some _ h0] at h; exact Option.some.inj h
      · rw [h0] at h; exact Option.some.inj h
    · split at h
      · by_cases he : copE l c.name c.other c.quota = 0
        · obtain ⟨_, _, v1, hv, _⟩ := copE_ok he
          rw [copL_ok he hv, look_app_some _ h0] at h; exact Option.some.inj h
        · rw [copL_err he, h0] at h; exact Option.some.inj h
      · rw [lookP_del] at h
        split at h
        · cases h
        · rw [h0] at h; exact Option.some.inj h
theorem walk_VolumeErrors (w : World) (v : Value) (os : List CallV) (hv : CallsIn w v os) : Ret Try.prog 4 [v].toArray w fun r w' => r = .bool true ∧ Keep All w w' := by
  obtain ⟨a0, c0, rfl, hc0, hcm0⟩ := SlR.form hv
  refine enter (fn := Try.f4) (n := 124) Try.func4 rfl rfl (by simp) ?_
  refine W_seq ?_
  refine W_region ?_
  refine o_asc rfl ?_
  refine ops_nil ?_
  refine W_seq ?_
  refine W_seq ?_
  refine W_region ?_
  refine op_call rfl rfl rfl (lw_speaks w) ?_; rintro v1 w1 ⟨rfl, hk1⟩
  refine op_run (r_not rfl) rfl ?_
  refine ops_nil ?_
  refine W_no rfl (rfl) ?_
  refine W_skip ?_
  refine W_seq ?_
  refine W_seq ?_
  refine W_region ?_
  refine o_mvt rfl ?_
  refine op_call rfl rfl rfl (lw_great w1 _ os (hv.k hk1)) ?_; rintro v4 w4 ⟨⟨g, rfl, hg⟩, hk4⟩
  refine ops_nil ?_
  refine W_cond rfl (fun h5 => ?_) (fun h5 => ?_)
  · refine W_seq ?_
    refine W_region ?_
    refine o_asc rfl ?_
    refine ops_nil ?_
    refine W_ret ?_
    refine ret1 (.bool true) rfl ?_ ?_; rfl
    exact ⟨rfl, hk1.trans hk4⟩
  · refine W_skip ?_
    refine W_seq ?_
    refine W_region ?_
    obtain ⟨hlen, hall⟩ := hg h5
    have hkA := hk1.trans hk4
    refine op_call rfl rfl rfl (vl_New w4) ?_; rintro v7 w7 ⟨mb, bm, rfl, hmb, M7'⟩
    have M7 : MSv w w7 mb bm [] := ⟨M7'.m, hkA.trans M7'.k, fun z hz => by have := M7'.b z hz; have := hkA.size; omega⟩
    refine o_ast rfl ?_
    refine ops_nil ?_
    refine W_seq ?_
    refine W_seq ?_
    refine W_region ?_
    refine o_mvt rfl ?_
    refine op_run (r_len rfl rfl rfl) rfl ?_
    refine o_mvc rfl ?_
    refine ops_nil ?_
    refine W_block ?_
    refine W_loop [19] [2, 5, 6, 7, 8, 10, 11, 19, 20, 21, 22, 23, 24, 25, 26, 27, 28, 29, 30, 31, 32, 33, 34, 35, 36, 37, 38, 39, 40, 41, 42, 43, 44, 45, 46, 47, 48, 49, 50, 51, 52, 53, 54, 55, 56, 57, 58, 59, 60, 61, 62, 63, 64, 65, 66, 67, 68, 69, 70, 71, 72, 73, 74, 75, 76, 77, 78, 79, 80, 81, 82, 83, 84, 85, 86, 87, 88, 89, 90, 91, 92, 93, 94, 95, 96, 97, 98, 99, 100, 101, 102, 103, 104, 105, 106, 107, 108, 109, 110, 111, 112, 113, 114, 115, 116, 117, 118, 119, 120, 121, 122, 123] (fun vs w' => ∃ (k : Nat) (l' : ModL), vs = [.int .i64 k] ∧ k ≤ os.length ∧ abs l' = runD [] (os.take k) ∧ BlQ (abs l') ∧ MSv w w' mb bm l') (fun vs _ => match vs with | [.int _ y] => os.length - y.toNat | _ => 0) ⟨0, [], rfl, Nat.zero_le _, rfl, BlQ.nil, M7⟩ ?_
    rintro J8 vs w8 ⟨k, l', rfl, hk, ha, hQ, M⟩ -
    have hsm : SmallN 60 (abs l') := by rw [ha]; exact small_take hlen k
    have hbn : BlkN 60 (abs l') := by rw [ha]; exact blk_take hlen k
    refine W_seq ?_
    refine W_region ?_
    refine op_run (r_lss rfl rfl) rfl ?_
    refine ops_nil ?_
    refine W_seq ?_
    refine W_cond_p rfl (fun h9 => ?_) (fun h9 => ?_)
    · refine W_skip ?_
      refine W_seq ?_
      refine W_block ?_
      refine W_seq ?_
      refine W_region ?_
      have hkl : k < os.length := by omega
      obtain ⟨c, hc⟩ : ∃ c, os[k]? = some c := ⟨_, List.getElem?_eq_getElem hkl⟩
      obtain ⟨b, off, cp, ev_, _, hcell⟩ := (hv.k M.k).at hc
      cases ev_
      have hinc := inc64' k (by unfold maxLen at hcm0; omega)
      have hcs := hall c (List.mem_of_getElem? hc)
      have htk : runD [] (os.take (k + 1)) = stepD (abs l') c := by
        rw [List.take_succ_eq_append_getElem hkl, (List.getElem?_eq_some_iff.1 hc).2, runD_snoc, ← ha]
      have hnl : c.name.length ≤ 2 ^ 40 := by have := hcs.1; omega
      have hol : c.other.length ≤ 2 ^ 40 := by have := hcs.2; omega
      refine op_run (r_idxS rfl rfl rfl rfl (by omega) (by omega)) rfl ?_
      refine op_run (r_loadA (callR c) rfl rfl rfl (by first | rfl | (rw [binV_len]; rfl) | (rw [dgR_len]; rfl) | (rw [refR_len]; rfl) | (rw [secR_len]; rfl) | (rw [List.length_map, tagF_len]; rfl) | (rw [callR_len]; rfl) | (rw [blkR_len]; rfl) | (rw [imR_len]; rfl)) ((fun j u hj => by rw [Int.toNat_natCast]; exact hcell j u hj))) rfl ?_
      refine o_alloc rfl rfl rfl ?_; intro w12 b12 e12 hB12 hk12 hs12
      have hB12' : Blk w12 b12 (callR CallV.zero) 43 := hB12
      have M12 := M.keep hk12
      have hzk := M.k.size
      refine o_storeA (cs := callR c) rfl rfl (by first | rfl | exact binV_one _ | exact dgR_one _ | exact refR_one _ | exact secR_one _ | exact all_c8 _ | exact callR_one _ | exact blkR_one _ | (exact imR_one1 (by assumption))) (by first | rfl | (rw [binV_len]; rfl) | (rw [dgR_len]; rfl) | (rw [refR_len]; rfl) | (rw [secR_len]; rfl) | (rw [List.length_map, tagF_len]; rfl) | (rw [callR_len]; rfl) | (rw [blkR_len]; rfl) | (rw [imR_len]; rfl)) hB12' (by exact Nat.le_of_eq (by simp [callR_len])) rfl ?_; intro w13 hB13 hk13 hs13
      have hB13' := call_st hB13
      have M13 := M12.st hB12' (by decide) hk13 (by omega)
      refine ops_nil ?_
      refine W_seq ?_
      refine W_region ?_
      refine o_mvt rfl ?_
      refine op_call rfl rfl rfl (md_Images w13 mb bm l' M13.m (hsm.m (by decide)) (hbn.mono (by decide))) ?_; rintro v14 w14 ⟨⟨ysB, hOB⟩, hIB, hk14⟩
      have M14 := M13.keep hk14
      have hB14' := hk14.blk' hB13' trivial
      have hSB := hOB.s
      refine o_ast rfl ?_
      refine ops_nil ?_
      refine W_seq ?_
      refine W_region ?_
      refine o_asc rfl ?_
      refine ops_nil ?_
      refine W_cut [7] [7, 25, 26, 27, 28, 29, 30, 31, 32, 33, 34, 35, 36, 37, 38, 39, 40, 41, 42, 43, 44, 45, 46, 47, 48, 49, 50, 51, 52, 53, 54, 55, 56, 57, 58, 59, 60, 61, 62, 63, 64, 65, 66, 67, 68, 69, 70, 71, 72, 73, 74, 75, 76] (fun vs w15 => ∃ (e : Int) (l2 : ModL), vs = [.int .i64 e] ∧ abs l2 = stepD (abs l') c ∧ (e ≠ 0 → stepD (abs l') c = abs l') ∧ ModS w14 mb bm l' w15 l2) ?_ ?_
      · refine W_seq ?_
        refine W_region ?_
        refine op_run (r_fieldAddr rfl rfl rfl rfl rfl) rfl ?_
        refine op_run (r_load rfl rfl rfl (hB14'.cell rfl)) rfl ?_
        refine ops_nil ?_
        refine W_block ?_
        refine W_seq ?_
        refine W_region ?_
        refine op_run (r_eql rfl rfl) rfl ?_
        refine o_ast rfl ?_
        refine ops_nil ?_
        refine W_cond_p rfl (fun h17 => ?_) (fun h17 => ?_)
        · refine W_region ?_
          refine o_mvt rfl ?_
          refine op_run (r_fieldAddr rfl rfl rfl rfl rfl) rfl ?_
          have hp : setR (abs l') c.name c.number (decide (c.what = 0)) c.finger = putR (abs l') c.name c.number c.finger := by rw [decide_eq_true h17]; rfl
          refine op_run (r_load rfl rfl rfl (hB14'.cell rfl)) rfl ?_
          refine op_run (r_fieldAddr rfl rfl rfl rfl rfl) rfl ?_
          refine op_run (r_load rfl rfl rfl (hB14'.cell rfl)) rfl ?_
          refine op_run (r_fieldAddr rfl rfl rfl rfl rfl) rfl ?_
          refine op_run (r_loadA (blkR c.finger) rfl rfl rfl (by first | rfl | (rw [binV_len]; rfl) | (rw [dgR_len]; rfl) | (rw [refR_len]; rfl) | (rw [secR_len]; rfl) | (rw [List.length_map, tagF_len]; rfl) | (rw [callR_len]; rfl) | (rw [blkR_len]; rfl) | (rw [imR_len]; rfl)) ((fun j u hj => by rw [Addr.add_lit]; exact hB14'.cell (callR_blk c hj)))) rfl ?_
          refine op_call rfl rfl rfl (vl_Put w14 mb bm l' c.name c.number c.finger M14.m) ?_; rintro v21 w21 ⟨rfl, l2, ha2, hS2⟩
          refine o_mvt rfl ?_
          refine op_run (r_extract rfl rfl) rfl ?_
          refine op_run (r_extract rfl rfl) rfl ?_
          refine op_run (r_extract rfl rfl) rfl ?_
          refine o_ast rfl ?_
          refine ops_nil ?_
          have hst : stepD (abs l') c = (putR (abs l') c.name c.number c.finger).2 := by rw [stepD_01 (.inl h17), hp]
          refine ⟨by (repeat (first | with_reducible exact offM_refl _ _ | refine offM_updc rfl ?_ | refine offM_upd rfl ?_ | refine offM_updo rfl ?_ | refine offM_updo_none ?_ | refine offM_head rfl rfl ?_)), _, l2, rfl, by rw [ha2, hst], fun he => ?_, hS2⟩
          rw [stepD_01 (.inl h17)]
          rcases setR_cases (abs l') c.name c.number (decide (c.what = 0)) c.finger with hh | ⟨_, _, _, _, _, e, _⟩
          · exact hh.1
          · rw [hp] at e; rw [e] at he; exact absurd rfl he
        · refine W_seq ?_
          refine W_region ?_
          refine op_run (r_eql rfl rfl) rfl ?_
          refine o_ast rfl ?_
          refine ops_nil ?_
          refine W_cond_p rfl (fun h23 => ?_) (fun h23 => ?_)
          · refine W_region ?_
            refine o_mvt rfl ?_
            refine op_run (r_fieldAddr rfl rfl rfl rfl rfl) rfl ?_
            have hp : setR (abs l') c.name c.number (decide (c.what = 0)) c.finger = dropR (abs l') c.name c.number := by rw [decide_eq_false h17]; rfl
            refine op_run (r_load rfl rfl rfl (hB14'.cell rfl)) rfl ?_
            refine op_run (r_fieldAddr rfl rfl rfl rfl rfl) rfl ?_
            refine op_run (r_load rfl rfl rfl (hB14'.cell rfl)) rfl ?_
            refine op_call rfl rfl rfl (vl_Drop w14 mb bm l' c.name c.number M14.m) ?_; rintro v26 w26 ⟨rfl, l2, ha2, hS2⟩
            refine o_mvt rfl ?_
            refine op_run (r_extract rfl rfl) rfl ?_
            refine op_run (r_extract rfl rfl) rfl ?_
            refine op_run (r_extract rfl rfl) rfl ?_
            refine o_ast rfl ?_
            refine ops_nil ?_
            have hst : stepD (abs l') c = (dropR (abs l') c.name c.number).2 := by rw [stepD_01 (.inr h23), hp]
            refine ⟨by (repeat (first | with_reducible exact offM_refl _ _ | refine offM_updc rfl ?_ | refine offM_upd rfl ?_ | refine offM_updo rfl ?_ | refine offM_updo_none ?_ | refine offM_head rfl rfl ?_)), _, l2, rfl, by rw [ha2, hst], fun he => ?_, hS2⟩
            rw [stepD_01 (.inr h23)]
            rcases setR_cases (abs l') c.name c.number (decide (c.what = 0)) c.finger with hh | ⟨_, _, _, _, _, e, _⟩
            · exact hh.1
            · rw [hp] at e; rw [e] at he; exact absurd rfl he
          · refine W_seq ?_
            refine W_region ?_
            refine op_run (r_eql rfl rfl) rfl ?_
            refine o_ast rfl ?_
            refine ops_nil ?_
            refine W_cond_p rfl (fun h28 => ?_) (fun h28 => ?_)
            · refine W_region ?_
              refine o_mvt rfl ?_
              refine op_run (r_fieldAddr rfl rfl rfl rfl rfl) rfl ?_
              refine op_run (r_load rfl rfl rfl (hB14'.cell rfl)) rfl ?_
              refine op_run (r_fieldAddr rfl rfl rfl rfl rfl) rfl ?_
              refine op_run (r_load rfl rfl rfl (hB14'.cell rfl)) rfl ?_
              refine op_call rfl rfl rfl (vl_Create w14 mb bm l' c.name c.quota M14.m hnl) ?_; rintro v31 w31 ⟨rfl, l2, ha2, hS2⟩
              refine o_ast rfl ?_
              refine ops_nil ?_
              exact ⟨by (repeat (first | with_reducible exact offM_refl _ _ | refine offM_updc rfl ?_ | refine offM_upd rfl ?_ | refine offM_updo rfl ?_ | refine offM_updo_none ?_ | refine offM_head rfl rfl ?_)), _, l2, rfl, by rw [ha2, stepD_2 h28], fun he => by rw [stepD_2 h28]; unfold creL; rw [if_neg he], hS2⟩
            · refine W_seq ?_
              refine W_region ?_
              refine op_run (r_eql rfl rfl) rfl ?_
              refine o_ast rfl ?_
              refine ops_nil ?_
              refine W_cond_p rfl (fun h33 => ?_) (fun h33 => ?_)
              · refine W_region ?_
                refine o_mvt rfl ?_
                refine op_run (r_fieldAddr rfl rfl rfl rfl rfl) rfl ?_
                refine op_run (r_load rfl rfl rfl (hB14'.cell rfl)) rfl ?_
                refine op_run (r_fieldAddr rfl rfl rfl rfl rfl) rfl ?_
                refine op_run (r_load rfl rfl rfl (hB14'.cell rfl)) rfl ?_
                refine op_run (r_fieldAddr rfl rfl rfl rfl rfl) rfl ?_
                refine op_run (r_load rfl rfl rfl (hB14'.cell rfl)) rfl ?_
                refine op_run (r_fieldAddr rfl rfl rfl rfl rfl) rfl ?_
                refine op_run (r_load rfl rfl rfl (hB14'.cell rfl)) rfl ?_
                refine op_call rfl rfl rfl (vl_Copy w14 mb bm l' c.name c.other c.quota c.frozen M14.m hol) ?_; rintro v38 w38 ⟨rfl, l2, ha2, hS2⟩
                refine o_ast rfl ?_
                refine ops_nil ?_
                exact ⟨by (repeat (first | with_reducible exact offM_refl _ _ | refine offM_updc rfl ?_ | refine offM_upd rfl ?_ | refine offM_updo rfl ?_ | refine offM_updo_none ?_ | refine offM_head rfl rfl ?_)), _, l2, rfl, by rw [ha2, stepD_3 h33], fun he => by rw [stepD_3 h33, copL_err he], hS2⟩
              · refine W_region ?_
                refine o_mvt rfl ?_
                refine op_run (r_fieldAddr rfl rfl rfl rfl rfl) rfl ?_
                refine op_run (r_load rfl rfl rfl (hB14'.cell rfl)) rfl ?_
                refine op_call rfl rfl rfl (vl_Delete w14 mb bm l' c.name M14.m) ?_; rintro v41 w41 ⟨rfl, l2, ha2, hS2⟩
                refine o_ast rfl ?_
                refine ops_nil ?_
                have hst : stepD (abs l') c = delP (abs l') c.name := stepD_X (by omega) h28 h33
                refine ⟨by (repeat (first | with_reducible exact offM_refl _ _ | refine offM_updc rfl ?_ | refine offM_upd rfl ?_ | refine offM_updo rfl ?_ | refine offM_updo_none ?_ | refine offM_head rfl rfl ?_)), _, l2, rfl, by rw [ha2, hst], fun he => ?_, hS2⟩
                rw [hst]
                cases hvn : lookP (abs l') c.name with
                | none => exact delP_none (lookP_none hvn)
                | some v => unfold delE at he; rw [hvn] at he; exact absurd rfl he
      · rintro J43 vs w43 ⟨e, l2, rfl, ha2, he2, hS2⟩ -
        have M43 := M14.go hS2
        have hsm2 : SmallN 61 (abs l2) := by rw [ha2]; exact small_step hsm c
        have hbn2 : BlkN 61 (abs l2) := by rw [ha2]; exact blk_step hbn c
        have hQ2 : BlQ (abs l2) := by rw [ha2]; exact hQ.step M14.m.nd.1 c
        refine W_seq ?_
        refine W_region ?_
        refine o_mvt rfl ?_
        refine op_call rfl rfl rfl (md_Images w43 mb bm l2 M43.m (hsm2.m (by decide)) (hbn2.mono (by decide))) ?_; rintro v44 w44 ⟨⟨ysA, hOA⟩, hIA, hk44⟩
        have M44 := M43.keep hk44
        have hA44 := hOA.s
        have hB44 : ImgsS w44 v14 (imgD (abs l')) ysB := (hSB.kM M14.m hS2.2.1).k hk44
        obtain ⟨aA, cA, rfl, hcA, hcmA⟩ := hA44.o.form
        obtain ⟨aB, cB, rfl, hcB, hcmB⟩ := hB44.o.form
        refine o_ast rfl ?_
        refine ops_nil ?_
        refine W_seq ?_
        refine W_cut [86] [79, 80, 81, 82, 83, 84, 85, 86] (fun vs w45 => vs = [.bool false] ∧ Keep All w44 w45) ?_ ?_
        · refine W_region ?_
          refine o_mvt rfl ?_
          refine op_run (r_neq rfl rfl) rfl ?_
          refine o_mvt rfl ?_
          refine g_split rfl rfl rfl (fun g46 => ?_) (fun g46 => ?_)
          · refine o_mvt (g_yes rfl rfl rfl g46) ?_
            refine o_mvt (g_yes rfl rfl rfl g46) ?_
            refine op_call rfl rfl (g_yes rfl rfl rfl g46) (rf12_Same w44 _ _ (imgD (abs l2)) ysA ysB hA44 (by have e2 : abs l2 = abs l' := ha2.trans (he2 (by simpa using g46)); rw [e2]; exact hB44) (imgD_small hbn2 (by decide))) ?_; rintro v47 w47 ⟨rfl, hk47⟩
            refine op_run (r_not rfl) (g_yes rfl rfl rfl g46) ?_
            refine o_pkTt rfl g46 rfl ?_
            refine ops_nil ?_
            exact ⟨by (repeat (first | with_reducible exact offM_refl _ _ | refine offM_updc rfl ?_ | refine offM_upd rfl ?_ | refine offM_updo rfl ?_ | refine offM_updo_none ?_ | refine offM_head rfl rfl ?_)), rfl, hk47⟩
          · refine op_skip (g_no rfl rfl rfl g46) ?_
            refine op_skip (g_no rfl rfl rfl g46) ?_
            refine op_skip (g_no rfl rfl rfl g46) ?_
            refine op_skip (g_no rfl rfl rfl g46) ?_
            refine o_pkFc rfl g46 rfl ?_
            refine ops_nil ?_
            exact ⟨by (repeat (first | with_reducible exact offM_refl _ _ | refine offM_updc rfl ?_ | refine offM_upd rfl ?_ | refine offM_updo rfl ?_ | refine offM_updo_none ?_ | refine offM_head rfl rfl ?_)), rfl, Keep.refl _⟩
        · rintro J50 vs w50 ⟨rfl, hk50⟩ -
          refine W_no rfl (rfl) ?_
          refine W_skip ?_
          refine W_seq ?_
          refine W_region ?_
          refine o_mvt rfl ?_
          refine op_run (r_len rfl rfl rfl) rfl ?_
          refine o_mvc rfl ?_
          refine ops_nil ?_
          refine W_block ?_
          have hA50 := hA44.k hk50
          have hB50 := hB44.k hk50
          have M50 := M44.keep hk50
          have hlB := imgD_len (abs l')
          refine W_loop [89] [2, 10, 11, 89, 90, 91, 92, 93, 94, 95, 96, 97, 98, 99, 100, 101, 102, 103, 104, 105, 106, 107, 108, 109, 110, 111, 112, 113, 114, 115, 116, 117, 118, 119, 120, 121, 122] (fun vs w' => ∃ (j : Nat), vs = [.int .i64 j] ∧ j ≤ (imgD (abs l2)).length ∧ Keep All w50 w') (fun vs _ => match vs with | [.int _ y] => (imgD (abs l2)).length - y.toNat | _ => 0) ⟨0, rfl, Nat.zero_le _, Keep.refl _⟩ ?_
          rintro J53 vs w53 ⟨j, rfl, hj, hkJ⟩ -
          refine W_seq ?_
          refine W_region ?_
          refine op_run (r_lss rfl rfl) rfl ?_
          refine ops_nil ?_
          refine W_seq ?_
          refine W_cond_p rfl (fun h54 => ?_) (fun h54 => ?_)
          · refine W_skip ?_
            refine W_seq ?_
            refine W_block ?_
            refine W_seq ?_
            refine W_region ?_
            have hjl : j < (imgD (abs l2)).length := by omega
            obtain ⟨i, x, bi, oi, ci, hy, hi, ei, hci, hbi⟩ := (hA50.k hkJ).at hjl
            cases ei
            have hincj := inc64' j (by unfold maxLen at hcmA; omega)
            obtain ⟨vi, hvi, ei⟩ := imgD_iff.1 (List.mem_of_getElem? hi)
            have hx1 : one x = true := by obtain ⟨_, _, rfl, _⟩ := hbi.form; rfl
            refine op_run (r_idxS rfl rfl rfl rfl (by omega) (by omega)) rfl ?_
            refine op_run (r_loadA (imR (i, x)) rfl rfl rfl (by first | rfl | (rw [binV_len]; rfl) | (rw [dgR_len]; rfl) | (rw [refR_len]; rfl) | (rw [secR_len]; rfl) | (rw [List.length_map, tagF_len]; rfl) | (rw [callR_len]; rfl) | (rw [blkR_len]; rfl) | (rw [imR_len]; rfl)) ((fun m u hm => by rw [Int.toNat_natCast, Addr.add_lit]; exact hci m u hm))) rfl ?_
            refine o_alloc rfl rfl rfl ?_; intro w57 b57 e57 hB57 hk57 hs57
            have hB57' : Blk w57 b57 (imR (⟨[], 0, false, []⟩, .slice none 0 0)) 55 := hB57
            refine o_storeA (cs := imR (i, x)) rfl rfl (by first | rfl | exact binV_one _ | exact dgR_one _ | exact refR_one _ | exact secR_one _ | exact all_c8 _ | exact callR_one _ | exact blkR_one _ | (exact imR_one1 (by assumption))) (by first | rfl | (rw [binV_len]; rfl) | (rw [dgR_len]; rfl) | (rw [refR_len]; rfl) | (rw [secR_len]; rfl) | (rw [List.length_map, tagF_len]; rfl) | (rw [callR_len]; rfl) | (rw [blkR_len]; rfl) | (rw [imR_len]; rfl)) hB57' (by exact Nat.le_of_eq (by simp [imR_len])) rfl ?_; intro w58 hB58 hk58 hs58
            have hB58' : Blk w58 b57 (imR (i, x)) 55 := by
              have h := hB58
              rwa [splice_all (by rw [imR_len, imR_len])] at h
            have hkJ8 : Keep All w50 w58 := (hkJ.trans hk57).new hk58 (by have := hkJ.size; omega)
            have hb58 := hbi.keep (hk57.new hk58 (by omega)) (fun _ _ => trivial)
            refine ops_nil ?_
            refine W_seq ?_
            refine W_region ?_
            refine o_mvt rfl ?_
            refine op_run (r_fieldAddr rfl rfl rfl rfl rfl) rfl ?_
            refine op_run (r_load rfl rfl rfl (hB58'.cell rfl)) rfl ?_
            refine op_call rfl rfl rfl (rf12_Find w58 _ (imgD (abs l')) ysB i.nm (hB50.k hkJ8)) ?_; rintro v60 w60 ⟨⟨z, rfl, hz⟩, hk60⟩
            have hB60' := hk60.blk' hB58' trivial
            have hb60 := hb58.keep hk60 (fun _ _ => trivial)
            have hB060 := (hB50.k hkJ8).k hk60
            have hzz := find_case hz
            obtain ⟨xa, xc, rfl, _, _⟩ := hb60.form
            have hiq : (i.bl.length : Int) ≤ i.q := by
              rw [ei]; show ((blkS vi.bl).length : Int) ≤ vi.q
              rw [blkS_len]; exact hQ2 _ (lookP_mem hvi)
            refine o_ast rfl ?_
            refine ops_nil ?_
            refine W_cut [121] [97, 98, 99, 100, 101, 102, 103, 104, 105, 106, 107, 108, 109, 110, 111, 112, 113, 114, 115, 116, 117, 118, 119, 120, 121] (fun vs w61 => vs = [.bool false] ∧ Keep All w60 w61) ?_ ?_
            · refine W_held (fun w' => Keep All w60 w') (by kernel_rfl) (Keep.drawn w60) (fun hS => ?_)
              refine any_run 0 (fun w' hS' => (r_fieldAddr rfl rfl rfl rfl rfl)) rfl (by kernel_rfl) (by kernel_rfl) (by kernel_rfl) rfl hS ?_
              refine any_run 1 (fun w' hS' => (r_load rfl rfl rfl (((hS'.blk' hB60' trivial).cell rfl)))) rfl (by kernel_rfl) (by kernel_rfl) (by kernel_rfl) rfl hS ?_
              refine any_run 2 (fun w' hS' => (r_len rfl rfl rfl)) rfl (by kernel_rfl) (by kernel_rfl) (by kernel_rfl) rfl hS ?_
              refine any_run 3 (fun w' hS' => (r_fieldAddr rfl rfl rfl rfl rfl)) rfl (by kernel_rfl) (by kernel_rfl) (by kernel_rfl) rfl hS ?_
              refine any_run 4 (fun w' hS' => (r_load rfl rfl rfl (((hS'.blk' hB60' trivial).cell rfl)))) rfl (by kernel_rfl) (by kernel_rfl) (by kernel_rfl) rfl hS ?_
              refine any_run 5 (fun w' hS' => (r_gtr rfl rfl)) rfl (by kernel_rfl) (by kernel_rfl) (by kernel_rfl) rfl hS ?_
              refine any_mvt 6 rfl (by kernel_rfl) (by kernel_rfl) (by kernel_rfl) rfl hS ?_
              refine a_split 103 false rfl (fun g65 => ?_) (fun g => absurd g ((by show ¬ (decide _ = true); rw [decide_eq_true_eq]; show ¬ i.q < (i.bl.length : Int); omega)))
              refine any_run 7 (fun w' hS' => (r_fieldAddr rfl rfl rfl rfl rfl)) rfl (by kernel_rfl) (by kernel_rfl) (by kernel_rfl) (g_yes rfl rfl rfl g65) hS ?_
              refine any_run 8 (fun w' hS' => (r_load rfl rfl rfl (((hS'.blk' hB60' trivial).cell rfl)))) rfl (by kernel_rfl) (by kernel_rfl) (by kernel_rfl) (g_yes rfl rfl rfl g65) hS ?_
              refine any_mvt 9 rfl (by kernel_rfl) (by kernel_rfl) (by kernel_rfl) (g_yes rfl rfl rfl g65) hS ?_
              refine a_split 106 true rfl (fun g67 => ?_) (fun g67 => ?_)
              · refine any_mvt 10 rfl (by kernel_rfl) (by kernel_rfl) (by kernel_rfl) (g_yes rfl rfl rfl g67) hS ?_
                refine any_run 11 (fun w' hS' => (r_geq rfl rfl)) rfl (by kernel_rfl) (by kernel_rfl) (by kernel_rfl) (g_yes rfl rfl rfl g67) hS ?_
                refine any_run 12 (fun w' hS' => (r_pickT rfl g67)) rfl (by kernel_rfl) (by kernel_rfl) (by kernel_rfl) (g_yes rfl rfl rfl g65) hS ?_
                refine any_mvt 13 rfl (by kernel_rfl) (by kernel_rfl) (by kernel_rfl) (g_yes rfl rfl rfl g65) hS ?_
                refine a_split 110 true rfl (fun g68 => ?_) (fun g68 => ?_)
                · have hz0 : 0 ≤ z := of_decide_eq_true g68
                  obtain ⟨v0, ki, hv0, rfl, hki⟩ : ∃ (v : VA) (k : Nat), lookP (abs l') i.nm = some v ∧ z = k ∧ (imgD (abs l'))[k]? = some ⟨i.nm, v.q, v.fr, blkS v.bl⟩ := by
                    rcases hzz with ⟨_, e⟩ | hh
                    · omega
                    · exact hh
                  have hkil := (List.getElem?_eq_some_iff.1 hki).1
                  have hinc3 := inc64' ki (by unfold maxLen at hcmB; omega)
                  have hfi : vi.fr = true := by rw [ei] at g67; exact g67
                  have ev0 : v0 = vi := step_fr (by rw [← ha2]; exact hvi) hfi hv0
                  rw [ev0, ← ei] at hki
                  obtain ⟨xk, hsub⟩ := hB060.sub hki
                  refine any_run 14 (fun w' hS' => (r_loadA (imR (i, .slice xa i.bl.length xc)) rfl rfl rfl (by first | rfl | (rw [binV_len]; rfl) | (rw [dgR_len]; rfl) | (rw [refR_len]; rfl) | (rw [secR_len]; rfl) | (rw [List.length_map, tagF_len]; rfl) | (rw [callR_len]; rfl) | (rw [blkR_len]; rfl) | (rw [imR_len]; rfl)) ((hS'.blk' hB60' trivial).all))) rfl (by kernel_rfl) (by kernel_rfl) (by kernel_rfl) (g_yes rfl rfl rfl g68) hS ?_
                  refine any_mvt 16 rfl (by kernel_rfl) (by kernel_rfl) (by kernel_rfl) (g_yes rfl rfl rfl g68) hS ?_
                  refine any_mvt 17 rfl (by kernel_rfl) (by kernel_rfl) (by kernel_rfl) (g_yes rfl rfl rfl g68) hS ?_
                  refine any_mvt 18 rfl (by kernel_rfl) (by kernel_rfl) (by kernel_rfl) (g_yes rfl rfl rfl g68) hS ?_
                  refine any_run 19 (fun w' hS' => (r_add rfl rfl)) rfl (by kernel_rfl) (by kernel_rfl) (by kernel_rfl) (g_yes rfl rfl rfl g68) hS ?_
                  refine any_run 20 (fun w' hS' => ((r_sliceS_lohi rfl rfl rfl rfl rfl (by omega) (by rw [hinc3]; omega) (by rw [hinc3]; omega)).val ((show subSl aB 4 ((ki : Int)).toNat (IntKind.i64.wrap ((ki : Int) + 1)).toNat cB = subSl aB 4 ki (ki + 1) cB by rw [hinc3]; rfl)))) rfl (by kernel_rfl) (by kernel_rfl) (by kernel_rfl) (g_yes rfl rfl rfl g68) hS ?_
                  refine any_one 15 (by kernel_rfl) (one_of rfl ?_)
                  refine o_bsR imR imR_len [(i, .slice xa i.bl.length xc)] rfl ti_im rfl rfl rfl rfl rfl (g_yes rfl rfl rfl g68) ?_; intro w71 b71 e71 hB71 hk71 hs71
                  refine ops_nil ⟨(hS.trans hk71), fun hS => ?_⟩
                  refine any_one 21 (by kernel_rfl) (one_of rfl ?_)
                  refine op_call rfl rfl (g_yes rfl rfl rfl g68) (rf12_Same w71 _ _ [i] [(i, .slice xa i.bl.length xc)] [(_, xk)] (ImgsS.one hB71 (hb60.keep hS (fun _ _ => trivial))) (hsub.k hS) (fun i' hi' => by rw [List.mem_singleton.1 hi']; exact imgD_small hbn2 (by decide) _ (List.mem_of_getElem? hi))) ?_; rintro v73 w73 ⟨rfl, hk73⟩
                  refine ops_nil ⟨(hS.trans hk73), fun hS => ?_⟩
                  refine any_run 22 (fun w' hS' => (r_not rfl)) rfl (by kernel_rfl) (by kernel_rfl) (by kernel_rfl) (g_yes rfl rfl rfl g68) hS ?_
                  refine any_run 23 (fun w' hS' => (r_pickT rfl g68)) rfl (by kernel_rfl) (by kernel_rfl) (by kernel_rfl) (g_yes rfl rfl rfl g65) hS ?_
                  refine any_run 24 (fun w' hS' => (r_pickF rfl g65)) rfl (by kernel_rfl) (by kernel_rfl) (by kernel_rfl) rfl hS ?_
                  refine any_done (by kernel_rfl) ?_
                  exact ⟨by (repeat (first | with_reducible exact offM_refl _ _ | refine offM_updc rfl ?_ | refine offM_upd rfl ?_ | refine offM_updo rfl ?_ | refine offM_updo_none ?_ | refine offM_head rfl rfl ?_)), rfl, hS⟩
                · refine any_skip 14 rfl (by kernel_rfl) (by kernel_rfl) (by kernel_rfl) (g_no rfl rfl rfl g68) hS ?_
                  refine any_skip 16 rfl (by kernel_rfl) (by kernel_rfl) (by kernel_rfl) (g_no rfl rfl rfl g68) hS ?_
                  refine any_skip 17 rfl (by kernel_rfl) (by kernel_rfl) (by kernel_rfl) (g_no rfl rfl rfl g68) hS ?_
                  refine any_skip 18 rfl (by kernel_rfl) (by kernel_rfl) (by kernel_rfl) (g_no rfl rfl rfl g68) hS ?_
                  refine any_skip 19 rfl (by kernel_rfl) (by kernel_rfl) (by kernel_rfl) (g_no rfl rfl rfl g68) hS ?_
                  refine any_skip 20 rfl (by kernel_rfl) (by kernel_rfl) (by kernel_rfl) (g_no rfl rfl rfl g68) hS ?_
                  refine any_one 15 (by kernel_rfl) (one_of rfl ?_)
                  refine op_skip (g_no rfl rfl rfl g68) ?_
                  refine ops_nil ⟨hS, fun hS => ?_⟩
                  refine any_one 21 (by kernel_rfl) (one_of rfl ?_)
                  refine op_skip (g_no rfl rfl rfl g68) ?_
                  refine ops_nil ⟨hS, fun hS => ?_⟩
                  refine any_skip 22 rfl (by kernel_rfl) (by kernel_rfl) (by kernel_rfl) (g_no rfl rfl rfl g68) hS ?_
                  refine any_run 23 (fun w' hS' => (r_pickF rfl g68)) rfl (by kernel_rfl) (by kernel_rfl) (by kernel_rfl) (g_yes rfl rfl rfl g65) hS ?_
                  refine any_run 24 (fun w' hS' => (r_pickF rfl g65)) rfl (by kernel_rfl) (by kernel_rfl) (by kernel_rfl) rfl hS ?_
                  refine any_done (by kernel_rfl) ?_
                  exact ⟨by (repeat (first | with_reducible exact offM_refl _ _ | refine offM_updc rfl ?_ | refine offM_upd rfl ?_ | refine offM_updo rfl ?_ | refine offM_updo_none ?_ | refine offM_head rfl rfl ?_)), rfl, hS⟩
              · refine any_skip 10 rfl (by kernel_rfl) (by kernel_rfl) (by kernel_rfl) (g_no rfl rfl rfl g67) hS ?_
                refine any_skip 11 rfl (by kernel_rfl) (by kernel_rfl) (by kernel_rfl) (g_no rfl rfl rfl g67) hS ?_
                refine any_run 12 (fun w' hS' => (r_pickF rfl g67)) rfl (by kernel_rfl) (by kernel_rfl) (by kernel_rfl) (g_yes rfl rfl rfl g65) hS ?_
                refine any_mvt 13 rfl (by kernel_rfl) (by kernel_rfl) (by kernel_rfl) (g_yes rfl rfl rfl g65) hS ?_
                refine any_skip 14 rfl (by kernel_rfl) (by kernel_rfl) (by kernel_rfl) (g_no rfl rfl rfl rfl) hS ?_
                refine any_skip 16 rfl (by kernel_rfl) (by kernel_rfl) (by kernel_rfl) (g_no rfl rfl rfl rfl) hS ?_
                refine any_skip 17 rfl (by kernel_rfl) (by kernel_rfl) (by kernel_rfl) (g_no rfl rfl rfl rfl) hS ?_
                refine any_skip 18 rfl (by kernel_rfl) (by kernel_rfl) (by kernel_rfl) (g_no rfl rfl rfl rfl) hS ?_
                refine any_skip 19 rfl (by kernel_rfl) (by kernel_rfl) (by kernel_rfl) (g_no rfl rfl rfl rfl) hS ?_
                refine any_skip 20 rfl (by kernel_rfl) (by kernel_rfl) (by kernel_rfl) (g_no rfl rfl rfl rfl) hS ?_
                refine any_one 15 (by kernel_rfl) (one_of rfl ?_)
                refine op_skip (g_no rfl rfl rfl rfl) ?_
                refine ops_nil ⟨hS, fun hS => ?_⟩
                refine any_one 21 (by kernel_rfl) (one_of rfl ?_)
                refine op_skip (g_no rfl rfl rfl rfl) ?_
                refine ops_nil ⟨hS, fun hS => ?_⟩
                refine any_skip 22 rfl (by kernel_rfl) (by kernel_rfl) (by kernel_rfl) (g_no rfl rfl rfl rfl) hS ?_
                refine any_run 23 (fun w' hS' => (r_pickF rfl rfl)) rfl (by kernel_rfl) (by kernel_rfl) (by kernel_rfl) (g_yes rfl rfl rfl g65) hS ?_
                refine any_run 24 (fun w' hS' => (r_pickF rfl g65)) rfl (by kernel_rfl) (by kernel_rfl) (by kernel_rfl) rfl hS ?_
                refine any_done (by kernel_rfl) ?_
                exact ⟨by (repeat (first | with_reducible exact offM_refl _ _ | refine offM_updc rfl ?_ | refine offM_upd rfl ?_ | refine offM_updo rfl ?_ | refine offM_updo_none ?_ | refine offM_head rfl rfl ?_)), rfl, hS⟩
            · rintro J82 vs w82 ⟨rfl, hk82⟩ -
              refine W_no rfl (rfl) ?_
              refine W_skip ?_
              refine W_region ?_
              refine op_run (r_add rfl rfl) rfl ?_
              refine o_mvt rfl ?_
              refine ops_nil ?_
              refine ⟨by (repeat (first | with_reducible exact offM_refl _ _ | refine offM_updc rfl ?_ | refine offM_upd rfl ?_ | refine offM_updo rfl ?_ | refine offM_updo_none ?_ | refine offM_head rfl rfl ?_)), ⟨j + 1, congrArg (fun z : Int => [Value.int .i64 z]) hincj, by omega, hkJ8.trans (hk60.trans hk82)⟩, ?_⟩
              show (imgD (abs l2)).length - (IntKind.i64.wrap ((j : Int) + 1)).toNat < (imgD (abs l2)).length - (j : Int).toNat
              rw [hincj]; omega
          · refine W_exit ?_
            refine W_region ?_
            refine op_run (r_add rfl rfl) rfl ?_
            refine o_mvt rfl ?_
            refine ops_nil ?_
            refine ⟨by (repeat (first | with_reducible exact offM_refl _ _ | refine offM_updc rfl ?_ | refine offM_upd rfl ?_ | refine offM_updo rfl ?_ | refine offM_updo_none ?_ | refine offM_head rfl rfl ?_)), ⟨k + 1, l2, congrArg (fun z : Int => [Value.int .i64 z]) hinc, by omega, by rw [htk]; exact ha2, hQ2, M50.keep hkJ⟩, ?_⟩
            show os.length - (IntKind.i64.wrap ((k : Int) + 1)).toNat < os.length - (k : Int).toNat
            rw [hinc]; omega
    · refine W_exit ?_
      refine W_seq ?_
      refine W_region ?_
      refine o_asc rfl ?_
      refine ops_nil ?_
      refine W_ret ?_
      refine ret1 (.bool true) rfl ?_ ?_; rfl
      exact ⟨rfl, M.k⟩
end Go.Proofs.Ytkmciohghhffnaa.B
