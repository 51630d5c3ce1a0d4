/-
  VolumeCopies.
-/
import Derived.Test.YtkmciohghhffnaaVErr
namespace Go.Proofs.Ytkmciohghhffnaa.B
open Go
set_option linter.unusedVariables false
set_option maxHeartbeats 2000000
set_option maxRecDepth 100000
attribute [local irreducible] W OpsW OpsQ retP
def copN : List UInt8 := [105, 116, 115, 45, 111, 119, 110, 45, 99, 111, 112, 121]
theorem putA_names (l : AL) (nm : List UInt8) (bl : List (Int × Bk)) : (putA l nm bl).map (·.1) = l.map (·.1) := by
  unfold putA
  rw [List.map_map]
  apply List.map_congr_left
  intro x _
  show (if x.1 = nm then (x.1, { x.2 with bl := bl }) else x).1 = x.1
  split <;> rfl
theorem imgD_same_at {l l' : AL} {k : Nat} {i : Img} {v : VA} (hn : l'.map (·.1) = l.map (·.1)) (hk : (imgD l)[k]? = some i) (hv : lookP l' i.nm = some v) : (imgD l')[k]? = some ⟨i.nm, v.q, v.fr, blkS v.bl⟩ := by
  have h1 := imgD_name hk
  have e : namesD l' = namesD l := by unfold namesD; rw [hn]
  unfold imgD
  rw [List.getElem?_map, e, h1]
  show some (imgOf l' i.nm) = _
  rw [imgOf_some hv]
theorem putR_set (l : AL) (nm : List UInt8) (n : Int) (f : Bk) : setR l nm n true f = putR l nm n f := if_pos rfl
theorem dropR_set (l : AL) (nm : List UInt8) (n : Int) (f : Bk) : setR l nm n false f = dropR l nm n := if_neg (by decide)
/-- A volume of another name stays. -/
theorem setR_other {l : AL} {nm k : List UInt8} {n : Int} {put : Bool} {f : Bk} (h : k ≠ nm) : lookP (setR l nm n put f).2 k = lookP l k := by
  rcases setR_cases l nm n put f with hh | ⟨v, _, _, _, _, _, ⟨_, e⟩ | ⟨_, _, e⟩⟩
  · rw [hh.1]
  · rw [e, look_put_ne _ h]
  · rw [e, look_put_ne _ h]
theorem setR_names (l : AL) (nm : List UInt8) (n : Int) (put : Bool) (f : Bk) : (setR l nm n put f).2.map (·.1) = l.map (·.1) := by
  rcases setR_cases l nm n put f with hh | ⟨v, _, _, _, _, _, ⟨_, e⟩ | ⟨_, _, e⟩⟩
  · rw [hh.1]
  · rw [e, putA_names]
  · rw [e, putA_names]
/-- A block that is put, and dropped. -/
theorem put_drop {l : AL} {nm : List UInt8} {n : Int} {f : Bk} (hN : (l.map (·.1)).Nodup) (he : (putR l nm n f).1.e = 0) (ht : (putR l nm n f).1.t = false) : (dropR (putR l nm n f).2 nm n).2 = l := by
  have hc : (chgV l nm n).e = 0 := Classical.byContradiction fun hh => by rw [putR_err hh] at he; exact hh he
  obtain ⟨v, hv, h0, h1, hf, hg⟩ := chgV_ok hc
  rw [putR_some hc hv] at he ht ⊢
  by_cases hq : lookP v.bl n = none ∧ v.q ≤ v.bl.length
  · rw [if_pos hq] at he; cases he
  · rw [if_neg hq] at he ht ⊢
    rw [hg] at ht
    have hno : lookP v.bl n = none := by
      cases hh : lookP v.bl n with
      | none => rfl
      | some x => rw [hh] at ht; cases ht
    have es : setP v.bl n f = v.bl ++ [(n, f)] := by unfold setP; rw [hno]; rfl
    show (dropR (putA l nm (setP v.bl n f)) nm n).2 = l
    have hv2 : lookP (putA l nm (setP v.bl n f)) nm = some { v with bl := setP v.bl n f } := by rw [look_put, hv]; rfl
    have hg2 : (getV (putA l nm (setP v.bl n f)) nm n).e = 0 := by rw [getV_some hv2, if_neg (by omega)]
    have hc2 : (chgV (putA l nm (setP v.bl n f)) nm n).e = 0 := by
      rw [setR_0 hv2 hf]; exact hg2
    rw [dropR_some hc2 hv2]
    show putA (putA l nm (setP v.bl n f)) nm (delP (setP v.bl n f) n) = l
    have ed : delP (setP v.bl n f) n = v.bl := by
      rw [es]
      have h1 := delP_none (lookP_none hno)
      unfold delP at h1 ⊢
      rw [List.filter_append, h1]
      simp
    rw [ed]
    unfold putA
    rw [List.map_map]
    conv => rhs; rw [← List.map_id l]
    apply List.map_congr_left
    intro y hy
    obtain ⟨k, yv⟩ := y
    by_cases hn : k = nm
    · subst hn
      have ey : yv = v := nd_look hN hy hv
      subst ey
      simp
    · simp [hn]
theorem imgD_nil : imgD [] = [] := by simp [imgD, namesD, sortS]
theorem ImgsS.nil {w : World} {b : Nat} {t : TypeId} (hB : Blk w b [] t) : ImgsS w (.slice (some ⟨b, 0, none⟩) 0 0) (imgD []) [] := by
  rw [imgD_nil]
  exact ⟨rfl, (Own.blk hB rfl (Nat.zero_le _)).sl, fun y hy => by cases hy⟩
theorem walk_VolumeCopies (w : World) (v : Value) (os : List CallV) (nm : List UInt8) (n : Int) (f : Bk) (hv : CallsIn w v os) : Ret Try.prog 5 [v, strA nm, .int .i64 n, .agg (blkR f).toArray].toArray w fun r w' => r = .bool true ∧ Keep All w w' := by
  obtain ⟨a0, c0, rfl, hc0, hcm0⟩ := SlR.form hv
  have hnn := baSize nm
  refine enter (fn := Try.f5) (n := 147) Try.func5 rfl rfl (by simp) ?_
  refine W_seq ?_
  refine W_region ?_
  refine o_box rfl rfl rfl ?_; intro w1 b1 e1 hB1 hk1 hs1
  have hB1' : Blk w1 b1 (blkR f) 41 := hB1
  refine o_asc rfl ?_
  refine ops_nil ?_
  refine W_seq ?_
  refine W_seq ?_
  refine W_region ?_
  refine op_call rfl rfl rfl (lw_speaks w1) ?_; rintro v2 w2 ⟨rfl, hk2⟩
  refine op_run (r_not rfl) rfl ?_
  refine ops_nil ?_
  refine W_no rfl (rfl) ?_
  refine W_skip ?_
  refine W_seq ?_
  refine W_cut [30] [24, 25, 26, 27, 28, 29, 30] (fun vs w5 => ∃ g : Bool, vs = [.bool g] ∧ Keep All w2 w5 ∧ (g = false → os.length ≤ 60 ∧ (∀ o ∈ os, o.small) ∧ nm.length ≤ 100)) ?_ ?_
  · refine W_region ?_
    refine o_mvt rfl ?_
    refine op_call rfl rfl rfl (lw_great w2 _ os (hv.k (hk1.trans hk2))) ?_; rintro v6 w6 ⟨⟨g, rfl, hg⟩, hk6⟩
    refine o_mvt rfl ?_
    refine g_split rfl rfl rfl (fun g7 => ?_) (fun g7 => ?_)
    · refine o_mvt (g_yes rfl rfl rfl g7) ?_
      refine op_run (r_len_str rfl rfl rfl) (g_yes rfl rfl rfl g7) ?_
      refine op_run (r_gtr rfl rfl) (g_yes rfl rfl rfl g7) ?_
      refine o_pkFt rfl g7 rfl ?_
      refine ops_nil ?_
      exact ⟨by (repeat (first | with_reducible exact offM_refl _ _ | refine offM_updc rfl ?_ | refine offM_upd rfl ?_ | refine offM_updo rfl ?_ | refine offM_updo_none ?_ | refine offM_head rfl rfl ?_)), _, rfl, hk6, fun e => ⟨(hg g7).1, (hg g7).2, by have := of_decide_eq_false e; omega⟩⟩
    · refine op_skip (g_no rfl rfl rfl g7) ?_
      refine op_skip (g_no rfl rfl rfl g7) ?_
      refine op_skip (g_no rfl rfl rfl g7) ?_
      refine o_pkTc rfl g7 rfl ?_
      refine ops_nil ?_
      exact ⟨by (repeat (first | with_reducible exact offM_refl _ _ | refine offM_updc rfl ?_ | refine offM_upd rfl ?_ | refine offM_updo rfl ?_ | refine offM_updo_none ?_ | refine offM_head rfl rfl ?_)), true, rfl, hk6, fun e => by cases e⟩
  · rintro J10 vs w10 ⟨g, rfl, hk10, hg⟩ -
    refine W_cond rfl (fun h11 => ?_) (fun h11 => ?_)
    · refine W_seq ?_
      refine W_region ?_
      refine o_asc rfl ?_
      refine ops_nil ?_
      refine W_ret ?_
      refine ret1 (.bool true) rfl ?_ ?_; rfl
      exact ⟨rfl, (hk1.trans hk2).trans hk10⟩
    · refine W_skip ?_
      refine W_seq ?_
      refine W_region ?_
      obtain ⟨hlen, hall, hnl⟩ := hg h11
      have hk010 := hk2.trans hk10
      have hkA := hk1.trans hk010
      have hB110 := hk010.blk' hB1' trivial
      have hlt1 := hB110.lt
      refine op_call rfl rfl rfl (vl_New w10) ?_; rintro v13 w13 ⟨mb, bm, rfl, hmb, M13'⟩
      have M13 : MSv w w13 mb bm [] := ⟨M13'.m, hkA.trans M13'.k, fun z hz => by have := M13'.b z hz; have := hkA.size; omega⟩
      have hB113 := M13'.k.blk' hB110 trivial
      refine o_bs0 rfl rfl rfl ?_; intro w14 b14 e14 hB14 hk14 hs14
      have M14 := M13.keep hk14
      have hB114 := hk14.blk' hB113 trivial
      refine o_ast rfl ?_
      refine o_ast rfl ?_
      refine ops_nil ?_
      refine W_seq ?_
      refine W_seq ?_
      refine W_region ?_
      refine o_mvt rfl ?_
      refine op_run (r_len rfl rfl rfl) rfl ?_
      refine o_mvc rfl ?_
      refine ops_nil ?_
      refine W_block ?_
      refine W_loop [10, 35] [10, 12, 35, 36, 37, 38, 39, 40, 41, 42, 43, 44, 45, 46] (fun vs w' => ∃ (u : Value) (k : Nat) (l' : ModL) (ys : List (Img × Value)), vs = [u, .int .i64 k] ∧ k ≤ os.length ∧ abs l' = runD [] (os.take k) ∧ MSv w w' mb bm l' ∧ ImgsS w' u (imgD (abs l')) ys ∧ Blk w' b1 (blkR f) 41) (fun vs _ => match vs with | [_, .int _ y] => os.length - y.toNat | _ => 0) ⟨_, 0, [], [], rfl, Nat.zero_le _, rfl, M14, ImgsS.nil hB14, hB114⟩ ?_
      rintro J15 vs w15 ⟨u, k, l', ys, rfl, hk, ha, M, hI, hB115⟩ -
      have hsm : SmallN 60 (abs l') := by rw [ha]; exact small_take hlen k
      have hbn : BlkN 60 (abs l') := by rw [ha]; exact blk_take hlen k
      have hl15 := hB115.lt
      refine W_seq ?_
      refine W_region ?_
      refine op_run (r_lss rfl rfl) rfl ?_
      refine ops_nil ?_
      refine W_seq ?_
      refine W_cond_p rfl (fun h16 => ?_) (fun h16 => ?_)
      · refine W_skip ?_
        refine W_seq ?_
        refine W_block ?_
        refine W_seq ?_
        refine W_region ?_
        have hkl : k < os.length := by omega
        obtain ⟨c, hc⟩ : ∃ c, os[k]? = some c := ⟨_, List.getElem?_eq_getElem hkl⟩
        obtain ⟨b, off, cp, ev_, _, hcell⟩ := (hv.k M.k).at hc
        cases ev_
        have hinc := inc64' k (by unfold maxLen at hcm0; omega)
        have hcs := hall c (List.mem_of_getElem? hc)
        have htk : runD [] (os.take (k + 1)) = stepD (abs l') c := by
          rw [List.take_succ_eq_append_getElem hkl, (List.getElem?_eq_some_iff.1 hc).2, runD_snoc, ← ha]
        refine op_run (r_idxS rfl rfl rfl rfl (by omega) (by omega)) rfl ?_
        refine op_run (r_loadA (callR c) rfl rfl rfl (by first | rfl | (rw [binV_len]; rfl) | (rw [dgR_len]; rfl) | (rw [refR_len]; rfl) | (rw [secR_len]; rfl) | (rw [List.length_map, tagF_len]; rfl) | (rw [callR_len]; rfl) | (rw [blkR_len]; rfl) | (rw [imR_len]; rfl) | (rw [nbR_len]; rfl)) ((fun j u hj => by rw [Int.toNat_natCast]; exact hcell j u hj))) rfl ?_
        refine o_alloc rfl rfl rfl ?_; intro w19 b19 e19 hB19 hk19 hs19
        have hB19' : Blk w19 b19 (callR CallV.zero) 43 := hB19
        have M19 := M.keep hk19
        have hzk := M.k.size
        refine o_storeA (cs := callR c) rfl rfl (by first | rfl | exact binV_one _ | exact dgR_one _ | exact refR_one _ | exact secR_one _ | exact all_c8 _ | exact callR_one _ | exact blkR_one _ | (exact imR_one1 (by assumption)) | exact nbR_one _) (by first | rfl | (rw [binV_len]; rfl) | (rw [dgR_len]; rfl) | (rw [refR_len]; rfl) | (rw [secR_len]; rfl) | (rw [List.length_map, tagF_len]; rfl) | (rw [callR_len]; rfl) | (rw [blkR_len]; rfl) | (rw [imR_len]; rfl) | (rw [nbR_len]; rfl)) hB19' (by exact Nat.le_of_eq (by simp [callR_len])) rfl ?_; intro w20 hB20 hk20 hs20
        have hB20' := call_st hB20
        have M20 := M19.st hB19' (by decide) hk20 (by omega)
        have hk1520 : Keep All w15 w20 := hk19.new hk20 (by omega)
        have hB120 := hk1520.blk' hB115 trivial
        refine ops_nil ?_
        refine W_region ?_
        refine o_mvt rfl ?_
        refine o_mvt rfl ?_
        refine op_run (r_loadA (callR c) rfl rfl rfl (by first | rfl | (rw [binV_len]; rfl) | (rw [dgR_len]; rfl) | (rw [refR_len]; rfl) | (rw [secR_len]; rfl) | (rw [List.length_map, tagF_len]; rfl) | (rw [callR_len]; rfl) | (rw [blkR_len]; rfl) | (rw [imR_len]; rfl) | (rw [nbR_len]; rfl)) (hB20'.all)) rfl ?_
        refine op_call rfl rfl rfl (lw_call w20 mb bm l' _ (abs l') ys c M20.m (hI.k hk1520) M.m.nd hcs (by have := hsm.1; omega) (hbn.mono (by decide))) ?_; rintro v22 w22 ⟨v', ys', ok, l2, rfl, hI2, ha2, hS2, _⟩
        refine o_mvt rfl ?_
        refine op_run (r_extract rfl rfl) rfl ?_
        refine op_run (r_extract rfl rfl) rfl ?_
        refine o_ast rfl ?_
        refine ops_nil ?_
        refine W_region ?_
        refine op_run (r_add rfl rfl) rfl ?_
        refine o_mvt rfl ?_
        refine ops_nil ?_
        refine ⟨by (repeat (first | with_reducible exact offM_refl _ _ | refine offM_updc rfl ?_ | refine offM_upd rfl ?_ | refine offM_updo rfl ?_ | refine offM_updo_none ?_ | refine offM_head rfl rfl ?_)), ⟨v', k + 1, l2, ys', congrArg (fun z : Int => [v', Value.int .i64 z]) hinc, by omega, by rw [htk]; exact ha2, M20.go hS2, by rw [ha2]; exact hI2, M20.blk hS2 hB120⟩, ?_⟩
        show os.length - (IntKind.i64.wrap ((k : Int) + 1)).toNat < os.length - (k : Int).toNat
        rw [hinc]; omega
      · refine W_exit ?_
        refine W_seq ?_
        refine W_seq ?_
        refine W_region ?_
        refine o_mvt rfl ?_
        refine o_mvt rfl ?_
        refine op_call rfl rfl rfl (vl_Copy w15 mb bm l' nm copN 1048576 true M.m (by decide)) ?_; rintro v24 w24 ⟨rfl, l2, ha2, hS2⟩
        have M24 := M.go hS2
        have hI24 := hI.kM M.m hS2.2.1
        have hB124 := M.blk hS2 hB115
        have hsm2 : SmallN 61 (abs l2) := by rw [ha2]; exact hsm.cop _ _ _ _
        have hbn2 : BlkN 60 (abs l2) := by rw [ha2]; exact hbn.cop _ _ _ _
        refine op_run (r_neq rfl rfl) rfl ?_
        refine ops_nil ?_
        refine W_cond_p rfl (fun h25 => ?_) (fun h25 => ?_)
        · refine W_seq ?_
          refine W_region ?_
          refine o_mvt rfl ?_
          refine op_call rfl rfl rfl (md_Images w24 mb bm l2 M24.m (hsm2.m (by decide)) (hbn2.mono (by decide))) ?_; rintro v26 w26 ⟨⟨ysA, hOA⟩, hIA, hk26⟩
          refine o_mvt rfl ?_
          refine op_call rfl rfl rfl (rf12_Same w26 _ _ (imgD (abs l2)) ysA ys hOA.s (by rw [ha2, copL_err h25]; exact hI24.k hk26) (imgD_small hbn2 (by decide))) ?_; rintro v27 w27 ⟨rfl, hk27⟩
          refine o_ast rfl ?_
          refine ops_nil ?_
          refine W_ret ?_
          refine ret1 (.bool true) rfl ?_ ?_; rfl
          exact ⟨rfl, (M24.keep (hk26.trans hk27)).k⟩
        · refine W_skip ?_
          refine W_seq ?_
          refine W_region ?_
          refine o_mvt rfl ?_
          have hE : copE (abs l') nm copN 1048576 = 0 := Classical.byContradiction fun hh => h25 hh
          obtain ⟨_, hno, vv, hvv, _⟩ := copE_ok hE
          have hA2 : abs l2 = abs l' ++ [(copN, ⟨1048576, true, vv.bl⟩)] := by rw [ha2, copL_ok hE hvv]
          have hvn : lookP (abs l2) nm = some vv := by rw [hA2]; exact look_app_some _ hvv
          have hvc : lookP (abs l2) copN = some ⟨1048576, true, vv.bl⟩ := by
            rw [hA2, look_app_none _ hno]
            show (if copN = copN then _ else _) = _
            rw [if_pos rfl]
          have hnc : copN ≠ nm := fun e => by rw [e, hvv] at hno; cases hno
          refine op_call rfl rfl rfl (md_Images w24 mb bm l2 M24.m (hsm2.m (by decide)) (hbn2.mono (by decide))) ?_; rintro v29 w29 ⟨⟨ysA, hOA⟩, hIA, hk29⟩
          have M29 := M24.keep hk29
          have hA29 := hOA.s
          have hB129 := hk29.blk' hB124 trivial
          refine o_ast rfl ?_
          refine ops_nil ?_
          refine W_seq ?_
          refine W_region ?_
          refine o_mvt rfl ?_
          refine o_mvt rfl ?_
          refine op_call rfl rfl rfl (rf12_Find w29 _ (imgD (abs l2)) ysA nm hA29) ?_; rintro v30 w30 ⟨⟨z, rfl, hz⟩, hk30⟩
          refine o_mvt rfl ?_
          refine op_call rfl rfl rfl (rf12_Find w30 _ (imgD (abs l2)) ysA copN (hA29.k hk30)) ?_; rintro v31 w31 ⟨⟨z2, rfl, hz2⟩, hk31⟩
          obtain ⟨ka, rfl, hka⟩ := find_some hvn hz
          obtain ⟨kb, rfl, hkb⟩ := find_some hvc hz2
          have hk31' := hk30.trans hk31
          have M31 := M29.keep hk31'
          have hA31 := hA29.k hk31'
          have hB131 := hk31'.blk' hB129 trivial
          have hkal := (List.getElem?_eq_some_iff.1 hka).1
          have hkbl := (List.getElem?_eq_some_iff.1 hkb).1
          have hlA := imgD_len (abs l2)
          obtain ⟨ia, xa, b2, o2, c2, hya, hia, eA, hca, hba⟩ := hA31.at hkal
          rw [hka] at hia; cases hia
          cases eA
          obtain ⟨ib, xb, b2', o2', c2', hyb, hib, eB, hcb, hbb⟩ := hA31.at hkbl
          rw [hkb] at hib; cases hib
          cases eB
          obtain ⟨sa, ca, rfl, _, _⟩ := hba.form
          obtain ⟨sb, cb, rfl, _, _⟩ := hbb.form
          refine o_ast rfl ?_
          refine o_ast rfl ?_
          refine ops_nil ?_
          refine W_seq ?_
          refine W_cut [90] [62, 63, 64, 65, 66, 67, 68, 69, 70, 71, 72, 73, 74, 75, 76, 77, 78, 79, 80, 81, 82, 83, 84, 85, 86, 87, 88, 89, 90] (fun vs w32 => vs = [.bool false] ∧ Keep All w31 w32) ?_ ?_
          · refine W_quiet (Keep All w31) (by kernel_rfl) (by kernel_rfl) (Keep.drawn _) ?_
            refine q_mvt rfl ?_
            refine q_run (fun _ _ => (r_lss rfl rfl)) rfl ?_
            refine q_mvt rfl ?_
            refine q_split rfl rfl rfl (fun g34 => ?_) (fun g34 => ?_)
            · refine q_mvt (g_yes rfl rfl rfl g34) ?_
              refine q_run (fun _ _ => (r_lss rfl rfl)) (g_yes rfl rfl rfl g34) ?_
              refine q_pkFt rfl g34 rfl ?_
              refine q_mvt rfl ?_
              refine q_split rfl rfl rfl (fun g35 => ?_) (fun g35 => ?_)
              · refine q_mvt (g_yes rfl rfl rfl g35) ?_
                refine q_mvt (g_yes rfl rfl rfl g35) ?_
                refine q_run (fun _ _ => r_idxS rfl rfl rfl rfl (by omega) (by omega)) (g_yes rfl rfl rfl g35) ?_
                refine q_run (fun _ _ => (r_fieldAddr rfl rfl rfl rfl rfl)) (g_yes rfl rfl rfl g35) ?_
                refine q_run (fun _ hk => r_load rfl rfl rfl (hk.cell (by rw [Int.toNat_natCast]; exact hcb 2 _ rfl) trivial)) (g_yes rfl rfl rfl g35) ?_
                refine q_run (fun _ _ => (r_not rfl)) (g_yes rfl rfl rfl g35) ?_
                refine q_pkFt rfl g35 rfl ?_
                refine q_mvt rfl ?_
                refine q_split rfl rfl rfl (fun g38 => ?_) (fun g38 => ?_)
                · refine q_mvt (g_yes rfl rfl rfl (by rw [g38] <;> rfl)) ?_
                  refine q_mvt (g_yes rfl rfl rfl (by rw [g38] <;> rfl)) ?_
                  refine q_run (fun _ _ => r_idxS rfl rfl rfl rfl (by omega) (by omega)) (g_yes rfl rfl rfl (by rw [g38] <;> rfl)) ?_
                  refine q_run (fun _ _ => (r_fieldAddr rfl rfl rfl rfl rfl)) (g_yes rfl rfl rfl (by rw [g38] <;> rfl)) ?_
                  refine q_run (fun _ hk => r_load rfl rfl rfl (hk.cell (by rw [Int.toNat_natCast]; exact hca 3 _ rfl) trivial)) (g_yes rfl rfl rfl (by rw [g38] <;> rfl)) ?_
                  refine q_run (fun _ _ => (r_len rfl rfl rfl)) (g_yes rfl rfl rfl (by rw [g38] <;> rfl)) ?_
                  refine q_mvt (g_yes rfl rfl rfl (by rw [g38] <;> rfl)) ?_
                  refine q_mvt (g_yes rfl rfl rfl (by rw [g38] <;> rfl)) ?_
                  refine q_run (fun _ _ => r_idxS rfl rfl rfl rfl (by omega) (by omega)) (g_yes rfl rfl rfl (by rw [g38] <;> rfl)) ?_
                  refine q_run (fun _ _ => (r_fieldAddr rfl rfl rfl rfl rfl)) (g_yes rfl rfl rfl (by rw [g38] <;> rfl)) ?_
                  refine q_run (fun _ hk => r_load rfl rfl rfl (hk.cell (by rw [Int.toNat_natCast]; exact hcb 3 _ rfl) trivial)) (g_yes rfl rfl rfl (by rw [g38] <;> rfl)) ?_
                  refine q_run (fun _ _ => (r_len rfl rfl rfl)) (g_yes rfl rfl rfl (by rw [g38] <;> rfl)) ?_
                  refine q_run (fun _ _ => (r_neq rfl rfl)) (g_yes rfl rfl rfl (by rw [g38] <;> rfl)) ?_
                  refine q_pkFt rfl (by rw [g38] <;> rfl) rfl ?_
                  refine q_nil ?_; intro w43 hk43
                  exact ⟨by (repeat (first | with_reducible exact offM_refl _ _ | refine offM_updc rfl ?_ | refine offM_upd rfl ?_ | refine offM_updo rfl ?_ | refine offM_updo_none ?_ | refine offM_head rfl rfl ?_)), congrArg (fun b => [Value.bool b]) (by simp), hk43⟩
                · refine q_skip (g_no rfl rfl rfl (by rw [g38] <;> rfl)) ?_
                  refine q_skip (g_no rfl rfl rfl (by rw [g38] <;> rfl)) ?_
                  refine q_skip (g_no rfl rfl rfl (by rw [g38] <;> rfl)) ?_
                  refine q_skip (g_no rfl rfl rfl (by rw [g38] <;> rfl)) ?_
                  refine q_skip (g_no rfl rfl rfl (by rw [g38] <;> rfl)) ?_
                  refine q_skip (g_no rfl rfl rfl (by rw [g38] <;> rfl)) ?_
                  refine q_skip (g_no rfl rfl rfl (by rw [g38] <;> rfl)) ?_
                  refine q_skip (g_no rfl rfl rfl (by rw [g38] <;> rfl)) ?_
                  refine q_skip (g_no rfl rfl rfl (by rw [g38] <;> rfl)) ?_
                  refine q_skip (g_no rfl rfl rfl (by rw [g38] <;> rfl)) ?_
                  refine q_skip (g_no rfl rfl rfl (by rw [g38] <;> rfl)) ?_
                  refine q_skip (g_no rfl rfl rfl (by rw [g38] <;> rfl)) ?_
                  refine q_skip (g_no rfl rfl rfl (by rw [g38] <;> rfl)) ?_
                  refine q_pkTc rfl (by rw [g38] <;> rfl) rfl ?_
                  refine q_nil ?_; intro w45 hk45
                  exfalso; simp at g38
              · refine q_skip (g_no rfl rfl rfl g35) ?_
                refine q_skip (g_no rfl rfl rfl g35) ?_
                refine q_skip (g_no rfl rfl rfl g35) ?_
                refine q_skip (g_no rfl rfl rfl g35) ?_
                refine q_skip (g_no rfl rfl rfl g35) ?_
                refine q_skip (g_no rfl rfl rfl g35) ?_
                refine q_pkTc rfl g35 rfl ?_
                refine q_mvt rfl ?_
                refine q_skip (g_no rfl rfl rfl rfl) ?_
                refine q_skip (g_no rfl rfl rfl rfl) ?_
                refine q_skip (g_no rfl rfl rfl rfl) ?_
                refine q_skip (g_no rfl rfl rfl rfl) ?_
                refine q_skip (g_no rfl rfl rfl rfl) ?_
                refine q_skip (g_no rfl rfl rfl rfl) ?_
                refine q_skip (g_no rfl rfl rfl rfl) ?_
                refine q_skip (g_no rfl rfl rfl rfl) ?_
                refine q_skip (g_no rfl rfl rfl rfl) ?_
                refine q_skip (g_no rfl rfl rfl rfl) ?_
                refine q_skip (g_no rfl rfl rfl rfl) ?_
                refine q_skip (g_no rfl rfl rfl rfl) ?_
                refine q_skip (g_no rfl rfl rfl rfl) ?_
                refine q_pkTc rfl rfl rfl ?_
                refine q_nil ?_; intro w47 hk47
                exfalso; simp at g35; omega
            · refine q_skip (g_no rfl rfl rfl g34) ?_
              refine q_skip (g_no rfl rfl rfl g34) ?_
              refine q_pkTc rfl g34 rfl ?_
              refine q_mvt rfl ?_
              refine q_skip (g_no rfl rfl rfl rfl) ?_
              refine q_skip (g_no rfl rfl rfl rfl) ?_
              refine q_skip (g_no rfl rfl rfl rfl) ?_
              refine q_skip (g_no rfl rfl rfl rfl) ?_
              refine q_skip (g_no rfl rfl rfl rfl) ?_
              refine q_skip (g_no rfl rfl rfl rfl) ?_
              refine q_pkTc rfl rfl rfl ?_
              refine q_mvt rfl ?_
              refine q_skip (g_no rfl rfl rfl rfl) ?_
              refine q_skip (g_no rfl rfl rfl rfl) ?_
              refine q_skip (g_no rfl rfl rfl rfl) ?_
              refine q_skip (g_no rfl rfl rfl rfl) ?_
              refine q_skip (g_no rfl rfl rfl rfl) ?_
              refine q_skip (g_no rfl rfl rfl rfl) ?_
              refine q_skip (g_no rfl rfl rfl rfl) ?_
              refine q_skip (g_no rfl rfl rfl rfl) ?_
              refine q_skip (g_no rfl rfl rfl rfl) ?_
              refine q_skip (g_no rfl rfl rfl rfl) ?_
              refine q_skip (g_no rfl rfl rfl rfl) ?_
              refine q_skip (g_no rfl rfl rfl rfl) ?_
              refine q_skip (g_no rfl rfl rfl rfl) ?_
              refine q_pkTc rfl rfl rfl ?_
              refine q_nil ?_; intro w49 hk49
              exfalso; simp at g34; omega
          · rintro J51 vs w51 ⟨rfl, hk51⟩ -
            refine W_no rfl (rfl) ?_
            refine W_skip ?_
            refine W_seq ?_
            refine W_region ?_
            refine o_mvt rfl ?_
            refine o_mvt rfl ?_
            refine op_run (r_idxS rfl rfl rfl rfl (by omega) (by omega)) rfl ?_
            refine op_run (r_loadA (imR (⟨copN, 1048576, true, blkS vv.bl⟩, .slice sb (blkS vv.bl).length cb)) rfl rfl rfl (by first | rfl | (rw [binV_len]; rfl) | (rw [dgR_len]; rfl) | (rw [refR_len]; rfl) | (rw [secR_len]; rfl) | (rw [List.length_map, tagF_len]; rfl) | (rw [callR_len]; rfl) | (rw [blkR_len]; rfl) | (rw [imR_len]; rfl) | (rw [nbR_len]; rfl)) ((fun m u hm => by rw [Int.toNat_natCast, Addr.add_lit]; exact hk51.cell (hcb m u hm) trivial))) rfl ?_
            refine o_alloc rfl rfl rfl ?_; intro w56 b56 e56 hB56 hk56 hs56
            have hB56' : Blk w56 b56 (imR (⟨[], 0, false, []⟩, .slice none 0 0)) 55 := hB56
            have M51 := M31.keep hk51
            have hA51 := hA31.k hk51
            have hz51 := M51.k.size
            refine o_storeA (cs := imR (⟨copN, 1048576, true, blkS vv.bl⟩, .slice sb (blkS vv.bl).length cb)) rfl rfl (by first | rfl | exact binV_one _ | exact dgR_one _ | exact refR_one _ | exact secR_one _ | exact all_c8 _ | exact callR_one _ | exact blkR_one _ | (exact imR_one1 (by assumption)) | exact nbR_one _) (by first | rfl | (rw [binV_len]; rfl) | (rw [dgR_len]; rfl) | (rw [refR_len]; rfl) | (rw [secR_len]; rfl) | (rw [List.length_map, tagF_len]; rfl) | (rw [callR_len]; rfl) | (rw [blkR_len]; rfl) | (rw [imR_len]; rfl) | (rw [nbR_len]; rfl)) hB56' (by exact Nat.le_of_eq (by simp [imR_len])) rfl ?_; intro w57 hB57 hk57 hs57
            have hBw : Blk w57 b56 (imR (⟨copN, 1048576, true, blkS vv.bl⟩, .slice sb (blkS vv.bl).length cb)) 55 := by
              have h := hB57
              rwa [splice_all (by rw [imR_len, imR_len])] at h
            have hk57' : Keep All w51 w57 := hk56.new hk57 (by omega)
            have M57 := M51.keep hk57'
            have hA57 := hA51.k hk57'
            have hb57 := (hbb.keep hk51 (fun _ _ => trivial)).keep hk57' (fun _ _ => trivial)
            have ha57 := (hba.keep hk51 (fun _ _ => trivial)).keep hk57' (fun _ _ => trivial)
            have hB157 := (hk51.trans hk57').blk' hB131 trivial
            refine ops_nil ?_
            refine W_seq ?_
            refine W_region ?_
            refine o_mvt rfl ?_
            refine o_mvt rfl ?_
            refine o_mvt rfl ?_
            refine op_run (r_loadA (blkR f) rfl rfl rfl (by first | rfl | (rw [binV_len]; rfl) | (rw [dgR_len]; rfl) | (rw [refR_len]; rfl) | (rw [secR_len]; rfl) | (rw [List.length_map, tagF_len]; rfl) | (rw [callR_len]; rfl) | (rw [blkR_len]; rfl) | (rw [imR_len]; rfl) | (rw [nbR_len]; rfl)) (hB157.all)) rfl ?_
            refine op_call rfl rfl rfl (vl_Put w57 mb bm l2 nm n f M57.m) ?_; rintro v59 w59 ⟨rfl, l3, ha3, hS3⟩
            have M59 := M57.go hS3
            have hA59 := hA57.kM M57.m hS3.2.1
            have hBw59 := M57.blk hS3 hBw
            have hb59 := hb57.kM M57.m hS3.2.1
            have ha59 := ha57.kM M57.m hS3.2.1
            obtain ⟨g, hg⟩ : ∃ g, (putR (abs l2) nm n f).1 = g := ⟨_, rfl⟩
            rw [hg]
            have hz59 := M59.k.size
            have hlw59 := hBw59.lt
            refine o_mvt rfl ?_
            refine op_run (r_extract rfl rfl) rfl ?_
            refine op_run (r_extract rfl rfl) rfl ?_
            refine op_run (r_extract rfl rfl) rfl ?_
            refine o_alloc rfl rfl rfl ?_; intro w60 b60 e60 hB60 hk60 hs60
            have hB60' : Blk w60 b60 (blkR Bk.zero) 41 := hB60
            refine o_storeA (cs := blkR g.f) rfl rfl (by first | rfl | exact binV_one _ | exact dgR_one _ | exact refR_one _ | exact secR_one _ | exact all_c8 _ | exact callR_one _ | exact blkR_one _ | (exact imR_one1 (by assumption)) | exact nbR_one _) (by first | rfl | (rw [binV_len]; rfl) | (rw [dgR_len]; rfl) | (rw [refR_len]; rfl) | (rw [secR_len]; rfl) | (rw [List.length_map, tagF_len]; rfl) | (rw [callR_len]; rfl) | (rw [blkR_len]; rfl) | (rw [imR_len]; rfl) | (rw [nbR_len]; rfl)) hB60' (by exact Nat.le_of_eq (by simp [blkR_len])) rfl ?_; intro w61 hB61 hk61 hs61
            have hk61' : Keep All w59 w61 := hk60.new hk61 (by omega)
            have M61 := M59.keep hk61'
            have hA61 := hA59.k hk61'
            have hBw61 := hk61'.blk' hBw59 trivial
            have hb61 := hb59.keep hk61' (fun _ _ => trivial)
            have ha61 := ha59.keep hk61' (fun _ _ => trivial)
            have ha3s : abs l3 = (setR (abs l2) nm n true f).2 := by rw [ha3, putR_set]
            have hsm3 : SmallN 61 (abs l3) := by rw [ha3s]; exact hsm2.set _ _ _ _
            have hbn3 : BlkN 61 (abs l3) := by rw [ha3s]; exact hbn2.set _ _ _ _
            have hkb3 : (imgD (abs l3))[kb]? = some ⟨copN, 1048576, true, blkS vv.bl⟩ := by
              have hn3 : (abs l3).map (·.1) = (abs l2).map (·.1) := by rw [ha3s]; exact setR_names _ _ _ _ _
              have hv3 : lookP (abs l3) copN = some ⟨1048576, true, vv.bl⟩ := by rw [ha3s, setR_other hnc]; exact hvc
              exact imgD_same_at hn3 hkb hv3
            have hlB3 := imgD_len (abs l3)
            refine o_ast rfl ?_
            refine o_ast rfl ?_
            refine ops_nil ?_
            refine W_cut [] [8, 104, 105, 106, 107, 108, 109, 110, 111, 112, 113] (fun vs w62 => vs = [] ∧ Keep All w61 w62) ?_ ?_
            · refine W_seq ?_
              refine W_held (fun w' => Keep All w61 w') (by kernel_rfl) (Keep.drawn w61) (fun hS => ?_)
              refine any_mvt 0 rfl (by kernel_rfl) (by kernel_rfl) (by kernel_rfl) rfl hS ?_
              refine any_mvt 2 rfl (by kernel_rfl) (by kernel_rfl) (by kernel_rfl) rfl hS ?_
              refine any_mvt 3 rfl (by kernel_rfl) (by kernel_rfl) (by kernel_rfl) rfl hS ?_
              refine any_run 4 (fun w' hS' => (r_add rfl rfl)) rfl (by kernel_rfl) (by kernel_rfl) (by kernel_rfl) rfl hS ?_
              refine any_run 6 (fun w' hS' => (r_loadA (imR (⟨copN, 1048576, true, blkS vv.bl⟩, .slice sb (blkS vv.bl).length cb)) rfl rfl rfl (by first | rfl | (rw [binV_len]; rfl) | (rw [dgR_len]; rfl) | (rw [refR_len]; rfl) | (rw [secR_len]; rfl) | (rw [List.length_map, tagF_len]; rfl) | (rw [callR_len]; rfl) | (rw [blkR_len]; rfl) | (rw [imR_len]; rfl) | (rw [nbR_len]; rfl)) ((hS'.blk' hBw61 trivial).all))) rfl (by kernel_rfl) (by kernel_rfl) (by kernel_rfl) rfl hS ?_
              refine any_two 1 7 (by kernel_rfl) (one_of rfl ?_) (one_of rfl ?_)
              · refine op_call rfl rfl rfl (md_Images _ mb bm l3 (M61.keep hS).m (hsm3.m (by decide)) (hbn3.mono (by decide))) ?_; rintro v65 w65 ⟨⟨ys3, hO3⟩, hI3, hk65⟩
                obtain ⟨a3, c3, rfl, hc3, hcm3⟩ := hO3.s.o.form
                have hkbl3 := (List.getElem?_eq_some_iff.1 hkb3).1
                have hinc3 := inc64' kb (by unfold maxLen at hcm3; omega)
                obtain ⟨xk, hsub⟩ := hO3.s.sub hkb3
                refine ops_nil ⟨(hS.trans hk65), fun hS => ?_⟩
                refine any_run 5 (fun w' hS' => ((r_sliceS_lohi rfl rfl rfl rfl rfl (by omega) (by rw [hinc3]; omega) (by rw [hinc3]; omega)).val ((show subSl a3 4 ((kb : Int)).toNat (IntKind.i64.wrap ((kb : Int) + 1)).toNat c3 = subSl a3 4 kb (kb + 1) c3 by rw [hinc3]; rfl)))) rfl (by kernel_rfl) (by kernel_rfl) (by kernel_rfl) rfl hS ?_
                refine any_one 7 (by kernel_rfl) (one_of rfl ?_)
                refine o_bsR imR imR_len [(⟨copN, 1048576, true, blkS vv.bl⟩, .slice sb (blkS vv.bl).length cb)] rfl ti_im rfl rfl rfl rfl rfl rfl ?_; intro w68 b68 e68 hB68 hk68 hs68
                refine ops_nil ⟨(hS.trans hk68), fun hS => ?_⟩
                refine any_one 8 (by kernel_rfl) (one_of rfl ?_)
                refine op_call rfl rfl rfl (rf12_Same w68 _ _ [⟨copN, 1048576, true, blkS vv.bl⟩] [(_, xk)] [(_, .slice sb (blkS vv.bl).length cb)] (hsub.k hk68) (ImgsS.one hB68 (hb61.keep hS (fun _ _ => trivial))) (fun i hi => by rw [List.mem_singleton.1 hi]; exact imgD_small hbn3 (by decide) _ (List.mem_of_getElem? hkb3))) ?_; rintro v70 w70 ⟨rfl, hk70⟩
                refine ops_nil ⟨(hS.trans hk70), fun hS => ?_⟩
                refine any_run 9 (fun w' hS' => (r_not rfl)) rfl (by kernel_rfl) (by kernel_rfl) (by kernel_rfl) rfl hS ?_
                refine any_done (by kernel_rfl) ?_
                refine W_no rfl (rfl) ?_
                refine W_skip ?_
                exact ⟨by (repeat (first | with_reducible exact offM_refl _ _ | refine offM_updc rfl ?_ | refine offM_upd rfl ?_ | refine offM_updo rfl ?_ | refine offM_updo_none ?_ | refine offM_head rfl rfl ?_)), rfl, hS⟩
              · refine o_bsR imR imR_len [(⟨copN, 1048576, true, blkS vv.bl⟩, .slice sb (blkS vv.bl).length cb)] rfl ti_im rfl rfl rfl rfl rfl rfl ?_; intro w75 b75 e75 hB75 hk75 hs75
                refine ops_nil ⟨(hS.trans hk75), fun hS => ?_⟩
                refine any_one 1 (by kernel_rfl) (one_of rfl ?_)
                refine op_call rfl rfl rfl (md_Images _ mb bm l3 (M61.keep hS).m (hsm3.m (by decide)) (hbn3.mono (by decide))) ?_; rintro v77 w77 ⟨⟨ys3, hO3⟩, hI3, hk77⟩
                obtain ⟨a3, c3, rfl, hc3, hcm3⟩ := hO3.s.o.form
                have hkbl3 := (List.getElem?_eq_some_iff.1 hkb3).1
                have hinc3 := inc64' kb (by unfold maxLen at hcm3; omega)
                obtain ⟨xk, hsub⟩ := hO3.s.sub hkb3
                refine ops_nil ⟨(hS.trans hk77), fun hS => ?_⟩
                refine any_run 5 (fun w' hS' => ((r_sliceS_lohi rfl rfl rfl rfl rfl (by omega) (by rw [hinc3]; omega) (by rw [hinc3]; omega)).val ((show subSl a3 4 ((kb : Int)).toNat (IntKind.i64.wrap ((kb : Int) + 1)).toNat c3 = subSl a3 4 kb (kb + 1) c3 by rw [hinc3]; rfl)))) rfl (by kernel_rfl) (by kernel_rfl) (by kernel_rfl) rfl hS ?_
                refine any_one 8 (by kernel_rfl) (one_of rfl ?_)
                refine op_call rfl rfl rfl (rf12_Same _ _ _ [⟨copN, 1048576, true, blkS vv.bl⟩] [(_, xk)] [(_, .slice sb (blkS vv.bl).length cb)] hsub (ImgsS.one (hk77.blk' hB75 trivial) (hb61.keep hS (fun _ _ => trivial))) (fun i hi => by rw [List.mem_singleton.1 hi]; exact imgD_small hbn3 (by decide) _ (List.mem_of_getElem? hkb3))) ?_; rintro v80 w80 ⟨rfl, hk80⟩
                refine ops_nil ⟨(hS.trans hk80), fun hS => ?_⟩
                refine any_run 9 (fun w' hS' => (r_not rfl)) rfl (by kernel_rfl) (by kernel_rfl) (by kernel_rfl) rfl hS ?_
                refine any_done (by kernel_rfl) ?_
                refine W_no rfl (rfl) ?_
                refine W_skip ?_
                exact ⟨by (repeat (first | with_reducible exact offM_refl _ _ | refine offM_updc rfl ?_ | refine offM_upd rfl ?_ | refine offM_updo rfl ?_ | refine offM_updo_none ?_ | refine offM_head rfl rfl ?_)), rfl, hS⟩
            · rintro J85 vs w85 ⟨rfl, hk85⟩ -
              have M69 := M61.keep hk85
              have hA69 := hA61.k hk85
              have hBw69 := hk85.blk' hBw61 trivial
              have hb69 := hb61.keep hk85 (fun _ _ => trivial)
              have ha69 := ha61.keep hk85 (fun _ _ => trivial)
              refine W_seq ?_
              refine W_cut [119] [114, 115, 116, 117, 118, 119] (fun vs w86 => vs = [.bool (decide (g.e = 0 ∧ g.t = false))] ∧ w86 = w85) ?_ ?_
              · refine W_region ?_
                refine o_mvt rfl ?_
                refine op_run (r_eql rfl rfl) rfl ?_
                refine o_mvt rfl ?_
                refine g_split rfl rfl rfl (fun g87 => ?_) (fun g87 => ?_)
                · refine o_mvt (g_yes rfl rfl rfl g87) ?_
                  refine op_run (r_not rfl) (g_yes rfl rfl rfl g87) ?_
                  refine o_pkTt rfl g87 rfl ?_
                  refine ops_nil ?_
                  exact ⟨by (repeat (first | with_reducible exact offM_refl _ _ | refine offM_updc rfl ?_ | refine offM_upd rfl ?_ | refine offM_updo rfl ?_ | refine offM_updo_none ?_ | refine offM_head rfl rfl ?_)), congrArg (fun b => [Value.bool b]) (by have q := of_decide_eq_true g87; rw [show (decide (g.e = 0 ∧ g.t = false)) = decide (g.t = false) by rw [decide_eq_decide]; exact ⟨fun h => h.2, fun h => ⟨q, h⟩⟩]; cases g.t <;> rfl), rfl⟩
                · refine op_skip (g_no rfl rfl rfl g87) ?_
                  refine op_skip (g_no rfl rfl rfl g87) ?_
                  refine o_pkFc rfl g87 rfl ?_
                  refine ops_nil ?_
                  exact ⟨by (repeat (first | with_reducible exact offM_refl _ _ | refine offM_updc rfl ?_ | refine offM_upd rfl ?_ | refine offM_updo rfl ?_ | refine offM_updo_none ?_ | refine offM_head rfl rfl ?_)), congrArg (fun b => [Value.bool b]) (by have q := of_decide_eq_false g87; symm; apply decide_eq_false; exact fun h => q h.1), rfl⟩
              · rintro J90 vs w90 ⟨rfl, rfl⟩ -
                refine W_cond_p rfl (fun h91 => ?_) (fun h91 => ?_)
                · refine W_seq ?_
                  refine W_region ?_
                  refine o_mvt rfl ?_
                  refine o_mvt rfl ?_
                  refine o_mvt rfl ?_
                  refine op_call rfl rfl rfl (vl_Drop w90 mb bm l3 nm n M69.m) ?_; rintro v92 w92 ⟨_, l4, ha4, hS4⟩
                  have M92 := M69.go hS4
                  have hA92 := hA69.kM M69.m hS4.2.1
                  have hA4 : abs l4 = abs l2 := by
                    rw [ha4, ha3]
                    exact put_drop M57.m.nd.1 (by rw [hg]; exact h91.1) (by rw [hg]; exact h91.2)
                  refine ops_nil ?_
                  refine W_seq ?_
                  refine W_region ?_
                  refine o_mvt rfl ?_
                  refine op_call rfl rfl rfl (md_Images w92 mb bm l4 M92.m (by rw [hA4]; exact hsm2.m (by decide)) (by rw [hA4]; exact hbn2.mono (by decide))) ?_; rintro v93 w93 ⟨⟨ys4, hO4⟩, hI4, hk93⟩
                  refine o_mvt rfl ?_
                  refine op_call rfl rfl rfl (rf12_Same w93 _ _ (imgD (abs l4)) ys4 ysA hO4.s (by rw [hA4]; exact hA92.k hk93) (by rw [hA4]; exact imgD_small hbn2 (by decide))) ?_; rintro v94 w94 ⟨rfl, hk94⟩
                  refine o_ast rfl ?_
                  refine ops_nil ?_
                  refine W_ret ?_
                  refine ret1 (.bool true) rfl ?_ ?_; rfl
                  exact ⟨rfl, (M92.keep (hk93.trans hk94)).k⟩
                · refine W_skip ?_
                  refine W_seq ?_
                  refine W_seq ?_
                  refine W_region ?_
                  refine o_mvt rfl ?_
                  refine o_mvt rfl ?_
                  obtain ⟨i3, x3, bz, oz, cz, hyz, hiz, eZ, hcz, hbz⟩ := hA69.at hkal
                  rw [hka] at hiz; cases hiz
                  cases eZ
                  rw [hya] at hyz; cases hyz
                  refine op_run (r_idxS rfl rfl rfl rfl (by omega) (by omega)) rfl ?_
                  refine op_run (r_fieldAddr rfl rfl rfl rfl rfl) rfl ?_
                  refine op_run (r_load rfl rfl rfl (by rw [Int.toNat_natCast]; exact hcz 3 _ rfl)) rfl ?_
                  refine op_run (r_len rfl rfl rfl) rfl ?_
                  refine o_mvc rfl ?_
                  refine ops_nil ?_
                  refine W_block ?_
                  refine W_loop [134] [8, 20, 21, 134, 135, 136, 137, 138, 139, 140, 141, 142, 143, 144, 145, 146] (fun vs w' => ∃ (j : Nat), vs = [.int .i64 j] ∧ j ≤ (blkS vv.bl).length ∧ Keep All w90 w') (fun vs _ => match vs with | [.int _ y] => (blkS vv.bl).length - y.toNat | _ => 0) ⟨0, rfl, Nat.zero_le _, Keep.refl _⟩ ?_
                  rintro J98 vs w98 ⟨j, rfl, hj, hkJ⟩ -
                  refine W_seq ?_
                  refine W_region ?_
                  refine op_run (r_lss rfl rfl) rfl ?_
                  refine ops_nil ?_
                  refine W_seq ?_
                  refine W_cond_p rfl (fun h99 => ?_) (fun h99 => ?_)
                  · refine W_skip ?_
                    refine W_seq ?_
                    refine W_block ?_
                    refine W_seq ?_
                    refine W_region ?_
                    refine o_mvt rfl ?_
                    have hjl : j < (blkS vv.bl).length := by
                      have h99 : (j : Int) < ((blkS vv.bl).length : Int) := h99
                      omega
                    have hbl : (blkS vv.bl).length = vv.bl.length := blkS_len _
                    have hbl2 : vv.bl.length ≤ 60 := (hbn2 _ (lookP_mem hvn)).1
                    have hincj := inc64' j (by omega)
                    obtain ⟨p, pb, po, pc, hp, ep, hcp⟩ := nb_at ha69 hjl
                    cases ep
                    obtain ⟨p2, pb2, po2, pc2, hp2, ep2, hcp2⟩ := nb_at hb69 hjl
                    cases ep2
                    obtain rfl : p = p2 := by
                      have hp : (blkS vv.bl)[j]? = some p := hp
                      have hp2 : (blkS vv.bl)[j]? = some p2 := hp2
                      rw [hp] at hp2; exact Option.some.inj hp2
                    refine op_run (r_idxS rfl rfl rfl rfl (by omega) (by omega)) rfl ?_
                    refine op_run (r_loadA (nbR p) rfl rfl rfl (by first | rfl | (rw [binV_len]; rfl) | (rw [dgR_len]; rfl) | (rw [refR_len]; rfl) | (rw [secR_len]; rfl) | (rw [List.length_map, tagF_len]; rfl) | (rw [callR_len]; rfl) | (rw [blkR_len]; rfl) | (rw [imR_len]; rfl) | (rw [nbR_len]; rfl)) ((fun m u hm => by rw [Int.toNat_natCast]; exact hkJ.cell (hcp m u hm) trivial))) rfl ?_
                    refine o_alloc rfl rfl rfl ?_; intro w102 b102 e102 hB102 hk102 hs102
                    have hB102' : Blk w102 b102 (nbR (0, Bk.zero)) 60 := hB102
                    refine o_ast rfl ?_
                    refine o_storeA (cs := nbR p) rfl rfl (by first | rfl | exact binV_one _ | exact dgR_one _ | exact refR_one _ | exact secR_one _ | exact all_c8 _ | exact callR_one _ | exact blkR_one _ | (exact imR_one1 (by assumption)) | exact nbR_one _) (by first | rfl | (rw [binV_len]; rfl) | (rw [dgR_len]; rfl) | (rw [refR_len]; rfl) | (rw [secR_len]; rfl) | (rw [List.length_map, tagF_len]; rfl) | (rw [callR_len]; rfl) | (rw [blkR_len]; rfl) | (rw [imR_len]; rfl) | (rw [nbR_len]; rfl)) hB102' (by exact Nat.le_of_eq (by simp [nbR_len])) rfl ?_; intro w103 hB103 hk103 hs103
                    have hB103' : Blk w103 b102 (nbR p) 60 := by
                      have h := hB103
                      rwa [splice_all (by rw [nbR_len, nbR_len])] at h
                    have hk103' : Keep All w90 w103 := (hkJ.trans hk102).new hk103 (by have := hkJ.size; omega)
                    refine ops_nil ?_
                    refine W_seq ?_
                    refine W_quiet (Keep All w103) (by kernel_rfl) (by kernel_rfl) (Keep.drawn _) ?_
                    refine q_run (fun _ hk => r_loadA (nbR p) rfl rfl rfl (by first | rfl | (rw [binV_len]; rfl) | (rw [dgR_len]; rfl) | (rw [refR_len]; rfl) | (rw [secR_len]; rfl) | (rw [List.length_map, tagF_len]; rfl) | (rw [callR_len]; rfl) | (rw [blkR_len]; rfl) | (rw [imR_len]; rfl) | (rw [nbR_len]; rfl)) ((hk.blk' hB103' trivial).all)) rfl ?_
                    refine q_run (fun _ _ => (r_fieldAddr rfl rfl rfl rfl rfl)) rfl ?_
                    refine q_run (fun _ hk => r_load rfl rfl rfl (hk.cell ((hk103'.blk' hBw69 trivial).cell rfl) trivial)) rfl ?_
                    refine q_mvt rfl ?_
                    refine q_run (fun _ _ => r_idxS rfl rfl rfl rfl (by omega) (by omega)) rfl ?_
                    refine q_run (fun _ hk => r_loadA (nbR p) rfl rfl rfl (by first | rfl | (rw [binV_len]; rfl) | (rw [dgR_len]; rfl) | (rw [refR_len]; rfl) | (rw [secR_len]; rfl) | (rw [List.length_map, tagF_len]; rfl) | (rw [callR_len]; rfl) | (rw [blkR_len]; rfl) | (rw [imR_len]; rfl) | (rw [nbR_len]; rfl)) ((fun m u hm => by rw [Int.toNat_natCast]; exact hk.cell (hk103'.cell (hcp2 m u hm) trivial) trivial))) rfl ?_
                    refine q_run (fun _ _ => (r_neqC (p := True) rfl rfl rfl rfl (by kernel_rfl) (okC_nb _) (okC_nb _) rfl (⟨fun _ => trivial, fun _ => rfl⟩))) rfl ?_
                    refine q_nil ?_; intro w110 hk110
                    refine W_no rfl (rfl) ?_
                    refine W_skip ?_
                    refine W_region ?_
                    refine op_run (r_add rfl rfl) rfl ?_
                    refine o_mvt rfl ?_
                    refine ops_nil ?_
                    refine ⟨by (repeat (first | with_reducible exact offM_refl _ _ | refine offM_updc rfl ?_ | refine offM_upd rfl ?_ | refine offM_updo rfl ?_ | refine offM_updo_none ?_ | refine offM_head rfl rfl ?_)), ⟨j + 1, congrArg (fun z : Int => [Value.int .i64 z]) hincj, by omega, hk103'.trans hk110⟩, ?_⟩
                    show (blkS vv.bl).length - (IntKind.i64.wrap ((j : Int) + 1)).toNat < (blkS vv.bl).length - (j : Int).toNat
                    rw [hincj]; omega
                  · refine W_exit ?_
                    refine W_seq ?_
                    refine W_region ?_
                    refine o_asc rfl ?_
                    refine ops_nil ?_
                    refine W_ret ?_
                    refine ret1 (.bool true) rfl ?_ ?_; rfl
                    exact ⟨rfl, (M69.keep hkJ).k⟩
end Go.Proofs.Ytkmciohghhffnaa.B
