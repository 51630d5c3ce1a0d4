/-
  ModelQuiet.
-/
import Derived.Test.YtkckphbdjkjfgaaImgF
namespace Go.Proofs.Ytkckphbdjkjfgaa.B
open Go
set_option linter.unusedVariables false
set_option maxHeartbeats 2000000
set_option maxRecDepth 100000
attribute [local irreducible] W OpsW OpsQ retP
theorem BlkN.mono {n m : Nat} {l : AL} (h : BlkN n l) (hn : n ≤ m) : BlkN m l := fun x hx => ⟨Nat.le_trans (h x hx).1 hn, (h x hx).2⟩
theorem BlkN.nil : BlkN 0 [] := fun x hx => by cases hx
theorem blk_take {os : List OpV} (h : os.length ≤ 80) (k : Nat) : BlkN 1000 (runD [] (os.take k)) :=
  (blk_run (os.take k) 0 [] BlkN.nil).mono (by rw [List.length_take]; omega)
theorem small_take {os : List OpV} (h : os.length ≤ 80) (k : Nat) : SmallM (runD [] (os.take k)) := by
  have := small_run (os.take k) 0 [] SmallN.nil
  exact this.m (by rw [List.length_take]; omega)
theorem imgD_small {n : Nat} {l : AL} (h : BlkN n l) (hn : n ≤ 1000000) : ∀ i ∈ imgD l, i.bl.length ≤ 1000000 := by
  intro i hi
  obtain ⟨nm, hnm, rfl⟩ := List.mem_map.1 hi
  cases hv : lookP l nm with
  | none => unfold imgOf; rw [hv]; exact Nat.zero_le _
  | some v => rw [imgOf_some hv]; show (blkS v.bl).length ≤ _; rw [blkS_len]; exact Nat.le_trans (h _ (lookP_mem hv)).1 hn
theorem blockD_quiet {l : AL} {o : OpV} (h : (blockD l o).1.e ≠ 0 ∨ o.kind = 5) : (blockD l o).2 = l := by
  by_cases hf : findD l o = 0
  · obtain ⟨v, hv, _⟩ := findD_ok hf
    rw [blockD_ok hf hv] at h ⊢
    by_cases h5 : o.kind = 5
    · rw [if_pos h5]
    · rw [if_neg h5] at h ⊢
      by_cases h4 : o.kind = 4
      · rw [if_pos h4] at h; exact absurd rfl (h.resolve_right h5)
      · rw [if_neg h4] at h ⊢
        by_cases hq : lookP v.bl o.number = none ∧ v.q ≤ v.bl.length
        · rw [if_pos hq]
        · rw [if_neg hq] at h; exact absurd rfl (h.resolve_right h5)
  · rw [blockD_err hf]
theorem blockD_no {l : AL} {o : OpV} (h : (blockD l o).1.e ≠ 0) : (blockD l o).1 = Ans.no (blockD l o).1.e := by
  by_cases hf : findD l o = 0
  · obtain ⟨v, hv, _⟩ := findD_ok hf
    rw [blockD_ok hf hv] at h ⊢
    by_cases h5 : o.kind = 5
    · rw [if_pos h5] at h; exact absurd rfl h
    · rw [if_neg h5] at h ⊢
      by_cases h4 : o.kind = 4
      · rw [if_pos h4] at h; exact absurd rfl h
      · rw [if_neg h4] at h ⊢
        by_cases hq : lookP v.bl o.number = none ∧ v.q ≤ v.bl.length
        · rw [if_pos hq]; rfl
        · rw [if_neg hq] at h; exact absurd rfl h
  · rw [blockD_err hf]; rfl
theorem doD_err {l : AL} {o : OpV} (h : (doD l o).1.e ≠ 0) : (doD l o).2 = l ∧ (doD l o).1 = Ans.no (doD l o).1.e ∧ o.kind ≠ 8 := by
  unfold doD at h ⊢
  by_cases h1 : o.kind = 1
  · rw [if_pos h1] at h ⊢
    refine ⟨?_, rfl, by omega⟩
    exact if_neg h
  rw [if_neg h1] at h ⊢
  by_cases h2 : o.kind = 2
  · rw [if_pos h2] at h ⊢
    by_cases hs : (lookP l o.name).isSome = true
    · rw [if_pos hs] at h; exact absurd rfl h
    · rw [if_neg hs]; exact ⟨rfl, rfl, by omega⟩
  rw [if_neg h2] at h ⊢
  by_cases h3 : o.kind = 3 ∨ o.kind = 4 ∨ o.kind = 5
  · rw [if_pos h3] at h ⊢
    exact ⟨blockD_quiet (.inl h), blockD_no h, by omega⟩
  rw [if_neg h3] at h ⊢
  by_cases h4 : o.kind = 6 ∨ o.kind = 7
  · rw [if_pos h4] at h ⊢
    refine ⟨?_, rfl, by omega⟩
    show (copD l o).2 = l
    have h : (copD l o).1 ≠ 0 := h
    cases hv : lookP l o.name with
    | none => rw [copD_none hv]
    | some v =>
      rw [copD_some hv] at h ⊢
      exact if_neg h
  rw [if_neg h4] at h ⊢
  by_cases h8 : o.kind = 8
  · rw [if_pos h8] at h; exact absurd rfl h
  · rw [if_neg h8]; exact ⟨rfl, rfl, h8⟩
theorem doD_quiet {l : AL} {o : OpV} (h : ¬ chgD o.kind) : (doD l o).2 = l := by
  unfold chgD at h
  unfold doD
  rw [if_neg (by omega), if_neg (by omega)]
  by_cases h3 : o.kind = 3 ∨ o.kind = 4 ∨ o.kind = 5
  · rw [if_pos h3]; exact blockD_quiet (.inr (by omega))
  rw [if_neg h3, if_neg (by omega)]
  split <;> rfl
theorem names_one {w w' : World} {l : AL} {o : OpV} {s : Value} (h : NamesIn w w' l o s) : one s = true := by
  by_cases h8 : o.kind = 8
  · obtain ⟨_, _, rfl, _⟩ := (h.2 h8).1.form; rfl
  · rw [h.1 h8]; rfl
theorem ans_stS {w : World} {b : Nat} {e e' : Int} {t t' : Bool} {k k' : Bk} {s : Value} (h : Blk w b (splice (ansR e t k) 0 (ansS e' t' k' s)) 34) : Blk w b (ansS e' t' k' s) 34 := by
  rwa [splice_all (by rw [ansR_len, ansS_len])] at h
theorem walk_ModelQuiet (w : World) (v : Value) (os : List OpV) (hv : OpsIn w v os) : Ret Try.prog 5 [v].toArray w fun r w' => r = .bool true ∧ Keep All w w' := by
  obtain ⟨a0, c0, rfl, hc0, hcm0⟩ := SlR.form hv
  refine enter (fn := Try.f5) (n := 54) Try.func5 rfl rfl (by simp) ?_
  refine W_seq ?_
  refine W_region ?_
  refine o_asc rfl ?_
  refine ops_nil ?_
  refine W_seq ?_
  refine W_seq ?_
  refine W_region ?_
  refine op_call rfl rfl rfl (lw_speaks w) ?_; rintro v1 w1 ⟨rfl, hk1⟩
  refine op_run (r_not rfl) rfl ?_
  refine ops_nil ?_
  refine W_no rfl (rfl) ?_
  refine W_skip ?_
  refine W_seq ?_
  refine W_seq ?_
  refine W_region ?_
  refine o_mvt rfl ?_
  refine op_call rfl rfl rfl (lw_Great w1 _ os (hv.k hk1)) ?_; rintro v4 w4 ⟨⟨g, rfl, hg⟩, hk4⟩
  refine ops_nil ?_
  refine W_cond rfl (fun h5 => ?_) (fun h5 => ?_)
  · refine W_seq ?_
    refine W_region ?_
    refine o_asc rfl ?_
    refine ops_nil ?_
    refine W_ret ?_
    refine ret1 (.bool true) rfl ?_ ?_; rfl
    exact ⟨rfl, hk1.trans hk4⟩
  · refine W_skip ?_
    refine W_seq ?_
    refine W_region ?_
    obtain ⟨hlen, hall⟩ := hg h5
    have hkA := hk1.trans hk4
    refine op_call rfl rfl rfl (md_New w4) ?_; rintro v7 w7 ⟨mb, bm, rfl, hmb, hbm, _, hBm, hMm, hk7⟩
    have hz4 := hkA.size
    have M7 : MS w w7 mb bm [] := ⟨ModW.new hBm hMm, hkA.trans hk7, fun z hz => by
      rcases hz with rfl | ⟨x, hx, _⟩
      · omega
      · cases hx⟩
    refine o_ast rfl ?_
    refine ops_nil ?_
    refine W_seq ?_
    refine W_seq ?_
    refine W_region ?_
    refine o_mvt rfl ?_
    refine op_run (r_len rfl rfl rfl) rfl ?_
    refine o_mvc rfl ?_
    refine ops_nil ?_
    refine W_block ?_
    refine W_loop [15] [2, 5, 6, 7, 15, 16, 17, 18, 19, 20, 21, 22, 23, 24, 25, 26, 27, 28, 29, 30, 31, 32, 33, 34, 35, 36, 37, 38, 39, 40, 41, 42, 43, 44, 45, 46, 47, 48, 49, 50, 51, 52, 53] (fun vs w' => ∃ (k : Nat) (l' : ModL), vs = [.int .i64 k] ∧ k ≤ os.length ∧ abs l' = runD [] (os.take k) ∧ MS w w' mb bm l') (fun vs _ => match vs with | [.int _ y] => os.length - y.toNat | _ => 0) ⟨0, [], rfl, Nat.zero_le _, rfl, M7⟩ ?_
    rintro J8 vs w8 ⟨k, l', rfl, hk, ha, M⟩ -
    refine W_seq ?_
    refine W_region ?_
    refine op_run (r_lss rfl rfl) rfl ?_
    refine ops_nil ?_
    refine W_seq ?_
    refine W_cond_p rfl (fun h9 => ?_) (fun h9 => ?_)
    · refine W_skip ?_
      refine W_seq ?_
      refine W_block ?_
      refine W_seq ?_
      refine W_region ?_
      have hkl : k < os.length := by omega
      obtain ⟨c, hc⟩ : ∃ c, os[k]? = some c := ⟨_, List.getElem?_eq_getElem hkl⟩
      obtain ⟨b, off, cp, ev_, _, hcell⟩ := (hv.k M.k).at hc
      cases ev_
      have hinc := inc64' k (by unfold maxLen at hcm0; omega)
      have hcs := hall c (List.mem_of_getElem? hc)
      have hsm : SmallM (abs l') := by rw [ha]; exact small_take hlen k
      have hbk : BlkN 1000 (abs l') := by rw [ha]; exact blk_take hlen k
      have htk : runD [] (os.take (k + 1)) = (doD (abs l') c).2 := by
        rw [List.take_succ_eq_append_getElem hkl, (List.getElem?_eq_some_iff.1 hc).2, runD_snoc, ← ha]
      refine op_run (r_idxS rfl rfl rfl rfl (by omega) (by omega)) rfl ?_
      refine op_run (r_loadA (opR c) rfl rfl rfl (by first | rfl | (rw [binV_len]; rfl) | (rw [dgR_len]; rfl) | (rw [refR_len]; rfl) | (rw [secR_len]; rfl) | (rw [List.length_map, tagF_len]; rfl) | (rw [opR_len]; rfl) | (rw [ansS_len]; rfl) | (rw [blkR_len]; rfl)) ((fun j u hj => by rw [Int.toNat_natCast]; exact hcell j u hj))) rfl ?_
      refine o_alloc rfl rfl rfl ?_; intro w12 b12 e12 hB12 hk12 hs12
      have hB12' : Blk w12 b12 (opR OpV.zero) 26 := hB12
      have M12 := M.keep hk12
      have hzk := M.k.size
      refine o_storeA (cs := opR c) rfl rfl (by first | rfl | exact binV_one _ | exact dgR_one _ | exact refR_one _ | exact secR_one _ | exact all_c8 _ | exact opR_one _ | exact ansS_one (names_one (by assumption)) | exact blkR_one _) (by first | rfl | (rw [binV_len]; rfl) | (rw [dgR_len]; rfl) | (rw [refR_len]; rfl) | (rw [secR_len]; rfl) | (rw [List.length_map, tagF_len]; rfl) | (rw [opR_len]; rfl) | (rw [ansS_len]; rfl) | (rw [blkR_len]; rfl)) hB12' (by exact Nat.le_of_eq (by simp [opR_len])) rfl ?_; intro w13 hB13 hk13 hs13
      have hB13' := op_st hB13
      have M13 := M12.st hB12' (by decide) (by decide) hk13 (by omega)
      refine ops_nil ?_
      refine W_seq ?_
      refine W_region ?_
      refine o_mvt rfl ?_
      refine op_call rfl rfl rfl (md_Images w13 mb bm l' M13.m hsm hbk) ?_; rintro v14 w14 ⟨⟨ys, hO⟩, hI14, hk14⟩
      have M14 := M13.keep hk14
      have hB14 := hk14.blk' hB13' trivial
      refine o_ast rfl ?_
      refine ops_nil ?_
      refine W_seq ?_
      refine W_region ?_
      refine o_mvt rfl ?_
      refine op_run (r_loadA (opR c) rfl rfl rfl (by first | rfl | (rw [binV_len]; rfl) | (rw [dgR_len]; rfl) | (rw [refR_len]; rfl) | (rw [secR_len]; rfl) | (rw [List.length_map, tagF_len]; rfl) | (rw [opR_len]; rfl) | (rw [ansS_len]; rfl) | (rw [blkR_len]; rfl)) (hB14.all)) rfl ?_
      refine op_call rfl rfl rfl (md_Do w14 mb bm l' c M14.m hcs hsm) ?_; rintro v16 w16 ⟨⟨s, rfl, hN⟩, l2, ha2, hS⟩
      have M16 := M14.go hS
      have hO16 := hO.kM M14.m hS.2.1
      have hB16 := M14.blk hS hB14
      have hl16 := hB16.lt
      have hz16 := M16.k.size
      have hs1 := names_one hN
      have hsm2 : SmallM (abs l2) := by rw [ha2, ← htk]; exact small_take hlen _
      have hbk2 : BlkN 1000 (abs l2) := by rw [ha2, ← htk]; exact blk_take hlen _
      refine o_alloc rfl rfl rfl ?_; intro w17 b17 e17 hB17 hk17 hs17
      have hB17' : Blk w17 b17 (ansR 0 false Bk.zero) 34 := hB17
      refine o_storeA (cs := ansS (doD (abs l') c).1.e (doD (abs l') c).1.t (doD (abs l') c).1.b s) rfl rfl (by first | rfl | exact binV_one _ | exact dgR_one _ | exact refR_one _ | exact secR_one _ | exact all_c8 _ | exact opR_one _ | exact ansS_one (names_one (by assumption)) | exact blkR_one _) (by first | rfl | (rw [binV_len]; rfl) | (rw [dgR_len]; rfl) | (rw [refR_len]; rfl) | (rw [secR_len]; rfl) | (rw [List.length_map, tagF_len]; rfl) | (rw [opR_len]; rfl) | (rw [ansS_len]; rfl) | (rw [blkR_len]; rfl)) hB17' (by rw [ansR_len, ansS_len]; decide) rfl ?_; intro w18 hB18 hk18 hs18
      have hB18' := ans_stS hB18
      have M18 := (M16.keep hk17).st hB17' (by decide) (by decide) hk18 (by omega)
      have hne17 : InB (fun z => z ≠ b17) v14 := fun z hz e => by
        have := hO16.o.lt z hz
        omega
      have hO18 : ImgsO w18 v14 (imgD (abs l')) ys := ⟨hO16.e, (hO16.o.keep hk17 (fun _ _ => trivial)).keep hk18 hne17, fun y hy => ((hO16.b y hy).keep hk17 (fun _ _ => trivial)).keep hk18 (fun z hz e => by
        have := (hO16.b y hy).lt z hz
        omega)⟩
      have hB118 := hk18.blk' (hk17.blk' hB16 trivial) (show b12 ≠ b17 by omega)
      generalize hD : doD (abs l') c = D at *
      refine ops_nil ?_
      refine W_cut [52] [24, 25, 26, 27, 28, 29, 30, 31, 32, 33, 34, 35, 36, 37, 38, 39, 40, 41, 42, 43, 44, 45, 46, 47, 48, 49, 50, 51, 52] (fun vs w19 => vs = [.bool false] ∧ Keep All w18 w19) ?_ ?_
      · refine W_region ?_
        refine op_run (r_fieldAddr rfl rfl rfl rfl rfl) rfl ?_
        refine op_run (r_load rfl rfl rfl (hB18'.cell rfl)) rfl ?_
        refine op_run (r_neq rfl rfl) rfl ?_
        refine o_mvt rfl ?_
        refine g_split rfl rfl rfl (fun g21 => ?_) (fun g21 => ?_)
        · refine op_run (r_fieldAddr rfl rfl rfl rfl rfl) (g_yes rfl rfl rfl g21) ?_
          refine op_run (r_load rfl rfl rfl (hB118.cell rfl)) (g_yes rfl rfl rfl g21) ?_
          refine op_call rfl rfl (g_yes rfl rfl rfl g21) (md_Changes w18 c.kind) ?_; rintro v23 w23 ⟨rfl, rfl⟩
          refine op_run (r_not rfl) (g_yes rfl rfl rfl g21) ?_
          refine o_pkFt rfl g21 rfl ?_
          refine o_mvt rfl ?_
          have he0 : D.1.e = 0 := by have g := of_decide_eq_false g21; omega
          refine g_split rfl rfl rfl (fun g24 => ?_) (fun g24 => ?_)
          · refine o_mvt (g_yes rfl rfl rfl (by rw [g24] <;> rfl)) ?_
            have hq : ¬ chgD c.kind := by have g := g24; simpa using g
            have hD2 : D.2 = abs l' := by rw [← hD]; exact doD_quiet hq
            have hal : abs l2 = abs l' := ha2.trans hD2
            refine op_call rfl rfl (g_yes rfl rfl rfl (by rw [g24] <;> rfl)) (md_Images w23 mb bm l2 M18.m hsm2 hbk2) ?_; rintro v25 w25 ⟨⟨ys2, hO2⟩, _, hk25⟩
            refine o_mvt (g_yes rfl rfl rfl (by rw [g24] <;> rfl)) ?_
            refine op_call rfl rfl (g_yes rfl rfl rfl (by rw [g24] <;> rfl)) (rf15_Same w25 v25 v14 (imgD (abs l')) ys2 ys (by rw [← hal]; exact hO2.s) (hO18.k hk25).s (imgD_small hbk (by decide))) ?_; rintro v26 w26 ⟨rfl, hk26⟩
            refine op_run (r_not rfl) (g_yes rfl rfl rfl (by rw [g24] <;> rfl)) ?_
            refine o_pkTt rfl (by rw [g24] <;> rfl) rfl ?_
            refine o_mvt rfl ?_
            refine g_split rfl rfl rfl (fun g27 => ?_) (fun g => absurd g (by simp))
            refine op_run (r_fieldAddr rfl rfl rfl rfl rfl) (g_yes rfl rfl rfl (by rw [g27] <;> rfl)) ?_
            refine op_run (r_load rfl rfl rfl ((hk26.blk' (hk25.blk' hB18' trivial) trivial).cell rfl)) (g_yes rfl rfl rfl (by rw [g27] <;> rfl)) ?_
            refine op_run (r_neq rfl rfl) (g_yes rfl rfl rfl (by rw [g27] <;> rfl)) ?_
            refine o_mvt (g_yes rfl rfl rfl (by rw [g27] <;> rfl)) ?_
            refine g_split rfl rfl rfl (fun g => absurd g (by rw [g21]; simp)) (fun g29 => ?_)
            refine op_skip (g_no rfl rfl rfl g29) ?_
            refine op_skip (g_no rfl rfl rfl g29) ?_
            refine op_skip (g_no rfl rfl rfl g29) ?_
            refine op_skip (g_no rfl rfl rfl g29) ?_
            refine op_skip (g_no rfl rfl rfl g29) ?_
            refine op_skip (g_no rfl rfl rfl g29) ?_
            refine o_pkFc rfl g29 (g_yes rfl rfl rfl (by rw [g27] <;> rfl)) ?_
            refine o_pkFt rfl (by rw [g27] <;> rfl) rfl ?_
            refine ops_nil ?_
            exact ⟨by (repeat (first | with_reducible exact offM_refl _ _ | refine offM_updc rfl ?_ | refine offM_upd rfl ?_ | refine offM_updo rfl ?_ | refine offM_updo_none ?_ | refine offM_head rfl rfl ?_)), rfl, hk25.trans hk26⟩
          · refine op_skip (g_no rfl rfl rfl (by rw [g24] <;> rfl)) ?_
            refine op_skip (g_no rfl rfl rfl (by rw [g24] <;> rfl)) ?_
            refine op_skip (g_no rfl rfl rfl (by rw [g24] <;> rfl)) ?_
            refine op_skip (g_no rfl rfl rfl (by rw [g24] <;> rfl)) ?_
            refine op_skip (g_no rfl rfl rfl (by rw [g24] <;> rfl)) ?_
            refine o_pkFc rfl (by rw [g24] <;> rfl) rfl ?_
            refine o_mvt rfl ?_
            refine op_run (r_fieldAddr rfl rfl rfl rfl rfl) (g_yes rfl rfl rfl rfl) ?_
            refine op_run (r_load rfl rfl rfl (hB18'.cell rfl)) (g_yes rfl rfl rfl rfl) ?_
            refine op_run (r_neq rfl rfl) (g_yes rfl rfl rfl rfl) ?_
            refine o_mvt (g_yes rfl rfl rfl rfl) ?_
            refine g_split rfl rfl rfl (fun g => absurd g (by rw [g21]; simp)) (fun g32 => ?_)
            refine op_skip (g_no rfl rfl rfl g32) ?_
            refine op_skip (g_no rfl rfl rfl g32) ?_
            refine op_skip (g_no rfl rfl rfl g32) ?_
            refine op_skip (g_no rfl rfl rfl g32) ?_
            refine op_skip (g_no rfl rfl rfl g32) ?_
            refine op_skip (g_no rfl rfl rfl g32) ?_
            refine o_pkFc rfl g32 (g_yes rfl rfl rfl rfl) ?_
            refine o_pkFt rfl rfl rfl ?_
            refine ops_nil ?_
            exact ⟨by (repeat (first | with_reducible exact offM_refl _ _ | refine offM_updc rfl ?_ | refine offM_upd rfl ?_ | refine offM_updo rfl ?_ | refine offM_updo_none ?_ | refine offM_head rfl rfl ?_)), rfl, Keep.refl _⟩
        · refine op_skip (g_no rfl rfl rfl g21) ?_
          refine op_skip (g_no rfl rfl rfl g21) ?_
          refine op_skip (g_no rfl rfl rfl g21) ?_
          refine op_skip (g_no rfl rfl rfl g21) ?_
          refine o_pkTc rfl g21 rfl ?_
          refine o_mvt rfl ?_
          refine o_mvt (g_yes rfl rfl rfl rfl) ?_
          have hne : D.1.e ≠ 0 := by have g := g21; simpa using g
          obtain ⟨f1, f2, f3⟩ := doD_err (l := abs l') (o := c) (by rw [hD]; exact hne)
          rw [hD] at f1 f2
          have hal : abs l2 = abs l' := ha2.trans f1
          obtain rfl : s = .slice none 0 0 := hN.1 f3
          refine op_call rfl rfl (g_yes rfl rfl rfl rfl) (md_Images w18 mb bm l2 M18.m hsm2 hbk2) ?_; rintro v34 w34 ⟨⟨ys2, hO2⟩, _, hk34⟩
          refine o_mvt (g_yes rfl rfl rfl rfl) ?_
          refine op_call rfl rfl (g_yes rfl rfl rfl rfl) (rf15_Same w34 v34 v14 (imgD (abs l')) ys2 ys (by rw [← hal]; exact hO2.s) (hO18.k hk34).s (imgD_small hbk (by decide))) ?_; rintro v35 w35 ⟨rfl, hk35⟩
          have hB35 := hk35.blk' (hk34.blk' hB18' trivial) trivial
          refine op_run (r_not rfl) (g_yes rfl rfl rfl rfl) ?_
          refine o_pkTt rfl rfl rfl ?_
          refine o_mvt rfl ?_
          refine g_split rfl rfl rfl (fun g36 => ?_) (fun g => absurd g (by simp))
          refine op_run (r_fieldAddr rfl rfl rfl rfl rfl) (g_yes rfl rfl rfl (by rw [g36] <;> rfl)) ?_
          refine op_run (r_load rfl rfl rfl (hB35.cell rfl)) (g_yes rfl rfl rfl (by rw [g36] <;> rfl)) ?_
          refine op_run (r_neq rfl rfl) (g_yes rfl rfl rfl (by rw [g36] <;> rfl)) ?_
          refine o_mvt (g_yes rfl rfl rfl (by rw [g36] <;> rfl)) ?_
          refine g_split rfl rfl rfl (fun g38 => ?_) (fun g => absurd g (by rw [g21]; simp))
          refine op_run (r_loadA (ansS D.1.e D.1.t D.1.b (.slice none 0 0)) rfl rfl rfl (by first | rfl | (rw [binV_len]; rfl) | (rw [dgR_len]; rfl) | (rw [refR_len]; rfl) | (rw [secR_len]; rfl) | (rw [List.length_map, tagF_len]; rfl) | (rw [opR_len]; rfl) | (rw [ansS_len]; rfl) | (rw [blkR_len]; rfl)) (hB35.all)) (g_yes rfl rfl rfl g38) ?_
          refine op_run (r_fieldAddr rfl rfl rfl rfl rfl) (g_yes rfl rfl rfl g38) ?_
          refine op_run (r_load rfl rfl rfl (hB35.cell rfl)) (g_yes rfl rfl rfl g38) ?_
          refine op_run (r_build (ansS D.1.e false Bk.zero (.slice none 0 0)) (_) ([(0, .int .i64 D.1.e)]) rfl rfl rfl rfl rfl (rfl)) (g_yes rfl rfl rfl g38) ?_
          refine op_call rfl rfl (g_yes rfl rfl rfl g38) ((by have e1 := congrArg Ans.t f2; have e2 := congrArg Ans.b f2; rw [show D.1.t = false from e1, show D.1.b = Bk.zero from e2]; exact rf15_SameAnswer w35 D.1.e false Bk.zero (.slice none 0 0) (.slice none 0 0) [] (Sl.nil _ _) (Sl.nil _ _))) ?_; rintro v42 w42 ⟨rfl, hk42⟩
          refine op_run (r_not rfl) (g_yes rfl rfl rfl g38) ?_
          refine o_pkTt rfl g38 (g_yes rfl rfl rfl (by rw [g36] <;> rfl)) ?_
          refine o_pkFt rfl (by rw [g36] <;> rfl) rfl ?_
          refine ops_nil ?_
          exact ⟨by (repeat (first | with_reducible exact offM_refl _ _ | refine offM_updc rfl ?_ | refine offM_upd rfl ?_ | refine offM_updo rfl ?_ | refine offM_updo_none ?_ | refine offM_head rfl rfl ?_)), rfl, (hk34.trans hk35).trans hk42⟩
      · rintro J44 vs w44 ⟨rfl, hk44⟩ -
        refine W_no rfl (rfl) ?_
        refine W_skip ?_
        refine W_region ?_
        refine op_run (r_add rfl rfl) rfl ?_
        refine o_mvt rfl ?_
        refine ops_nil ?_
        refine ⟨by (repeat (first | with_reducible exact offM_refl _ _ | refine offM_updc rfl ?_ | refine offM_upd rfl ?_ | refine offM_updo rfl ?_ | refine offM_updo_none ?_ | refine offM_head rfl rfl ?_)), ⟨k + 1, l2, congrArg (fun z : Int => [Value.int .i64 z]) hinc, by omega, ?_, M18.keep hk44⟩, ?_⟩
        · rw [htk]; exact ha2
        · show os.length - (IntKind.i64.wrap ((k : Int) + 1)).toNat < os.length - (k : Int).toNat
          rw [hinc]; omega
    · refine W_exit ?_
      refine W_seq ?_
      refine W_region ?_
      refine o_asc rfl ?_
      refine ops_nil ?_
      refine W_ret ?_
      refine ret1 (.bool true) rfl ?_ ?_; rfl
      exact ⟨rfl, M.k⟩
end Go.Proofs.Ytkckphbdjkjfgaa.B
