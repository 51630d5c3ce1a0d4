/-
  CommitUnlike: the walk.
-/
import Derived.Test.YtlpkdblhaahkaaaCom8
import Derived.Test.YtlpkdblhaahkaaaMLib
namespace Go.Proofs.Ytlpkdblhaahkaaa.B
open Go
set_option linter.unusedVariables false
set_option maxHeartbeats 2000000
set_option maxRecDepth 100000
attribute [local irreducible] W OpsW OpsQ retP
attribute [local irreducible] numR
def okE (c : Cm) : Prop := c.right ∧ (encC c).length ≤ 65536
instance (c : Cm) : Decidable (okE c) := inferInstanceAs (Decidable (_ ∧ _))
def codeE (c : Cm) : Int := if c.right then (if (encC c).length ≤ 65536 then 0 else 4) else 1
theorem codeE_iff (c : Cm) : codeE c = 0 ↔ okE c := by
  unfold codeE okE
  by_cases h1 : c.right
  · by_cases h2 : (encC c).length ≤ 65536
    · rw [if_pos h1, if_pos h2]; exact ⟨fun _ => ⟨h1, h2⟩, fun _ => rfl⟩
    · rw [if_pos h1, if_neg h2]; exact ⟨fun h => absurd h (by decide), fun h => absurd h.2 h2⟩
  · rw [if_neg h1]; exact ⟨fun h => absurd h (by decide), fun h => absurd h.1 h1⟩
def outE (c : Cm) : List UInt8 := if okE c then encC c else []
theorem encC_pos (c : Cm) : 0 < (encC c).length := by
  have := encN_pos c.epoch
  unfold encC; rw [List.length_append]; omega
theorem cm_Enc (w : World) (c : Cm) (vb ve : Value) (vks : List Value) (hc : CmIn w c vb ve vks) (hs : c.small) :
    Ret Try.prog 11 [.agg (cmV c vb ve).toArray].toArray w fun u w' => ∃ v, u = .tuple #[v, .int .i64 (codeE c)] ∧ By w' v (outE c) ∧ Keep All w w' :=
  (cm_Encode w c vb ve vks hc hs).mono fun e w' ⟨u, he, v, hu, hb, _, hk⟩ => ⟨u, he, v, hu, hb, hk⟩
theorem walk_CommitUnlike (w : World) (c d : Cm) (vb ve wb we : Value) (vks wks : List Value) (cut : Int) (hc : CmIn w c vb ve vks) (hd : CmIn w d wb we wks) (hc64 : c.epoch < 2 ^ 64) (hd64 : d.epoch < 2 ^ 64) :
    Ret Try.prog 4 [.agg (cmV c vb ve).toArray, .agg (cmV d wb we).toArray, .int .i64 cut].toArray w fun u w' => u = .bool true ∧ Keep All w w' := by
  obtain ⟨ab, cb, rfl, hcb, hcbm⟩ := hc.1.form
  obtain ⟨ae, ce, rfl, hce, hcem⟩ := hc.2.2.1.form
  obtain ⟨xb, yb, rfl, hyb, hybm⟩ := hd.1.form
  obtain ⟨xe, ye, rfl, hye, hyem⟩ := hd.2.2.1.form
  obtain ⟨m, hm, hand⟩ := and_mask cut 65535 (by decide)
  refine enter (fn := Try.f4) (n := 70) Try.func4 rfl rfl (by simp) ?_
  refine W_seq ?_
  refine W_region ?_
  refine o_box rfl rfl rfl ?_; intro w1 b1 e1 hB1 hk1 hs1
  have hB1 : Blk w1 b1 (cmV c (.slice ab c.bins.length cb) (.slice ae c.events.length ce)) 32 := hB1
  refine o_box rfl rfl rfl ?_; intro w2 b2 e2 hB2 hk2 hs2
  have hB2 : Blk w2 b2 (cmV d (.slice xb d.bins.length yb) (.slice xe d.events.length ye)) 32 := hB2
  refine o_asc rfl ?_
  refine ops_nil ?_
  refine W_seq ?_
  refine W_seq ?_
  refine W_region ?_
  refine op_call rfl rfl rfl (speaks13 w2) ?_; rintro v3 w3 ⟨rfl, hk3⟩
  have hk03 := (hk1.trans hk2).trans hk3
  have hB1 := (hk2.trans hk3).blk' hB1 trivial
  have hB2 := hk3.blk' hB2 trivial
  refine op_run (r_not rfl) rfl ?_
  refine ops_nil ?_
  refine W_no rfl (rfl) ?_
  refine W_skip ?_
  refine W_seq ?_
  refine W_cut [20] [15, 16, 17, 18, 19, 20] (fun vs w6 => vs = [.bool (decide (greatC c ∨ greatC d))] ∧ Keep All w3 w6) ?_ ?_
  · refine W_region ?_
    refine op_run (r_loadA (cmV c (.slice ab c.bins.length cb) (.slice ae c.events.length ce)) rfl rfl rfl (by first | rfl | (rw [binV_len]; rfl) | (rw [dgR_len]; rfl) | (rw [refR_len]; rfl) | (rw [secR_len]; rfl) | (rw [List.length_map, tagF_len]; rfl) | (rw [cmV_len]; rfl)) (hB1.all)) rfl ?_
    refine op_call rfl rfl rfl (great13 w3 c _ _ vks (hc.k hk03)) ?_; rintro v8 w8 ⟨rfl, hk8⟩
    refine o_mvt rfl ?_
    refine g_split rfl rfl rfl (fun g9 => ?_) (fun g9 => ?_)
    · refine op_run (r_loadA (cmV d (.slice xb d.bins.length yb) (.slice xe d.events.length ye)) rfl rfl rfl (by first | rfl | (rw [binV_len]; rfl) | (rw [dgR_len]; rfl) | (rw [refR_len]; rfl) | (rw [secR_len]; rfl) | (rw [List.length_map, tagF_len]; rfl) | (rw [cmV_len]; rfl)) ((hk8.blk' hB2 trivial).all)) (g_yes rfl rfl rfl g9) ?_
      refine op_call rfl rfl (g_yes rfl rfl rfl g9) (great13 w8 d _ _ wks (hd.k (hk03.trans hk8))) ?_; rintro v11 w11 ⟨rfl, hk11⟩
      refine o_pkFt rfl g9 rfl ?_
      refine ops_nil ?_
      exact ⟨by (repeat (first | with_reducible exact offM_refl _ _ | refine offM_updc rfl ?_ | refine offM_upd rfl ?_ | refine offM_updo rfl ?_ | refine offM_updo_none ?_ | refine offM_head rfl rfl ?_)), congrArg (fun b => [Value.bool b]) (by have g := of_decide_eq_false g9; rw [decide_eq_decide]; exact ⟨.inr, fun h => h.resolve_left g⟩), hk8.trans hk11⟩
    · refine op_skip (g_no rfl rfl rfl g9) ?_
      refine op_skip (g_no rfl rfl rfl g9) ?_
      refine o_pkTc rfl g9 rfl ?_
      refine ops_nil ?_
      exact ⟨by (repeat (first | with_reducible exact offM_refl _ _ | refine offM_updc rfl ?_ | refine offM_upd rfl ?_ | refine offM_updo rfl ?_ | refine offM_updo_none ?_ | refine offM_head rfl rfl ?_)), congrArg (fun b => [Value.bool b]) (by have g := of_decide_eq_true g9; symm; exact decide_eq_true (.inl g)), hk8⟩
  · rintro J14 vs w14 ⟨rfl, hk14⟩ -
    refine W_cond_p rfl (fun h15 => ?_) (fun h15 => ?_)
    · refine W_seq ?_
      refine W_region ?_
      refine o_asc rfl ?_
      refine ops_nil ?_
      refine W_ret ?_
      refine ret1 (.bool true) rfl ?_ ?_; rfl
      exact ⟨rfl, hk03.trans hk14⟩
    · refine W_skip ?_
      refine W_seq ?_
      refine W_region ?_
      have hcs := greatC_small (fun h => h15 (.inl h)) hc64
      have hds := greatC_small (fun h => h15 (.inr h)) hd64
      have hk014 := hk03.trans hk14
      refine op_run (r_loadA (cmV c (.slice ab c.bins.length cb) (.slice ae c.events.length ce)) rfl rfl rfl (by first | rfl | (rw [binV_len]; rfl) | (rw [dgR_len]; rfl) | (rw [refR_len]; rfl) | (rw [secR_len]; rfl) | (rw [List.length_map, tagF_len]; rfl) | (rw [cmV_len]; rfl)) ((hk14.blk' hB1 trivial).all)) rfl ?_
      refine op_call rfl rfl rfl (cm_Enc w14 c _ _ vks (hc.k hk014) hcs) ?_; rintro v18 w18 ⟨va, rfl, hba, hk18⟩
      obtain ⟨aa, ca, rfl, hca, _⟩ := hba.form
      refine o_mvt rfl ?_
      refine op_run (r_extract rfl rfl) rfl ?_
      refine op_run (r_extract rfl rfl) rfl ?_
      refine o_ast rfl ?_
      refine o_ast rfl ?_
      refine ops_nil ?_
      refine W_seq ?_
      refine W_region ?_
      refine op_run (r_loadA (cmV d (.slice xb d.bins.length yb) (.slice xe d.events.length ye)) rfl rfl rfl (by first | rfl | (rw [binV_len]; rfl) | (rw [dgR_len]; rfl) | (rw [refR_len]; rfl) | (rw [secR_len]; rfl) | (rw [List.length_map, tagF_len]; rfl) | (rw [cmV_len]; rfl)) (((hk14.trans hk18).blk' hB2 trivial).all)) rfl ?_
      refine op_call rfl rfl rfl (cm_Enc w18 d _ _ wks (hd.k (hk014.trans hk18)) hds) ?_; rintro v20 w20 ⟨vb, rfl, hbb, hk20⟩
      obtain ⟨ab2, cb2, rfl, _, _⟩ := hbb.form
      have hk020 := (hk014.trans hk18).trans hk20
      have hci := codeE_iff c
      have hdi := codeE_iff d
      refine o_mvt rfl ?_
      refine op_run (r_extract rfl rfl) rfl ?_
      refine op_run (r_extract rfl rfl) rfl ?_
      refine o_ast rfl ?_
      refine o_ast rfl ?_
      refine ops_nil ?_
      refine W_seq ?_
      refine W_cut [41] [31, 32, 33, 34, 35, 36, 37, 38, 39, 40, 41] (fun vs w21 => vs = [.bool (decide (¬ (okE c ∧ okE d)))] ∧ w21 = w20) ?_ ?_
      · refine W_region ?_
        refine o_mvt rfl ?_
        refine op_run (r_neq rfl rfl) rfl ?_
        refine o_mvt rfl ?_
        refine g_split rfl rfl rfl (fun g22 => ?_) (fun g22 => ?_)
        · refine o_mvt (g_yes rfl rfl rfl g22) ?_
          refine op_run (r_neq rfl rfl) (g_yes rfl rfl rfl g22) ?_
          refine o_pkFt rfl g22 rfl ?_
          refine o_mvt rfl ?_
          refine g_split rfl rfl rfl (fun g23 => ?_) (fun g23 => ?_)
          · refine o_mvt (g_yes rfl rfl rfl g23) ?_
            refine op_run (r_len rfl rfl rfl) (g_yes rfl rfl rfl g23) ?_
            refine op_run (r_eql rfl rfl) (g_yes rfl rfl rfl g23) ?_
            refine o_pkFt rfl g23 rfl ?_
            refine ops_nil ?_
            exact ⟨by (repeat (first | with_reducible exact offM_refl _ _ | refine offM_updc rfl ?_ | refine offM_upd rfl ?_ | refine offM_updo rfl ?_ | refine offM_updo_none ?_ | refine offM_head rfl rfl ?_)), congrArg (fun b => [Value.bool b]) (by
              have g22 := of_decide_eq_false g22; have g23 := of_decide_eq_false g23
              have h1 : okE c := hci.1 (Decidable.not_not.1 g22)
              have h2 : okE d := hdi.1 (Decidable.not_not.1 g23)
              rw [decide_eq_decide]
              constructor
              · intro h; unfold outE at h; rw [if_pos h1] at h; have := encC_pos c; omega
              · intro h; exact absurd ⟨h1, h2⟩ h), rfl⟩
          · refine op_skip (g_no rfl rfl rfl g23) ?_
            refine op_skip (g_no rfl rfl rfl g23) ?_
            refine op_skip (g_no rfl rfl rfl g23) ?_
            refine o_pkTc rfl g23 rfl ?_
            refine ops_nil ?_
            exact ⟨by (repeat (first | with_reducible exact offM_refl _ _ | refine offM_updc rfl ?_ | refine offM_upd rfl ?_ | refine offM_updo rfl ?_ | refine offM_updo_none ?_ | refine offM_head rfl rfl ?_)), congrArg (fun b => [Value.bool b]) (by have g := of_decide_eq_true g23; symm; exact decide_eq_true fun h => g (hdi.2 h.2)), rfl⟩
        · refine op_skip (g_no rfl rfl rfl g22) ?_
          refine op_skip (g_no rfl rfl rfl g22) ?_
          refine o_pkTc rfl g22 rfl ?_
          refine o_mvt rfl ?_
          refine op_skip (g_no rfl rfl rfl rfl) ?_
          refine op_skip (g_no rfl rfl rfl rfl) ?_
          refine op_skip (g_no rfl rfl rfl rfl) ?_
          refine o_pkTc rfl rfl rfl ?_
          refine ops_nil ?_
          exact ⟨by (repeat (first | with_reducible exact offM_refl _ _ | refine offM_updc rfl ?_ | refine offM_upd rfl ?_ | refine offM_updo rfl ?_ | refine offM_updo_none ?_ | refine offM_head rfl rfl ?_)), congrArg (fun b => [Value.bool b]) (by have g := of_decide_eq_true g22; symm; exact decide_eq_true fun h => g (hci.2 h.1)), rfl⟩
      · rintro J27 vs w27 ⟨rfl, rfl⟩ -
        refine W_cond_p rfl (fun h28 => ?_) (fun h28 => ?_)
        · refine W_seq ?_
          refine W_region ?_
          refine o_mvt rfl ?_
          refine op_run (r_neq rfl rfl) rfl ?_
          refine o_mvt rfl ?_
          refine g_split rfl rfl rfl (fun g29 => ?_) (fun g29 => ?_)
          · refine o_mvt (g_yes rfl rfl rfl g29) ?_
            refine op_run (r_neq rfl rfl) (g_yes rfl rfl rfl g29) ?_
            refine o_pkFt rfl g29 rfl ?_
            refine o_ast rfl ?_
            refine ops_nil ?_
            refine W_ret ?_
            refine ret1 (.bool (decide (codeE d ≠ 0))) rfl ?_ ?_; rfl
            exact ⟨congrArg Value.bool (decide_eq_true fun h => h28 ⟨hci.1 (Decidable.not_not.1 (of_decide_eq_false g29)), hdi.1 h⟩), hk020⟩
          · refine op_skip (g_no rfl rfl rfl g29) ?_
            refine op_skip (g_no rfl rfl rfl g29) ?_
            refine o_pkTc rfl g29 rfl ?_
            refine o_ast rfl ?_
            refine ops_nil ?_
            refine W_ret ?_
            refine ret1 (.bool true) rfl ?_ ?_; rfl
            exact ⟨rfl, hk020⟩
        · refine W_skip ?_
          refine W_seq ?_
          refine W_region ?_
          refine o_mvt rfl ?_
          refine o_mvt rfl ?_
          refine op_run ((r_and rfl rfl).val (congrArg (Value.int .i64) (show bitw .and .i64 cut 65535 = ((m : Nat) : Int) from hand))) rfl ?_
          refine o_mvt rfl ?_
          refine op_run (r_len rfl rfl rfl) rfl ?_
          obtain ⟨hokc, hokd⟩ := Decidable.not_not.1 h28
          have ha : outE c = encC c := if_pos hokc
          have hb : outE d = encC d := if_pos hokd
          have hpos := encC_pos c
          have hlc := hokc.2
          have hlen : (outE c).length = (encC c).length := by rw [ha]
          obtain ⟨k, hk⟩ : ∃ k, k = m % (encC c).length := ⟨_, rfl⟩
          have hkl : k < (encC c).length := by rw [hk]; exact Nat.mod_lt _ hpos
          have hbk : By w27 (subSl aa 1 0 k ca) ((outE c).take k) := by
            have h := By.sub (xs := outE c) (hba.k hk20) (l := 0) (h := k) (m := ca) (Nat.zero_le _) (by omega) (by omega) (Nat.le_refl _)
            rwa [List.drop_zero] at h
          refine op_run ((r_rem rfl rfl (by omega)).val (congrArg (Value.int .i64) (show ((m : Nat) : Int).tmod (((outE c).length : Nat) : Int) = ((k : Nat) : Int) from by rw [hk, hlen, Int.tmod_eq_emod_of_nonneg (by omega)]; norm_cast))) rfl ?_
          refine op_run (r_sliceS_hi rfl rfl rfl rfl (by omega) (by omega)) rfl ?_
          refine op_call rfl rfl rfl (cm_Decode w27 _ ((outE c).take k) hbk (by rw [List.length_take]; omega)) ?_; rintro v34 w34 ⟨vq, vr, vs', rfl, hC34, hk34⟩
          have hcut : decC ((outE c).take k) = none := by rw [ha]; exact decC_cut hokc.1 hc64 hlc hkl
          rw [hcut] at hC34 ⊢
          obtain ⟨aq, cq, rfl, _, _⟩ := hC34.1.form
          obtain ⟨ar, cr, rfl, _, _⟩ := hC34.2.2.1.form
          refine o_mvt rfl ?_
          refine op_run (r_extract rfl rfl) rfl ?_
          refine op_run (r_extract rfl rfl) rfl ?_
          refine o_alloc rfl rfl rfl ?_; intro w35 b35 e35 hB35 hk35 hs35
          refine o_storeA (cs := cmV Cm.zero (.slice aq Cm.zero.bins.length cq) (.slice ar Cm.zero.events.length cr)) rfl rfl (by first | rfl | exact binV_one _ | exact dgR_one _ | exact refR_one _ | exact secR_one _ | exact all_c8 _ | exact cmV_one _ rfl rfl) (by first | rfl | (rw [binV_len]; rfl) | (rw [dgR_len]; rfl) | (rw [refR_len]; rfl) | (rw [secR_len]; rfl) | (rw [List.length_map, tagF_len]; rfl) | (rw [cmV_len]; rfl)) hB35 (by simp [cmV_len]) rfl ?_; intro w36 hB36 hk36 hs36
          have hk2736 : Keep All w27 w36 := hk34.trans (hk35.new hk36 (by omega))
          have hB1e := (((hk14.trans hk18).trans hk20).trans hk2736).blk' hB1 trivial
          have hB2e := (((hk14.trans hk18).trans hk20).trans hk2736).blk' hB2 trivial
          refine o_ast rfl ?_
          refine ops_nil ?_
          refine W_seq ?_
          refine W_quiet (Keep All w36) (by kernel_rfl) (by kernel_rfl) (Keep.drawn _) ?_
          refine q_mvt rfl ?_
          refine q_mvt rfl ?_
          refine q_call rfl rfl rfl (fun _ hk => (ref01_Same _ _ _ (outE c) (outE d) (((hba.k hk20).k hk2736).k hk) ((hbb.k hk2736).k hk)).mono fun e w'' ⟨u, he, h1, h2⟩ => ⟨u, he, h1, hk.trans h2⟩) ?_
          refine q_run (fun _ hk => r_loadA (cmV c (.slice ab c.bins.length cb) (.slice ae c.events.length ce)) rfl rfl rfl (by first | rfl | (rw [binV_len]; rfl) | (rw [dgR_len]; rfl) | (rw [refR_len]; rfl) | (rw [secR_len]; rfl) | (rw [List.length_map, tagF_len]; rfl) | (rw [cmV_len]; rfl)) ((hk.blk' hB1e trivial).all)) rfl ?_
          refine q_run (fun _ hk => r_loadA (cmV d (.slice xb d.bins.length yb) (.slice xe d.events.length ye)) rfl rfl rfl (by first | rfl | (rw [binV_len]; rfl) | (rw [dgR_len]; rfl) | (rw [refR_len]; rfl) | (rw [secR_len]; rfl) | (rw [List.length_map, tagF_len]; rfl) | (rw [cmV_len]; rfl)) ((hk.blk' hB2e trivial).all)) rfl ?_
          refine q_call rfl rfl rfl (fun _ hk => (rf13_Same _ c d _ _ _ _ vks wks (((hc.k hk020).k hk2736).k hk) (((hd.k hk020).k hk2736).k hk)).mono fun e w'' ⟨u, he, h1, h2⟩ => ⟨u, he, h1, hk.trans h2⟩) ?_
          refine q_run (fun _ _ => (r_eqlB rfl rfl rfl)) rfl ?_
          refine q_mvt rfl ?_
          have hiff : decide (outE c = outE d) = decide (c = d) := by
            rw [decide_eq_decide, ha, hb]
            exact ⟨fun h => encC_inj hokc.1 hc64 hokd.1 hd64 hlc h, fun h => by rw [h]⟩
          refine q_split rfl rfl rfl (fun g42 => ?_) (fun g => absurd g (by simp [hiff]))
          refine q_mvt (g_yes rfl rfl rfl g42) ?_
          refine q_run (fun _ _ => (r_eql rfl rfl)) (g_yes rfl rfl rfl g42) ?_
          refine q_pkTt rfl g42 rfl ?_
          refine q_ast rfl ?_
          refine q_nil ?_; intro w43 hk43
          refine W_ret ?_
          refine ret1 (.bool (decide ((3 : Int) = 3))) rfl ?_ ?_; rfl
          exact ⟨congrArg Value.bool (decide_eq_true rfl), (hk020.trans hk2736).trans hk43⟩
end Go.Proofs.Ytlpkdblhaahkaaa.B
