/-
  sporranlaw12.call.
-/
import Derived.Test.YtkmciohghhffnaaGreatVLaw1
namespace Go.Proofs.YtkmciohghhffnaaGreat.B
open Go
set_option linter.unusedVariables false
set_option maxHeartbeats 2000000
set_option maxRecDepth 100000
attribute [local irreducible] W OpsW OpsQ retP
def CallQ (w : World) (mb bm : Nat) (l : ModL) (l0 : AL) (c : CallV) (r : Value) (w' : World) : Prop :=
  ∃ v' ys' ok l', r = .tuple #[v', .bool ok] ∧ ImgsS w' v' (imgD (stepD l0 c)) ys' ∧ abs l' = stepD (abs l) c ∧ ModS w mb bm l w' l' ∧ (l0 = abs l → ok = true)
theorem lw_call (w : World) (mb bm : Nat) (l : ModL) (v : Value) (l0 : AL) (ys : List (Img × Value)) (c : CallV) (hM : ModW w mb bm l) (h : ImgsS w v (imgD l0) ys) (hN : NdA l0) (hc : c.small) (hl : l0.length ≤ 1000) (hbk : BlkN 1000 l0) :
    Ret Tryz.prog 7 [.pointer (some ⟨mb, 0, none⟩), v, .agg (callR c).toArray].toArray w (CallQ w mb bm l l0 c) := by
  have hil := imgD_len l0
  have hnl : c.name.length ≤ 2 ^ 40 := by have := hc.1; omega
  have hol : c.other.length ≤ 2 ^ 40 := by have := hc.2; omega
  refine enter (fn := Tryz.f7) (n := 151) Tryz.func7 rfl rfl (by simp) ?_
  refine W_seq ?_
  refine W_region ?_
  refine o_box rfl rfl rfl ?_; intro w1 b1 e1 hB1 hk1 hs1
  have hB1' : Blk w1 b1 (callR c) 31 := hB1
  have M1 := hM.k hk1
  have h1 := h.k hk1
  refine o_asc rfl ?_
  refine o_asc rfl ?_
  refine ops_nil ?_
  refine W_seq ?_
  refine W_seq ?_
  refine W_region ?_
  refine op_run (r_fieldAddr rfl rfl rfl rfl rfl) rfl ?_
  refine op_run (r_load rfl rfl rfl (hB1'.cell rfl)) rfl ?_
  refine ops_nil ?_
  refine W_block ?_
  refine W_cut [23] [23, 24, 25] (fun vs w3 => vs = [.bool (decide (c.what = 0 ∨ c.what = 1))] ∧ w3 = w1) ?_ ?_
  · refine W_seq ?_
    refine W_region ?_
    refine op_run (r_eql rfl rfl) rfl ?_
    refine o_ast rfl ?_
    refine ops_nil ?_
    refine W_cond_p rfl (fun h4 => ?_) (fun h4 => ?_)
    · refine W_skip ?_
      exact ⟨by (repeat (first | with_reducible exact offM_refl _ _ | refine offM_updc rfl ?_ | refine offM_upd rfl ?_ | refine offM_updo rfl ?_ | refine offM_updo_none ?_ | refine offM_head rfl rfl ?_)), congrArg (fun b => [Value.bool b]) (by rw [decide_eq_decide]; exact ⟨fun h => .inl h, fun _ => h4⟩), rfl⟩
    · refine W_region ?_
      refine op_run (r_eql rfl rfl) rfl ?_
      refine o_ast rfl ?_
      refine ops_nil ?_
      exact ⟨by (repeat (first | with_reducible exact offM_refl _ _ | refine offM_updc rfl ?_ | refine offM_upd rfl ?_ | refine offM_updo rfl ?_ | refine offM_updo_none ?_ | refine offM_head rfl rfl ?_)), congrArg (fun b => [Value.bool b]) (by rw [decide_eq_decide]; exact ⟨fun h => .inr h, fun h => h.resolve_left h4⟩), rfl⟩
  · rintro J7 vs w7 ⟨rfl, rfl⟩ -
    refine W_cond_p rfl (fun h8 => ?_) (fun h8 => ?_)
    · refine W_seq ?_
      refine W_region ?_
      refine o_mvt rfl ?_
      refine op_run (r_fieldAddr rfl rfl rfl rfl rfl) rfl ?_
      obtain ⟨R0, hR0⟩ : ∃ R, setR l0 c.name c.number (decide (c.what = 0)) c.finger = R := ⟨_, rfl⟩
      obtain ⟨R1, hR1⟩ : ∃ R, setR (abs l) c.name c.number (decide (c.what = 0)) c.finger = R := ⟨_, rfl⟩
      have hsz1 := hk1.size
      refine op_run (r_load rfl rfl rfl (hB1'.cell rfl)) rfl ?_
      refine op_run (r_fieldAddr rfl rfl rfl rfl rfl) rfl ?_
      refine op_run (r_load rfl rfl rfl (hB1'.cell rfl)) rfl ?_
      refine op_run (r_fieldAddr rfl rfl rfl rfl rfl) rfl ?_
      refine op_run (r_load rfl rfl rfl (hB1'.cell rfl)) rfl ?_
      refine op_run (r_eql rfl rfl) rfl ?_
      refine op_run (r_fieldAddr rfl rfl rfl rfl rfl) rfl ?_
      refine op_run (r_loadA (blkR c.finger) rfl rfl rfl (by first | rfl | (rw [binV_len]; rfl) | (rw [dgR_len]; rfl) | (rw [refR_len]; rfl) | (rw [secR_len]; rfl) | (rw [List.length_map, tagF_len]; rfl) | (rw [callR_len]; rfl) | (rw [blkR_len]; rfl)) ((fun j u hj => by rw [Addr.add_lit]; exact hB1'.cell (callR_blk c hj)))) rfl ?_
      refine op_call rfl rfl rfl (rf12_Set w7 v l0 ys c.name c.number (decide (c.what = 0)) c.finger h1 hN hl hbk) ?_; rintro v13 w13 ⟨⟨v', ys', rfl, hI13⟩, hk13⟩
      rw [hR0] at hI13 ⊢
      have hB113 := hk13.blk' hB1' trivial
      have M13 := M1.k hk13
      have hz13 := hk13.size
      refine o_mvt rfl ?_
      refine op_run (r_extract rfl rfl) rfl ?_
      refine op_run (r_extract rfl rfl) rfl ?_
      refine op_run (r_extract rfl rfl) rfl ?_
      refine op_run (r_extract rfl rfl) rfl ?_
      refine o_alloc rfl rfl rfl ?_; intro w14 b14 e14 hB14 hk14 hs14
      have hB14' : Blk w14 b14 (blkR Bk.zero) 29 := hB14
      refine o_ast rfl ?_
      refine o_storeA (cs := blkR R0.1.f) rfl rfl (by first | rfl | exact binV_one _ | exact dgR_one _ | exact refR_one _ | exact secR_one _ | exact all_c8 _ | exact callR_one _ | exact blkR_one _) (by first | rfl | (rw [binV_len]; rfl) | (rw [dgR_len]; rfl) | (rw [refR_len]; rfl) | (rw [secR_len]; rfl) | (rw [List.length_map, tagF_len]; rfl) | (rw [callR_len]; rfl) | (rw [blkR_len]; rfl)) hB14' (by exact Nat.le_of_eq (by simp [blkR_len])) rfl ?_; intro w15 hB15 hk15 hs15
      have hB15' := bk_st hB15
      have hk15' := hk14.new hk15 (by omega)
      have hB115 := hk15'.blk' hB113 trivial
      refine o_ast rfl ?_
      refine o_ast rfl ?_
      refine ops_nil ?_
      refine W_seq ?_
      refine W_region ?_
      refine op_run (r_buildA (blkR Bk.zero) (_) ([]) rfl rfl rfl rfl rfl (rfl)) rfl ?_
      refine o_alloc rfl rfl rfl ?_; intro w17 b17 e17 hB17 hk17 hs17
      have hB17' : Blk w17 b17 (blkR Bk.zero) 29 := hB17
      have hlt15 := hB15'.lt
      have hz15 := hk15'.size
      refine o_storeA (cs := blkR Bk.zero) rfl rfl (by first | rfl | exact binV_one _ | exact dgR_one _ | exact refR_one _ | exact secR_one _ | exact all_c8 _ | exact callR_one _ | exact blkR_one _) (by first | rfl | (rw [binV_len]; rfl) | (rw [dgR_len]; rfl) | (rw [refR_len]; rfl) | (rw [secR_len]; rfl) | (rw [List.length_map, tagF_len]; rfl) | (rw [callR_len]; rfl) | (rw [blkR_len]; rfl)) hB17' (by exact Nat.le_of_eq (by simp [blkR_len])) rfl ?_; intro w18 hB18 hk18 hs18
      have hB18' := bk_st hB18
      have hk18' := hk17.new hk18 (by omega)
      have hkA : Keep All w7 w18 := (hk13.trans hk15').trans hk18'
      have hB1A := hkA.blk' hB1' trivial
      have hB14A := hk18'.blk' hB15' trivial
      have MA := M1.k hkA
      have hkD : Keep All w13 w18 := hk15'.trans hk18'
      refine o_asc rfl ?_
      refine o_asc rfl ?_
      refine ops_nil ?_
      refine W_cut [13, 14] [13, 14, 43, 44, 45, 46, 47, 48, 49, 50, 51, 52, 53, 54, 55, 56, 57, 58, 59, 60, 61, 62, 63, 64, 65, 66, 67] (fun vs w19 => ∃ l', vs = [.bool R1.1.t, .int .i64 R1.1.e] ∧ abs l' = R1.2 ∧ ModS w13 mb bm l w19 l' ∧ Blk w19 b17 (blkR R1.1.f) 29 ∧ Blk w19 b14 (blkR R0.1.f) 29 ∧ Keep (fun z => ¬ ModB bm l z) w13 w19) ?_ ?_
      · refine W_seq ?_
        refine W_region ?_
        refine op_run (r_fieldAddr rfl rfl rfl rfl rfl) rfl ?_
        refine op_run (r_load rfl rfl rfl (hB1A.cell rfl)) rfl ?_
        refine op_run (r_eql rfl rfl) rfl ?_
        refine ops_nil ?_
        refine W_cond_p rfl (fun h21 => ?_) (fun h21 => ?_)
        · refine W_region ?_
          refine o_mvt rfl ?_
          refine op_run (r_fieldAddr rfl rfl rfl rfl rfl) rfl ?_
          have hp : putR (abs l) c.name c.number c.finger = R1 := by rw [← hR1, decide_eq_true h21]; rfl
          refine op_run (r_load rfl rfl rfl (hB1A.cell rfl)) rfl ?_
          refine op_run (r_fieldAddr rfl rfl rfl rfl rfl) rfl ?_
          refine op_run (r_load rfl rfl rfl (hB1A.cell rfl)) rfl ?_
          refine op_run (r_fieldAddr rfl rfl rfl rfl rfl) rfl ?_
          refine op_run (r_loadA (blkR c.finger) rfl rfl rfl (by first | rfl | (rw [binV_len]; rfl) | (rw [dgR_len]; rfl) | (rw [refR_len]; rfl) | (rw [secR_len]; rfl) | (rw [List.length_map, tagF_len]; rfl) | (rw [callR_len]; rfl) | (rw [blkR_len]; rfl)) ((fun j u hj => by rw [Addr.add_lit]; exact hB1A.cell (callR_blk c hj)))) rfl ?_
          refine op_call rfl rfl rfl (vl_Put w18 mb bm l c.name c.number c.finger MA) ?_; rintro v25 w25 ⟨rfl, l', ha', hS'⟩
          rw [hp] at ha' ⊢
          have hne : ∀ {x : Nat} {cs : List Value} {t : TypeId}, Blk w18 x cs t → Blk w25 x cs t := fun hB => hS'.2.1.blk' hB (neB MA hB)
          refine o_mvt rfl ?_
          refine op_run (r_extract rfl rfl) rfl ?_
          refine op_run (r_extract rfl rfl) rfl ?_
          refine op_run (r_extract rfl rfl) rfl ?_
          refine o_storeA (cs := blkR R1.1.f) rfl rfl (by first | rfl | exact binV_one _ | exact dgR_one _ | exact refR_one _ | exact secR_one _ | exact all_c8 _ | exact callR_one _ | exact blkR_one _) (by first | rfl | (rw [binV_len]; rfl) | (rw [dgR_len]; rfl) | (rw [refR_len]; rfl) | (rw [secR_len]; rfl) | (rw [List.length_map, tagF_len]; rfl) | (rw [callR_len]; rfl) | (rw [blkR_len]; rfl)) (hne hB18') (by exact Nat.le_of_eq (by simp [blkR_len])) rfl ?_; intro w26 hB26 hk26 hs26
          refine o_ast rfl ?_
          refine o_ast rfl ?_
          refine ops_nil ?_
          exact ⟨by (repeat (first | with_reducible exact offM_refl _ _ | refine offM_updc rfl ?_ | refine offM_upd rfl ?_ | refine offM_updo rfl ?_ | refine offM_updo_none ?_ | refine offM_head rfl rfl ?_)), l', rfl, ha', (ModS.pre M13 hkD hS').st (hne hB18') (by decide) hk26 (by omega), bk_st hB26, hk26.blk' (hne hB14A) (show b14 ≠ b17 by omega), (hkD.all.trans hS'.2.1).new hk26 (by omega)⟩
        · refine W_region ?_
          refine o_mvt rfl ?_
          refine op_run (r_fieldAddr rfl rfl rfl rfl rfl) rfl ?_
          have hp : dropR (abs l) c.name c.number = R1 := by rw [← hR1, decide_eq_false h21]; rfl
          refine op_run (r_load rfl rfl rfl (hB1A.cell rfl)) rfl ?_
          refine op_run (r_fieldAddr rfl rfl rfl rfl rfl) rfl ?_
          refine op_run (r_load rfl rfl rfl (hB1A.cell rfl)) rfl ?_
          refine op_call rfl rfl rfl (vl_Drop w18 mb bm l c.name c.number MA) ?_; rintro v30 w30 ⟨rfl, l', ha', hS'⟩
          rw [hp] at ha' ⊢
          have hne : ∀ {x : Nat} {cs : List Value} {t : TypeId}, Blk w18 x cs t → Blk w30 x cs t := fun hB => hS'.2.1.blk' hB (neB MA hB)
          refine o_mvt rfl ?_
          refine op_run (r_extract rfl rfl) rfl ?_
          refine op_run (r_extract rfl rfl) rfl ?_
          refine op_run (r_extract rfl rfl) rfl ?_
          refine o_storeA (cs := blkR R1.1.f) rfl rfl (by first | rfl | exact binV_one _ | exact dgR_one _ | exact refR_one _ | exact secR_one _ | exact all_c8 _ | exact callR_one _ | exact blkR_one _) (by first | rfl | (rw [binV_len]; rfl) | (rw [dgR_len]; rfl) | (rw [refR_len]; rfl) | (rw [secR_len]; rfl) | (rw [List.length_map, tagF_len]; rfl) | (rw [callR_len]; rfl) | (rw [blkR_len]; rfl)) (hne hB18') (by exact Nat.le_of_eq (by simp [blkR_len])) rfl ?_; intro w31 hB31 hk31 hs31
          refine o_ast rfl ?_
          refine o_ast rfl ?_
          refine ops_nil ?_
          exact ⟨by (repeat (first | with_reducible exact offM_refl _ _ | refine offM_updc rfl ?_ | refine offM_upd rfl ?_ | refine offM_updo rfl ?_ | refine offM_updo_none ?_ | refine offM_head rfl rfl ?_)), l', rfl, ha', (ModS.pre M13 hkD hS').st (hne hB18') (by decide) hk31 (by omega), bk_st hB31, hk31.blk' (hne hB14A) (show b14 ≠ b17 by omega), (hkD.all.trans hS'.2.1).new hk31 (by omega)⟩
      · rintro J33 vs w33 ⟨l', rfl, ha', hS', hB1733, hB1433, hkE⟩ -
        have hz33 := hS'.2.1.size
        refine W_cut [10] [10, 68, 69, 70] (fun vs w34 => vs = [.bool R0.1.t] ∧ Blk w34 b14 (blkR R0.1.f) 29 ∧ Keep (· ≠ b14) w33 w34) ?_ ?_
        · refine W_seq ?_
          refine W_region ?_
          refine o_mvt rfl ?_
          refine op_run (r_neq rfl rfl) rfl ?_
          refine ops_nil ?_
          refine W_cond_p rfl (fun h35 => ?_) (fun h35 => ?_)
          · refine W_region ?_
            refine op_run (r_buildA (blkR Bk.zero) (_) ([]) rfl rfl rfl rfl rfl (rfl)) rfl ?_
            refine o_storeA (cs := blkR Bk.zero) rfl rfl (by first | rfl | exact binV_one _ | exact dgR_one _ | exact refR_one _ | exact secR_one _ | exact all_c8 _ | exact callR_one _ | exact blkR_one _) (by first | rfl | (rw [binV_len]; rfl) | (rw [dgR_len]; rfl) | (rw [refR_len]; rfl) | (rw [secR_len]; rfl) | (rw [List.length_map, tagF_len]; rfl) | (rw [callR_len]; rfl) | (rw [blkR_len]; rfl)) hB1433 (by exact Nat.le_of_eq (by simp [blkR_len])) rfl ?_; intro w37 hB37 hk37 hs37
            refine o_asc rfl ?_
            refine ops_nil ?_
            have hno := setR_no (l := l0) (nm := c.name) (n := c.number) (put := decide (c.what = 0)) (f := c.finger) (by rw [hR0]; exact h35)
            rw [hR0] at hno
            exact ⟨by (repeat (first | with_reducible exact offM_refl _ _ | refine offM_updc rfl ?_ | refine offM_upd rfl ?_ | refine offM_updo rfl ?_ | refine offM_updo_none ?_ | refine offM_head rfl rfl ?_)), congrArg (fun b => [Value.bool b]) hno.2.symm, by rw [hno.1]; exact bk_st hB37, hk37⟩
          · refine W_skip ?_
            exact ⟨by (repeat (first | with_reducible exact offM_refl _ _ | refine offM_updc rfl ?_ | refine offM_upd rfl ?_ | refine offM_updo rfl ?_ | refine offM_updo_none ?_ | refine offM_head rfl rfl ?_)), rfl, hB1433, Keep.refl _⟩
        · rintro J40 vs w40 ⟨rfl, hB14C, hkC⟩ -
          have hB17C := hkC.blk' hB1733 (show b17 ≠ b14 by omega)
          have hIC := hI13.kM M13 (hkE.new hkC (by omega))
          have hSw : ModS w mb bm l w40 l' := (ModS.pre hM (hk1.trans hk13) hS').st hB1433 (by decide) hkC (by omega)
          have hal : abs l' = stepD (abs l) c := by rw [ha', ← hR1, stepD_01 h8]
          have hIZ : ImgsS w40 v' (imgD (stepD l0 c)) ys' := by rw [stepD_01 h8, hR0]; exact hIC
          have hqq : l0 = abs l → R0 = R1 := fun e => by rw [← hR0, ← hR1, e]
          refine W_seq ?_
          refine W_region ?_
          refine o_mvt rfl ?_
          refine op_run (r_loadA (blkR R1.1.f) rfl rfl rfl (by first | rfl | (rw [binV_len]; rfl) | (rw [dgR_len]; rfl) | (rw [refR_len]; rfl) | (rw [secR_len]; rfl) | (rw [List.length_map, tagF_len]; rfl) | (rw [callR_len]; rfl) | (rw [blkR_len]; rfl)) (hB17C.all)) rfl ?_
          refine op_run (r_loadA (blkR R0.1.f) rfl rfl rfl (by first | rfl | (rw [binV_len]; rfl) | (rw [dgR_len]; rfl) | (rw [refR_len]; rfl) | (rw [secR_len]; rfl) | (rw [List.length_map, tagF_len]; rfl) | (rw [callR_len]; rfl) | (rw [blkR_len]; rfl)) (hB14C.all)) rfl ?_
          refine op_run (r_eqlC (p := R1.1.f = R0.1.f) rfl rfl rfl rfl (by kernel_rfl) (okC_dgR _) (okC_dgR _) rfl (dgR_inj)) rfl ?_
          refine o_mvt rfl ?_
          refine g_split rfl rfl rfl (fun g44 => ?_) (fun g44 => ?_)
          · refine o_mvt (g_yes rfl rfl rfl g44) ?_
            refine o_mvt (g_yes rfl rfl rfl g44) ?_
            refine op_run (r_eqlB rfl rfl rfl) (g_yes rfl rfl rfl g44) ?_
            refine o_pkTt rfl g44 rfl ?_
            refine o_mvt rfl ?_
            refine g_split rfl rfl rfl (fun g45 => ?_) (fun g45 => ?_)
            · refine o_mvt (g_yes rfl rfl rfl g45) ?_
              refine o_mvt (g_yes rfl rfl rfl g45) ?_
              refine op_run (r_eql rfl rfl) (g_yes rfl rfl rfl g45) ?_
              refine o_pkTt rfl g45 rfl ?_
              refine o_ast rfl ?_
              refine o_ast rfl ?_
              refine ops_nil ?_
              refine W_ret ?_
              refine ret2 v' (.bool (decide (R1.1.e = R0.1.e))) rfl ?_ ?_ ?_; rfl; rfl
              exact ⟨v', ys', _, l', rfl, hIZ, hal, hSw, fun e => decide_eq_true (by rw [hqq e])⟩
            · refine op_skip (g_no rfl rfl rfl g45) ?_
              refine op_skip (g_no rfl rfl rfl g45) ?_
              refine op_skip (g_no rfl rfl rfl g45) ?_
              refine o_pkFc rfl g45 rfl ?_
              refine o_ast rfl ?_
              refine o_ast rfl ?_
              refine ops_nil ?_
              refine W_ret ?_
              refine ret2 v' (.bool false) rfl ?_ ?_ ?_; rfl; rfl
              exact ⟨v', ys', _, l', rfl, hIZ, hal, hSw, fun e => by rw [hqq e] at g45; simp at g45⟩
          · refine op_skip (g_no rfl rfl rfl g44) ?_
            refine op_skip (g_no rfl rfl rfl g44) ?_
            refine op_skip (g_no rfl rfl rfl g44) ?_
            refine o_pkFc rfl g44 rfl ?_
            refine o_mvt rfl ?_
            refine op_skip (g_no rfl rfl rfl rfl) ?_
            refine op_skip (g_no rfl rfl rfl rfl) ?_
            refine op_skip (g_no rfl rfl rfl rfl) ?_
            refine o_pkFc rfl rfl rfl ?_
            refine o_ast rfl ?_
            refine o_ast rfl ?_
            refine ops_nil ?_
            refine W_ret ?_
            refine ret2 v' (.bool false) rfl ?_ ?_ ?_; rfl; rfl
            exact ⟨v', ys', _, l', rfl, hIZ, hal, hSw, fun e => by rw [hqq e] at g44; simp at g44⟩
    · refine W_seq ?_
      refine W_region ?_
      refine op_run (r_eql rfl rfl) rfl ?_
      refine o_ast rfl ?_
      refine ops_nil ?_
      have hw01 : ¬ (c.what = 0 ∨ c.what = 1) := h8
      refine W_cond_p rfl (fun h49 => ?_) (fun h49 => ?_)
      · refine W_seq ?_
        refine W_region ?_
        refine o_mvt rfl ?_
        refine op_run (r_fieldAddr rfl rfl rfl rfl rfl) rfl ?_
        refine op_run (r_load rfl rfl rfl (hB1'.cell rfl)) rfl ?_
        refine op_run (r_fieldAddr rfl rfl rfl rfl rfl) rfl ?_
        refine op_run (r_load rfl rfl rfl (hB1'.cell rfl)) rfl ?_
        refine op_call rfl rfl rfl (rf12_Create w7 v l0 ys c.name c.quota h1 hN hnl hl) ?_; rintro v52 w52 ⟨⟨v', ys', rfl, hI52⟩, hk52⟩
        have hB152 := hk52.blk' hB1' trivial
        refine o_mvt rfl ?_
        refine op_run (r_extract rfl rfl) rfl ?_
        refine op_run (r_extract rfl rfl) rfl ?_
        refine o_ast rfl ?_
        refine o_ast rfl ?_
        refine ops_nil ?_
        refine W_seq ?_
        refine W_region ?_
        refine o_mvt rfl ?_
        refine o_mvt rfl ?_
        refine op_run (r_fieldAddr rfl rfl rfl rfl rfl) rfl ?_
        refine op_run (r_load rfl rfl rfl (hB152.cell rfl)) rfl ?_
        refine op_run (r_fieldAddr rfl rfl rfl rfl rfl) rfl ?_
        refine op_run (r_load rfl rfl rfl (hB152.cell rfl)) rfl ?_
        refine op_call rfl rfl rfl (vl_Create w52 mb bm l c.name c.quota (M1.k hk52) hnl) ?_; rintro v55 w55 ⟨rfl, l', ha', hS'⟩
        refine o_mvt rfl ?_
        refine op_run (r_eql rfl rfl) rfl ?_
        refine o_ast rfl ?_
        refine o_ast rfl ?_
        refine ops_nil ?_
        refine W_ret ?_
        refine ret2 v' (.bool (decide (creE (abs l) c.name c.quota = creE l0 c.name c.quota))) rfl ?_ ?_ ?_; rfl; rfl
        exact ⟨v', ys', _, l', rfl, by rw [stepD_2 h49]; exact hI52.kM (M1.k hk52) hS'.2.1, by rw [ha', stepD_2 h49], ModS.pre hM (hk1.trans hk52) hS', fun e => decide_eq_true (by rw [e])⟩
      · refine W_seq ?_
        refine W_region ?_
        refine op_run (r_eql rfl rfl) rfl ?_
        refine o_ast rfl ?_
        refine ops_nil ?_
        refine W_cond_p rfl (fun h57 => ?_) (fun h57 => ?_)
        · refine W_seq ?_
          refine W_region ?_
          refine o_mvt rfl ?_
          refine op_run (r_fieldAddr rfl rfl rfl rfl rfl) rfl ?_
          refine op_run (r_load rfl rfl rfl (hB1'.cell rfl)) rfl ?_
          refine op_run (r_fieldAddr rfl rfl rfl rfl rfl) rfl ?_
          refine op_run (r_load rfl rfl rfl (hB1'.cell rfl)) rfl ?_
          refine op_run (r_fieldAddr rfl rfl rfl rfl rfl) rfl ?_
          refine op_run (r_load rfl rfl rfl (hB1'.cell rfl)) rfl ?_
          refine op_run (r_fieldAddr rfl rfl rfl rfl rfl) rfl ?_
          refine op_run (r_load rfl rfl rfl (hB1'.cell rfl)) rfl ?_
          refine op_call rfl rfl rfl (rf12_Copy w7 v l0 ys c.name c.other c.quota c.frozen h1 hN hol hl hbk) ?_; rintro v62 w62 ⟨⟨v', ys', rfl, hI62⟩, hk62⟩
          have hB162 := hk62.blk' hB1' trivial
          refine o_mvt rfl ?_
          refine op_run (r_extract rfl rfl) rfl ?_
          refine op_run (r_extract rfl rfl) rfl ?_
          refine o_ast rfl ?_
          refine o_ast rfl ?_
          refine ops_nil ?_
          refine W_seq ?_
          refine W_region ?_
          refine o_mvt rfl ?_
          refine o_mvt rfl ?_
          refine op_run (r_fieldAddr rfl rfl rfl rfl rfl) rfl ?_
          refine op_run (r_load rfl rfl rfl (hB162.cell rfl)) rfl ?_
          refine op_run (r_fieldAddr rfl rfl rfl rfl rfl) rfl ?_
          refine op_run (r_load rfl rfl rfl (hB162.cell rfl)) rfl ?_
          refine op_run (r_fieldAddr rfl rfl rfl rfl rfl) rfl ?_
          refine op_run (r_load rfl rfl rfl (hB162.cell rfl)) rfl ?_
          refine op_run (r_fieldAddr rfl rfl rfl rfl rfl) rfl ?_
          refine op_run (r_load rfl rfl rfl (hB162.cell rfl)) rfl ?_
          refine op_call rfl rfl rfl (vl_Copy w62 mb bm l c.name c.other c.quota c.frozen (M1.k hk62) hol) ?_; rintro v67 w67 ⟨rfl, l', ha', hS'⟩
          refine o_mvt rfl ?_
          refine op_run (r_eql rfl rfl) rfl ?_
          refine o_ast rfl ?_
          refine o_ast rfl ?_
          refine ops_nil ?_
          refine W_ret ?_
          refine ret2 v' (.bool (decide (copE (abs l) c.name c.other c.quota = copE l0 c.name c.other c.quota))) rfl ?_ ?_ ?_; rfl; rfl
          exact ⟨v', ys', _, l', rfl, by rw [stepD_3 h57]; exact hI62.kM (M1.k hk62) hS'.2.1, by rw [ha', stepD_3 h57], ModS.pre hM (hk1.trans hk62) hS', fun e => decide_eq_true (by rw [e])⟩
        · refine W_skip ?_
          refine W_seq ?_
          refine W_region ?_
          refine o_mvt rfl ?_
          refine op_run (r_fieldAddr rfl rfl rfl rfl rfl) rfl ?_
          refine op_run (r_load rfl rfl rfl (hB1'.cell rfl)) rfl ?_
          refine op_call rfl rfl rfl (rf12_Find w7 v (imgD l0) ys c.name h1) ?_; rintro v70 w70 ⟨⟨z, rfl, hz⟩, hk70⟩
          have hB170 := hk70.blk' hB1' trivial
          have hzz := find_case hz
          refine o_ast rfl ?_
          refine ops_nil ?_
          refine W_seq ?_
          refine W_region ?_
          refine o_mvt rfl ?_
          refine op_run (r_fieldAddr rfl rfl rfl rfl rfl) rfl ?_
          refine op_run (r_load rfl rfl rfl (hB170.cell rfl)) rfl ?_
          refine op_call rfl rfl rfl (vl_Delete w70 mb bm l c.name (M1.k hk70)) ?_; rintro v72 w72 ⟨rfl, l', ha', hS'⟩
          have hI72 := (h1.k hk70).kM (M1.k hk70) hS'.2.1
          have hSw := ModS.pre hM (hk1.trans hk70) hS'
          have hal : abs l' = stepD (abs l) c := by rw [ha', stepD_X hw01 h49 h57]
          refine o_ast rfl ?_
          refine ops_nil ?_
          refine W_seq ?_
          refine W_seq ?_
          refine W_region ?_
          refine o_mvt rfl ?_
          refine op_run (r_lss rfl rfl) rfl ?_
          refine ops_nil ?_
          refine W_cond_p rfl (fun h73 => ?_) (fun h73 => ?_)
          · refine W_seq ?_
            refine W_region ?_
            refine o_mvt rfl ?_
            refine o_mvt rfl ?_
            refine op_run (r_eql rfl rfl) rfl ?_
            refine o_ast rfl ?_
            refine o_ast rfl ?_
            refine ops_nil ?_
            refine W_ret ?_
            have hn : lookP l0 c.name = none := by
              rcases hzz with ⟨e, _⟩ | ⟨_, _, _, e, _⟩
              · exact e
              · omega
            refine ret2 v (.bool (decide (delE (abs l) c.name = 5))) rfl ?_ ?_ ?_; rfl; rfl
            exact ⟨v, ys, _, l', rfl, by rw [stepD_X hw01 h49 h57, delP_none (lookP_none hn)]; exact hI72, hal, hSw, fun e => by rw [← e]; unfold delE; rw [hn]; rfl⟩
          · refine W_skip ?_
            refine W_seq ?_
            refine W_region ?_
            refine o_mvt rfl ?_
            refine o_mvt rfl ?_
            obtain ⟨vv, ki, hv, rfl, hki⟩ : ∃ (v : VA) (k : Nat), lookP l0 c.name = some v ∧ z = k ∧ (imgD l0)[k]? = some ⟨c.name, v.q, v.fr, blkS v.bl⟩ := by
              rcases hzz with ⟨_, e⟩ | hh
              · omega
              · exact hh
            have hkil := (List.getElem?_eq_some_iff.1 hki).1
            refine op_call rfl rfl rfl (rf12_Without w72 v (imgD l0) ys ki hI72 (by omega) hkil) ?_; rintro v75 w75 ⟨hI75, hk75⟩
            refine o_mvt rfl ?_
            refine op_run (r_eql rfl rfl) rfl ?_
            refine o_ast rfl ?_
            refine o_ast rfl ?_
            refine ops_nil ?_
            refine W_ret ?_
            refine ret2 v75 (.bool (decide (delE (abs l) c.name = 0))) rfl ?_ ?_ ?_; rfl; rfl
            rw [imgD_del hN.1 hki rfl] at hI75
            exact ⟨v75, _, _, l', rfl, by rw [stepD_X hw01 h49 h57]; exact hI75, hal, hSw.post hk75, fun e => by rw [← e]; unfold delE; rw [hv]; rfl⟩
end Go.Proofs.YtkmciohghhffnaaGreat.B
