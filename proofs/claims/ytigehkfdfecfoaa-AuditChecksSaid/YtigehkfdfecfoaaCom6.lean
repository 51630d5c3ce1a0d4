/-
  The document's Decode.
-/
import Derived.Test.YtigehkfdfecfoaaCom5
import Derived.Test.YtigehkfdfecfoaaCom3
import Derived.Test.YtigehkfdfecfoaaCom4
import Derived.Test.YtigehkfdfecfoaaIn01b
import Derived.Test.YtigehkfdfecfoaaMLib
namespace Go.Proofs.Ytigehkfdfecfoaa.B
open Go
set_option linter.unusedVariables false
set_option maxHeartbeats 2000000
set_option maxRecDepth 100000
attribute [local irreducible] W OpsW OpsQ retP
attribute [local irreducible] numR
theorem dS_def (bs : List UInt8) : digR (dB bs).2.1 (dB bs).2.2 = dS bs := by simp only [dS]
theorem decC_rd {bs : List UInt8} : decC bs = if (dE bs).2.1 = [] ∧ (dE bs).2.2 = false ∧ (cmR bs).right ∧ bs.length ≤ 65536 then some (cmR bs) else none := by
  by_cases h : (dE bs).2.1 = [] ∧ (dE bs).2.2 = false ∧ (cmR bs).right ∧ bs.length ≤ 65536
  · rw [if_pos h]
    exact decC_some h.2.2.1.1.1 ⟨h.1, h.2.1, Nat.pos_iff_ne_zero.1 h.2.2.1.2.2.2.2, h.2.2.2⟩
  · rw [if_neg h]
    cases hd : decC bs with
    | none => rfl
    | some c =>
      exfalso
      obtain ⟨⟨h1, h2⟩, h3, h4⟩ := decC_iff.1 hd
      have hf := right_fit h1 h2 (by rw [h3]; exact h4)
      have hr := rdC_enc hf []
      rw [List.append_nil, h3, rdC_def] at hr
      injection hr with hr1 hr; injection hr with hr2 hr3
      exact h ⟨hr2, hr3, by rw [hr1]; exact h1, h4⟩
theorem fill_epoch {pl : List (Nat × Nat)} {zl : List Value} {z : Nat} (hp : pl[0]? = some (0, 1)) (hz : zl = cmV Cm.zero nilV nilV) : fillV (fun i => pl[i]?) zl [(0, .int .u64 z)] = some (cmV ⟨z, Rf.zero, Rf.zero, Rf.zero, [], Dig.zero, []⟩ nilV nilV) := by
  subst hz
  have s1 : (Value.int .u64 z).cells.size = 1 := rfl
  have h1 : (Value.int .u64 z).cells.toList = [.int .u64 z] := rfl
  simp only [fillV, hp]
  rw [if_pos ⟨s1, by rw [cmV_len]; decide⟩, h1]
  rfl
theorem rf13_DecodeF (w : World) (v : Value) (bs : List UInt8) (hv : By w v bs) (hl : bs.length ≤ 1000000) :
    Ret Try.prog 79 [v].toArray w fun r w' => ∃ vb ve vks, r = .tuple #[.agg (cmV ((decC bs).getD Cm.zero) vb ve).toArray, .int .i64 (if (decC bs).isSome then 0 else 3)] ∧ CmIn w' ((decC bs).getD Cm.zero) vb ve vks ∧ Keep All w w' ∧ FreshE w ve vks := by
  obtain ⟨a0, c0, rfl, hc0, hcm0⟩ := hv.form
  refine enter (fn := Try.f79) (n := 84) Try.func79 rfl rfl (by simp) ?_
  refine W_seq ?_
  refine W_region ?_
  refine o_alloc rfl rfl rfl ?_; intro w1 b1 e1 hB1 hk1 hs1
  have hB1 : Blk w1 b1 (cmV Cm.zero nilV nilV) 108 := hB1
  refine o_asc rfl ?_
  refine ops_nil ?_
  refine W_seq ?_
  refine W_region ?_
  refine o_mvt rfl ?_
  refine op_run (r_build ([.slice a0 bs.length c0, .int .i64 0, .bool false]) (_) ([(0, .slice a0 bs.length c0)]) rfl rfl rfl rfl rfl (rfl)) rfl ?_
  refine o_box (cs := [.slice a0 bs.length c0, .int .i64 0, .bool false]) rfl rfl rfl ?_; intro w3 b3 e3 hB3 hk3 hs3
  obtain ⟨A, hA⟩ : ∃ A : Nat → Prop, A = fun k => k < w.heap.size := ⟨_, rfl⟩
  have hk0 := hk1.trans hk3
  have hR3 : RIn w3 b3 A bs false := RIn.new hB3 (hv.keep hk0 (fun _ _ => trivial)) (by rw [hA]; exact hv.ltE) (by omega)
  have hAlt : ∀ k, A k → k < w.heap.size := by rw [hA]; exact fun k h => h
  have hz1 := hk1.size
  have hAb : ¬ A b3 := fun h => by have := hAlt _ h; omega
  refine o_ast rfl ?_
  refine ops_nil ?_
  refine W_seq ?_
  refine W_region ?_
  refine o_mvt rfl ?_
  refine op_call rfl rfl rfl (rn_Number w3 b3 A bs false 18446744073709551615 hAb hR3) ?_; rintro v4 w4 ⟨rfl, hR4, hk4⟩
  have hR4 : RIn w4 b3 A (dA bs).2.1 (dA bs).2.2 := hR4
  have hz4 := hk4.size
  refine op_run (r_build ((cmV (stC bs 0) nilV nilV)) (_) ([(0, .int .u64 ((dA bs).1 : Int))]) rfl rfl rfl rfl rfl (fill_epoch (by kernel_rfl) rfl)) rfl ?_
  refine o_alloc rfl rfl rfl ?_; intro w6 b6 e6 hB6 hk6 hs6
  refine o_storeA (cs := cmV (stC bs 0) nilV nilV) rfl rfl (by first | rfl | exact binV_one _ | exact dgR_one _ | exact refR_one _ | exact secR_one _ | exact all_c8 _ | exact cmV_one _ rfl rfl) (by first | rfl | (rw [binV_len]; rfl) | (rw [dgR_len]; rfl) | (rw [refR_len]; rfl) | (rw [secR_len]; rfl) | (rw [List.length_map, tagF_len]; rfl) | (rw [cmV_len]; rfl)) hB6 (by simp [cmV_len]) rfl ?_; intro w7 hB7 hk7 hs7
  have hB7 : Blk w7 b6 (cmV (stC bs 0) nilV nilV) 108 := by
    have h := hB7
    rwa [splice_all (by simp [cmV_len])] at h
  have h63 : b6 ≠ b3 := by omega
  have hA6 : ∀ k, A k → k ≠ b6 := fun k h e => by have := hAlt k h; omega
  have hR7 := (hR4.k hk6).keep' hk7 h63.symm (fun k _ h => hA6 k h)
  have hkw7 : Keep All w w7 := ((hk0.new hk4 (by omega)).trans hk6).new hk7 (by omega)
  have hz7 := hk7.size
  have hz6 := hk6.size
  refine ops_nil ?_
  refine W_seq ?_
  refine W_region ?_
  refine o_mvt rfl ?_
  refine op_call rfl rfl rfl (rf07_Take w7 b3 A (dA bs).2.1 (dA bs).2.2 hAb (fun k h => by have := hAlt k h; omega) hR7) ?_; rintro v8 w8 ⟨rfl, hR8, hk8⟩
  have hR8 : RIn w8 b3 A (dP bs).2.1 (dP bs).2.2 := hR8
  have hz8 := hk8.size
  refine op_run (r_fieldAddr rfl rfl rfl rfl rfl) rfl ?_
  refine o_storeA (cs := refR (dP bs).1) rfl rfl (by first | rfl | exact binV_one _ | exact dgR_one _ | exact refR_one _ | exact secR_one _ | exact all_c8 _ | exact cmV_one _ rfl rfl) (by first | rfl | (rw [binV_len]; rfl) | (rw [dgR_len]; rfl) | (rw [refR_len]; rfl) | (rw [secR_len]; rfl) | (rw [List.length_map, tagF_len]; rfl) | (rw [cmV_len]; rfl)) (hk8.blk' hB7 h63) (by rw [cmV_len, refR_len]; decide) rfl ?_; intro w9 hB9 hk9 hs9
  have hB9 : Blk w9 b6 (cmV (stC bs 1) nilV nilV) 108 := by
    have h : Blk w9 b6 (splice (cmV (stC bs 0) nilV nilV) 1 (refR (dP bs).1)) 108 := hB9
    rw [cmV_setP] at h; exact h
  have hR9 := hR8.keep' hk9 h63.symm (fun k _ h => hA6 k h)
  have hz9 := hk9.size
  refine ops_nil ?_
  refine W_seq ?_
  refine W_region ?_
  refine o_mvt rfl ?_
  refine op_call rfl rfl rfl (rf07_Take w9 b3 A (dP bs).2.1 (dP bs).2.2 hAb (fun k h => by have := hAlt k h; omega) hR9) ?_; rintro v10 w10 ⟨rfl, hR10, hk10⟩
  have hR10 : RIn w10 b3 A (dV bs).2.1 (dV bs).2.2 := hR10
  have hz10 := hk10.size
  refine op_run (r_fieldAddr rfl rfl rfl rfl rfl) rfl ?_
  refine o_storeA (cs := refR (dV bs).1) rfl rfl (by first | rfl | exact binV_one _ | exact dgR_one _ | exact refR_one _ | exact secR_one _ | exact all_c8 _ | exact cmV_one _ rfl rfl) (by first | rfl | (rw [binV_len]; rfl) | (rw [dgR_len]; rfl) | (rw [refR_len]; rfl) | (rw [secR_len]; rfl) | (rw [List.length_map, tagF_len]; rfl) | (rw [cmV_len]; rfl)) (hk10.blk' hB9 h63) (by rw [cmV_len, refR_len]; decide) rfl ?_; intro w11 hB11 hk11 hs11
  have hB11 : Blk w11 b6 (cmV (stC bs 2) nilV nilV) 108 := by
    have h : Blk w11 b6 (splice (cmV (stC bs 1) nilV nilV) 35 (refR (dV bs).1)) 108 := hB11
    rw [cmV_setV] at h; exact h
  have hR11 := hR10.keep' hk11 h63.symm (fun k _ h => hA6 k h)
  have hz11 := hk11.size
  refine ops_nil ?_
  refine W_seq ?_
  refine W_region ?_
  refine o_mvt rfl ?_
  refine op_call rfl rfl rfl (rf07_Take w11 b3 A (dV bs).2.1 (dV bs).2.2 hAb (fun k h => by have := hAlt k h; omega) hR11) ?_; rintro v12 w12 ⟨rfl, hR12, hk12⟩
  have hR12 : RIn w12 b3 A (dI bs).2.1 (dI bs).2.2 := hR12
  have hz12 := hk12.size
  refine op_run (r_fieldAddr rfl rfl rfl rfl rfl) rfl ?_
  refine o_storeA (cs := refR (dI bs).1) rfl rfl (by first | rfl | exact binV_one _ | exact dgR_one _ | exact refR_one _ | exact secR_one _ | exact all_c8 _ | exact cmV_one _ rfl rfl) (by first | rfl | (rw [binV_len]; rfl) | (rw [dgR_len]; rfl) | (rw [refR_len]; rfl) | (rw [secR_len]; rfl) | (rw [List.length_map, tagF_len]; rfl) | (rw [cmV_len]; rfl)) (hk12.blk' hB11 h63) (by rw [cmV_len, refR_len]; decide) rfl ?_; intro w13 hB13 hk13 hs13
  have hB13 : Blk w13 b6 (cmV (stC bs 3) nilV nilV) 108 := by
    have h : Blk w13 b6 (splice (cmV (stC bs 2) nilV nilV) 69 (refR (dI bs).1)) 108 := hB13
    rw [cmV_setI] at h; exact h
  have hR13 := hR12.keep' hk13 h63.symm (fun k _ h => hA6 k h)
  have hkw13 : Keep All w w13 := (((((hkw7.new hk8 (by omega)).new hk9 (by omega)).new hk10 (by omega)).new hk11 (by omega)).new hk12 (by omega)).new hk13 (by omega)
  have hz13 := hk13.size
  refine ops_nil ?_
  refine W_seq ?_
  refine W_region ?_
  refine o_mvt rfl ?_
  refine op_call rfl rfl rfl (rn_Number w13 b3 A (dI bs).2.1 (dI bs).2.2 65536 hAb hR13) ?_; rintro v14 w14 ⟨rfl, hR14, hk14⟩
  obtain ⟨N, hN⟩ : ∃ N, N = numR 65536 (dI bs).2.1 (dI bs).2.2 := ⟨_, rfl⟩
  have hn := numR_le 65536 (dI bs).2.1 (dI bs).2.2
  rw [← hN] at hR14 hn ⊢
  have hm : dB bs = lstR bnR N.1 N.2.1 N.2.2 := by rw [hN]; rfl
  have hB14 := hk14.blk' hB13 h63
  have hkw14 := hkw13.new hk14 (by omega)
  have h6l := hB14.lt
  have h3l : b3 < w14.heap.size := hR14.lt
  have hz14 := hkw14.size
  have h13 : b1 ≠ b3 := by omega
  have h16 : b1 ≠ b6 := by omega
  have hb114 := hk14.blk' (hk13.blk' (hk12.blk' (hk11.blk' (hk10.blk' (hk9.blk' (hk8.blk' (hk7.blk' (hk6.blk' (hk4.blk' (hk3.blk' hB1 trivial) h13) trivial) h16) h13) h16) h13) h16) h13) h16) h13
  have hb1l := hb114.lt
  refine o_ast rfl ?_
  refine ops_nil ?_
  refine W_seq ?_
  refine W_seq ?_
  refine W_region ?_
  refine o_asc rfl ?_
  refine ops_nil ?_
  refine W_block ?_
  refine W_loop [7] [7, 26, 27, 28, 29, 30, 31, 32, 33, 34, 35, 36, 37, 38, 39, 40, 41, 42, 43, 44] (fun vs w' => ∃ (k : Nat) (xs : List Bn) (bs' : List UInt8) (bad' : Bool) (u : Value), vs = [.int .u64 k] ∧ k ≤ N.1 ∧ Tkn bnR N.1 N.2.1 N.2.2 xs k bs' bad' ∧ Own w' 31 35 u xs.length (rows binV xs) ∧ RIn w' b3 A bs' bad' ∧ Blk w' b6 (cmV (stC bs 3) u nilV) 108 ∧ Keep All w w' ∧ InB (fun z => w14.heap.size ≤ z) u ∧ w14.heap.size ≤ w'.heap.size ∧ Blk w' b1 (cmV Cm.zero nilV nilV) 108) (fun vs _ => match vs with | [.int _ y] => N.1 - y.toNat | _ => 0) ⟨0, [], _, _, nilV, rfl, Nat.zero_le _, Tkn.zero .., own_nil _ _ _, hR14, hB14, hkw14, InB.nil, Nat.le_refl _, hb114⟩ ?_
  rintro J15 vs w15 ⟨k, xs, bs', bad', u, rfl, hk, hT, hO, hR, hB, hkw, hin, hz, hb1⟩ -
  refine W_seq ?_
  refine W_cut [35] [26, 27, 28, 29, 30, 31, 32, 33, 34, 35] (fun vs w16 => vs = [.bool (decide (k < N.1 ∧ bad' = false))] ∧ w16 = w15) ?_ ?_
  · refine W_region ?_
    refine o_mvt rfl ?_
    refine o_mvt rfl ?_
    refine op_run (r_lss rfl rfl) rfl ?_
    refine o_mvt rfl ?_
    refine g_split rfl rfl rfl (fun g17 => ?_) (fun g17 => ?_)
    obtain ⟨vI, bI, aI, hBI, hrestI⟩ := id hR
    · refine o_mvt (g_yes rfl rfl rfl g17) ?_
      refine op_run (r_nilCheck rfl) (g_yes rfl rfl rfl g17) ?_
      refine op_run (r_fieldAddr rfl rfl rfl rfl rfl) (g_yes rfl rfl rfl g17) ?_
      refine op_run (r_load rfl rfl rfl (hBI.cell rfl)) (g_yes rfl rfl rfl g17) ?_
      refine op_run (r_not rfl) (g_yes rfl rfl rfl g17) ?_
      refine o_pkTt rfl g17 rfl ?_
      refine ops_nil ?_
      exact ⟨by (repeat (first | with_reducible exact offM_refl _ _ | refine offM_updc rfl ?_ | refine offM_upd rfl ?_ | refine offM_updo rfl ?_ | refine offM_updo_none ?_ | refine offM_head rfl rfl ?_)), congrArg (fun b => [Value.bool b]) (by have g4 := of_decide_eq_true g17; have hkn : k < N.1 := (by omega); cases bad' <;> simp [hkn]), rfl⟩
    · refine op_skip (g_no rfl rfl rfl g17) ?_
      refine op_skip (g_no rfl rfl rfl g17) ?_
      refine op_skip (g_no rfl rfl rfl g17) ?_
      refine op_skip (g_no rfl rfl rfl g17) ?_
      refine op_skip (g_no rfl rfl rfl g17) ?_
      refine o_pkFc rfl g17 rfl ?_
      refine ops_nil ?_
      exact ⟨by (repeat (first | with_reducible exact offM_refl _ _ | refine offM_updc rfl ?_ | refine offM_upd rfl ?_ | refine offM_updo rfl ?_ | refine offM_updo_none ?_ | refine offM_head rfl rfl ?_)), congrArg (fun b => [Value.bool b]) (by have g4 := of_decide_eq_false g17; symm; exact decide_eq_false fun hh => g4 (by have := hh.1; omega)), rfl⟩
  · rintro J21 vs w21 ⟨rfl, rfl⟩ -
    refine W_cond_p rfl (fun h22 => ?_) (fun h22 => ?_)
    · refine W_skip ?_
      refine W_seq ?_
      refine W_block ?_
      obtain ⟨hkn, rfl⟩ := h22
      have hAl21 : ∀ z, A z → z < w21.heap.size := fun z h => by have := hAlt z h; omega
      refine W_gate 7 (fun w => Blk w b6 (cmV (stC bs 3) u nilV) 108) (by kernel_rfl) ((Keep.drawn w21).blk' hB trivial) (fun hS => ?_)
      refine gt_run 0 (fun w' hS' => (r_fieldAddr rfl rfl rfl rfl rfl)) rfl (by kernel_rfl) (by kernel_rfl) (by kernel_rfl) (by kernel_rfl) rfl hS ?_
      refine gt_run 1 (fun w' hS' => (r_load rfl rfl rfl ((hS'.cell (cmV_bins _ _ _))))) rfl (by kernel_rfl) (by kernel_rfl) (by kernel_rfl) (by kernel_rfl) rfl hS ?_
      refine gt_mvt 2 rfl (by kernel_rfl) (by kernel_rfl) (by kernel_rfl) (by kernel_rfl) rfl hS ?_
      refine gt_one 3 (by kernel_rfl) (one_of rfl ?_)
      refine op_call rfl rfl rfl (rf10_Take _ b3 A bs' false hAb hAl21 (hR.k (Keep.drawn w21))) ?_; rintro v25 w25 ⟨rfl, hR25, hk25⟩
      obtain ⟨y, hy⟩ : ∃ y, y = (bnR bs' false).1 := ⟨_, rfl⟩
      have hT' := hT.step bnR hkn
      rw [← hy] at hT' ⊢
      have hO25 := (hO.keep (Keep.drawn w21) (fun _ _ => trivial)).keep hk25 (fun z hz e => by have := hin z hz; omega)
      have hz25 : w21.heap.size ≤ w25.heap.size := hk25.size
      refine ops_nil ⟨hk25.blk' hS h63, fun hS => ?_⟩
      refine gt_one 4 (by kernel_rfl) (one_of rfl ?_)
      refine o_bsA1 (binV y) rfl rfl (by rw [binV_len]; exact ti_bin) (by rw [binV_len]; rfl) (by rw [binV_len]; decide) rfl ?_; intro w27 b27 e27 hB27 hk27 hs27
      refine ops_nil ⟨hk27.blk' hS trivial, fun hS => ?_⟩
      have hS27 : Sl w27 (.slice (some ⟨b27, 0, none⟩) 1 1) 1 35 (binV y) := (Own.blk (n := 1) (sz := 35) hB27 (binV_len y) (by unfold maxLen; omega)).sl
      have hxl := hT.1
      have hu6 : some b6 ≠ u.ownBlock := fun e => by have := hin b6 e.symm; omega
      refine gt_one 5 (by kernel_rfl) (one_of rfl ?_)
      refine o_appS (v := u) rfl rfl hS27 rfl ti_bin rfl rfl (hO25.keep hk27 (fun _ _ => trivial)) (binV_one y) (by unfold maxLen; omega) (by omega) rfl ?_; intro v29 w29 hown29 hk29 hb29
      have hO29 : Own w29 31 35 v29 (xs ++ [y]).length (rows binV (xs ++ [y])) := by rw [rows_snocB, List.length_append]; exact hown29
      have hR29 := (hR25.k hk27).keep' hk29 (fun e => by have := hin b3 e.symm; omega) (fun z _ hA e => by have := hin z e.symm; have := hAlt z hA; omega)
      have hin29 : InB (fun z => w14.heap.size ≤ z) v29 := fun z hz => by
        rcases hb29 z hz with h | h
        · exact hin z h
        · omega
      obtain ⟨a29, c29, rfl, _, _⟩ := hO29.form
      refine ops_nil ⟨hk29.blk' hS hu6, fun hS => ?_⟩
      refine gt_run 6 (fun w' hS' => (r_fieldAddr rfl rfl rfl rfl rfl)) rfl (by kernel_rfl) (by kernel_rfl) (by kernel_rfl) (by kernel_rfl) rfl hS ?_
      refine gt_past 7 (by kernel_rfl) (by kernel_rfl) (one_of rfl ?_)
      refine o_store (v := Value.slice a29 (xs ++ [y]).length c29) rfl rfl rfl rfl hS (by rw [cmV_len]; decide) rfl ?_; intro w31 hB31 hk31 hs31
      have hB31 : Blk w31 b6 (cmV (stC bs 3) (.slice a29 (xs ++ [y]).length c29) nilV) 108 := by
        have h : Blk w31 b6 ((cmV (stC bs 3) u nilV).set 103 (.slice a29 (xs ++ [y]).length c29)) 108 := hB31
        rwa [cmV_setB] at h
      refine ops_nil ?_
      refine gt_done (by kernel_rfl) ?_
      refine W_region ?_
      refine o_mvt rfl ?_
      refine op_run ((r_add rfl rfl).val (congrArg (Value.int .u64) (show IntKind.u64.wrap ((k : Int) + 1) = ((k + 1 : Nat) : Int) from by rw [wrap_u64]; omega))) rfl ?_
      refine o_ast rfl ?_
      refine ops_nil ?_
      refine ⟨by (repeat (first | with_reducible exact offM_refl _ _ | refine offM_updc rfl ?_ | refine offM_upd rfl ?_ | refine offM_updo rfl ?_ | refine offM_updo_none ?_ | refine offM_head rfl rfl ?_)), ⟨k + 1, xs ++ [y], _, _, _, rfl, by omega, hT', hO29.keep hk31 (fun z hz e => by have := hin29 z hz; omega), hR29.keep' hk31 h63.symm (fun z _ h => hA6 z h), hB31, ((((hkw.trans (Keep.drawn w21)).new hk25 (by omega)).trans hk27).own hk29 (fun z hz _ => by have := hin z hz; omega)).new hk31 (by omega), hin29, by have := hk29.size; have := hk31.size; omega, hk31.blk' (hk29.blk' (hk27.blk' (hk25.blk' ((Keep.drawn w21).blk' hb1 trivial) h13) trivial) (fun e => by have := hin b1 e.symm; omega)) h16⟩, ?_⟩
      show N.1 - ((k + 1 : Nat) : Int).toNat < N.1 - (k : Int).toNat
      omega
    · refine W_exit ?_
      refine W_seq ?_
      refine W_region ?_
      refine o_mvt rfl ?_
      have hst := hT.stop bnR (by
        by_cases hb : bad' = true
        · exact .inr hb
        · left
          have : ¬ k < N.1 := fun hh => h22 ⟨hh, by simpa using hb⟩
          omega)
      have hdb : dB bs = (xs, bs', bad') := by rw [hm]; exact hst
      have hR33 : RIn w21 b3 A (dB bs).2.1 (dB bs).2.2 := by rw [hdb]; exact hR
      have hO33 : Own w21 31 35 u (dB bs).1.length (rows binV (dB bs).1) := by rw [hdb]; exact hO
      obtain ⟨vb, hvb⟩ : ∃ vb, vb = u := ⟨_, rfl⟩
      rw [← hvb] at hO33 hB hin
      obtain ⟨ab, cb, hab, _, _⟩ := hO33.form
      refine op_call rfl rfl rfl (rn_Digest w21 b3 A _ _ hAb (fun z h => by have := hAlt z h; omega) hR33) ?_; rintro v33 w33 ⟨rfl, hR33b, hk33⟩
      have hR33b : RIn w33 b3 A (dS bs).2.1 (dS bs).2.2 := hR33b
      have hz33 := hk33.size
      refine op_run (r_fieldAddr rfl rfl rfl rfl rfl) rfl ?_
      refine o_storeA (cs := dgR (dS bs).1) rfl rfl (by first | rfl | exact binV_one _ | exact dgR_one _ | exact refR_one _ | exact secR_one _ | exact all_c8 _ | exact cmV_one _ rfl rfl) (by first | rfl | (rw [binV_len]; rfl) | (rw [dgR_len]; rfl) | (rw [refR_len]; rfl) | (rw [secR_len]; rfl) | (rw [List.length_map, tagF_len]; rfl) | (rw [cmV_len]; rfl)) (hk33.blk' hB h63) (by rw [cmV_len, dgR_len]; decide) rfl ?_; intro w34 hB34 hk34 hs34
      have hB34 : Blk w34 b6 (cmV { stC bs 3 with state := (dS bs).1 } vb nilV) 108 := by
        have h : Blk w34 b6 (splice (cmV (stC bs 3) vb nilV) 104 (dgR (dS bs).1)) 108 := hB34
        rwa [cmV_setS] at h
      have hR34 := hR33b.keep' hk34 h63.symm (fun k _ h => hA6 k h)
      have hz34 := hk34.size
      refine ops_nil ?_
      refine W_seq ?_
      refine W_region ?_
      refine o_mvt rfl ?_
      refine op_call rfl rfl rfl (rn_Number w34 b3 A (dS bs).2.1 (dS bs).2.2 65536 hAb hR34) ?_; rintro v35 w35 ⟨rfl, hR35, hk35⟩
      obtain ⟨M, hM⟩ : ∃ M, M = numR 65536 (dS bs).2.1 (dS bs).2.2 := ⟨_, rfl⟩
      have hnM := numR_le 65536 (dS bs).2.1 (dS bs).2.2
      rw [← hM] at hR35 hnM ⊢
      have hmE : dE bs = lstR (bytsR 65536) M.1 M.2.1 M.2.2 := by rw [hM]; rfl
      have hB35 := hk35.blk' hB34 h63
      have hz35 := hk35.size
      have hkw35 := ((hkw.new hk33 (by omega)).new hk34 (by omega)).new hk35 (by omega)
      have hb135 := hk35.blk' (hk34.blk' (hk33.blk' hb1 h13) h16) h13
      have hvlt := hO33.lt
      have hS35 : Sl w35 vb (dB bs).1.length 35 (rows binV (dB bs).1) := ((hO33.sl.keep hk33 (fun z hz e => by have := hin z hz; omega)).keep hk34 (fun z hz e => by have := hin z hz; omega)).keep hk35 (fun z hz e => by have := hin z hz; omega)
      refine o_ast rfl ?_
      refine ops_nil ?_
      refine W_seq ?_
      refine W_seq ?_
      refine W_region ?_
      refine o_asc rfl ?_
      refine ops_nil ?_
      refine W_block ?_
      refine W_loop [8] [8, 50, 51, 52, 53, 54, 55, 56, 57, 58, 59, 60, 61, 62, 63, 64, 65, 66, 67, 68] (fun vs w' => ∃ (k : Nat) (xs : List (List UInt8)) (vks : List Value) (bs' : List UInt8) (bad' : Bool) (u : Value), vs = [.int .u64 k] ∧ k ≤ M.1 ∧ Tkn (bytsR 65536) M.1 M.2.1 M.2.2 xs k bs' bad' ∧ Own w' 53 1 u vks.length vks ∧ vks.length = xs.length ∧ (∀ (i : Nat) (v : Value) (x : List UInt8), vks[i]? = some v → xs[i]? = some x → By w' v x) ∧ (∀ v ∈ vks, InB (fun z => w35.heap.size ≤ z ∧ z < w'.heap.size ∧ some z ≠ u.ownBlock) v) ∧ RIn w' b3 A bs' bad' ∧ Blk w' b6 (cmV { stC bs 3 with state := (dS bs).1 } vb u) 108 ∧ Keep All w w' ∧ InB (fun z => w35.heap.size ≤ z) u ∧ w35.heap.size ≤ w'.heap.size ∧ Keep (fun z => z < w35.heap.size ∧ z ≠ b3 ∧ z ≠ b6) w35 w') (fun vs _ => match vs with | [.int _ y] => M.1 - y.toNat | _ => 0) ⟨0, [], [], _, _, nilV, rfl, Nat.zero_le _, Tkn.zero .., own_nil _ _ _, rfl, (fun i v x hv => by simp at hv), (fun u hu => by cases hu), hR35, hB35, hkw35, InB.nil, Nat.le_refl _, Keep.refl _⟩ ?_
      rintro J36 vs w36 ⟨k, xs, vks, bs', bad', u, rfl, hk, hT, hO, hvl, hby, hvA, hR, hB, hkw, hin2, hz, hkC⟩ -
      refine W_seq ?_
      refine W_cut [59] [50, 51, 52, 53, 54, 55, 56, 57, 58, 59] (fun vs w37 => vs = [.bool (decide (k < M.1 ∧ bad' = false))] ∧ w37 = w36) ?_ ?_
      · refine W_region ?_
        refine o_mvt rfl ?_
        refine o_mvt rfl ?_
        refine op_run (r_lss rfl rfl) rfl ?_
        refine o_mvt rfl ?_
        refine g_split rfl rfl rfl (fun g38 => ?_) (fun g38 => ?_)
        obtain ⟨vI, bI, aI, hBI, hrestI⟩ := id hR
        · refine o_mvt (g_yes rfl rfl rfl g38) ?_
          refine op_run (r_nilCheck rfl) (g_yes rfl rfl rfl g38) ?_
          refine op_run (r_fieldAddr rfl rfl rfl rfl rfl) (g_yes rfl rfl rfl g38) ?_
          refine op_run (r_load rfl rfl rfl (hBI.cell rfl)) (g_yes rfl rfl rfl g38) ?_
          refine op_run (r_not rfl) (g_yes rfl rfl rfl g38) ?_
          refine o_pkTt rfl g38 rfl ?_
          refine ops_nil ?_
          exact ⟨by (repeat (first | with_reducible exact offM_refl _ _ | refine offM_updc rfl ?_ | refine offM_upd rfl ?_ | refine offM_updo rfl ?_ | refine offM_updo_none ?_ | refine offM_head rfl rfl ?_)), congrArg (fun b => [Value.bool b]) (by have g4 := of_decide_eq_true g38; have hkn : k < M.1 := (by omega); cases bad' <;> simp [hkn]), rfl⟩
        · refine op_skip (g_no rfl rfl rfl g38) ?_
          refine op_skip (g_no rfl rfl rfl g38) ?_
          refine op_skip (g_no rfl rfl rfl g38) ?_
          refine op_skip (g_no rfl rfl rfl g38) ?_
          refine op_skip (g_no rfl rfl rfl g38) ?_
          refine o_pkFc rfl g38 rfl ?_
          refine ops_nil ?_
          exact ⟨by (repeat (first | with_reducible exact offM_refl _ _ | refine offM_updc rfl ?_ | refine offM_upd rfl ?_ | refine offM_updo rfl ?_ | refine offM_updo_none ?_ | refine offM_head rfl rfl ?_)), congrArg (fun b => [Value.bool b]) (by have g4 := of_decide_eq_false g38; symm; exact decide_eq_false fun hh => g4 (by have := hh.1; omega)), rfl⟩
      · rintro J42 vs w42 ⟨rfl, rfl⟩ -
        refine W_cond_p rfl (fun h43 => ?_) (fun h43 => ?_)
        · refine W_skip ?_
          refine W_seq ?_
          refine W_block ?_
          obtain ⟨hkn, rfl⟩ := h43
          refine W_gate 7 (fun w => Blk w b6 (cmV { stC bs 3 with state := (dS bs).1 } vb u) 108) (by kernel_rfl) ((Keep.drawn w42).blk' hB trivial) (fun hS => ?_)
          refine gt_run 0 (fun w' hS' => (r_fieldAddr rfl rfl rfl rfl rfl)) rfl (by kernel_rfl) (by kernel_rfl) (by kernel_rfl) (by kernel_rfl) rfl hS ?_
          refine gt_run 1 (fun w' hS' => (r_load rfl rfl rfl ((hS'.cell (cmV_events _ _ _))))) rfl (by kernel_rfl) (by kernel_rfl) (by kernel_rfl) (by kernel_rfl) rfl hS ?_
          refine gt_mvt 2 rfl (by kernel_rfl) (by kernel_rfl) (by kernel_rfl) (by kernel_rfl) rfl hS ?_
          refine gt_one 3 (by kernel_rfl) (one_of rfl ?_)
          refine op_call rfl rfl rfl (rn_Bytes _ b3 A bs' false 65536 hAb (hR.k (Keep.drawn w42)) (by decide)) ?_; rintro v46 w46 ⟨hby46, hin46, hR46, hk46⟩
          obtain ⟨y, hy⟩ : ∃ y, y = (bytsR 65536 bs' false).1 := ⟨_, rfl⟩
          have hT' := hT.step (bytsR 65536) hkn
          rw [← hy] at hT' hby46
          have hO46 := (hO.keep (Keep.drawn w42) (fun _ _ => trivial)).keep hk46 (fun z hz e => by have := hin2 z hz; omega)
          obtain ⟨a46, c46, rfl, _, _⟩ := hby46.form
          have hz46 : w42.heap.size ≤ w46.heap.size := hk46.size
          have hin46 : InB (fun z => w42.heap.size ≤ z ∧ z < w46.heap.size) (.slice a46 y.length c46) := hin46
          refine ops_nil ⟨hk46.blk' hS h63, fun hS => ?_⟩
          refine gt_one 4 (by kernel_rfl) (one_of rfl ?_)
          refine o_bs1 (v := Value.slice a46 y.length c46) rfl rfl rfl rfl rfl rfl ?_; intro w48 b48 e48 hB48 hk48 hs48
          refine ops_nil ⟨hk48.blk' hS trivial, fun hS => ?_⟩
          have hS48 : Sl w48 (.slice (some ⟨b48, 0, none⟩) 1 1) 1 1 [.slice a46 y.length c46] := (Own.blk (n := 1) (sz := 1) hB48 rfl (by unfold maxLen; omega)).sl
          have hxl := hT.1
          have hu6 : some b6 ≠ u.ownBlock := fun e => by have := hin2 b6 e.symm; omega
          have hult := hO.lt
          refine gt_one 5 (by kernel_rfl) (one_of rfl ?_)
          refine o_appS (v := u) rfl rfl hS48 rfl ti_bss rfl rfl (hO46.keep hk48 (fun _ _ => trivial)) rfl (by unfold maxLen; omega) (by omega) rfl ?_; intro v50 w50 hown50 hk50 hb50
          have hO50 : Own w50 53 1 v50 (vks ++ [Value.slice a46 y.length c46]).length (vks ++ [Value.slice a46 y.length c46]) := by rw [List.length_append]; exact hown50
          have hz48 := hk48.size
          have hz50 := hk50.size
          have hin50 : InB (fun z => w35.heap.size ≤ z) v50 := fun z hz => by
            rcases hb50 z hz with h | h
            · exact hin2 z h
            · omega
          have hR50 := (hR46.k hk48).keep' hk50 (fun e => by have := hin2 b3 e.symm; omega) (fun z _ hA e => by have := hin2 z e.symm; have := hAlt z hA; omega)
          have hel : ∀ z, w35.heap.size ≤ z → z < w42.heap.size → some z ≠ u.ownBlock → some z ≠ v50.ownBlock := fun z h1 h2 h3 e => by
            rcases hb50 z e.symm with h | h
            · exact h3 h.symm
            · omega
          have hby50 : ∀ (i : Nat) (v : Value) (x : List UInt8), (vks ++ [Value.slice a46 y.length c46])[i]? = some v → (xs ++ [y])[i]? = some x → By w50 v x := fun i v x hv hx => by
            by_cases hi : i < xs.length
            · rw [List.getElem?_append_left (by omega)] at hv
              rw [List.getElem?_append_left hi] at hx
              have hvm := hvA v (List.mem_of_getElem? hv)
              exact ((((hby i v x hv hx).keep (Keep.drawn w42) (fun _ _ => trivial)).keep hk46 (hvm.mono fun z h => by omega)).keep hk48 (fun _ _ => trivial)).keep hk50 (hvm.mono fun z h => h.2.2)
            · have h1 := (List.getElem?_eq_some_iff.1 hx).1
              rw [List.length_append, List.length_singleton] at h1
              have hie : i = xs.length := by omega
              subst hie
              rw [← hvl, List.getElem?_concat_length] at hv
              rw [List.getElem?_concat_length] at hx
              injection hv with hv; injection hx with hx
              subst hv; subst hx
              exact (hby46.keep hk48 (fun _ _ => trivial)).keep hk50 (hin46.mono fun z h e => by have := hult z e.symm; omega)
          have hvA50 : ∀ v ∈ vks ++ [Value.slice a46 y.length c46], InB (fun z => w35.heap.size ≤ z ∧ z < w50.heap.size ∧ some z ≠ v50.ownBlock) v := fun v hv => by
            rcases List.mem_append.1 hv with hv | hv
            · exact (hvA v hv).mono fun z h => ⟨h.1, by omega, hel z h.1 h.2.1 h.2.2⟩
            · obtain rfl := List.mem_singleton.1 hv
              exact hin46.mono fun z h => ⟨by omega, by omega, fun e => by
                rcases hb50 z e.symm with h2 | h2
                · have := hult z h2; omega
                · omega⟩
          obtain ⟨a50, c50, rfl, _, _⟩ := hO50.form
          refine ops_nil ⟨hk50.blk' hS hu6, fun hS => ?_⟩
          refine gt_run 6 (fun w' hS' => (r_fieldAddr rfl rfl rfl rfl rfl)) rfl (by kernel_rfl) (by kernel_rfl) (by kernel_rfl) (by kernel_rfl) rfl hS ?_
          refine gt_past 7 (by kernel_rfl) (by kernel_rfl) (one_of rfl ?_)
          refine o_store (v := Value.slice a50 (vks ++ [Value.slice a46 y.length c46]).length c50) rfl rfl rfl rfl hS (by rw [cmV_len]; decide) rfl ?_; intro w52 hB52 hk52 hs52
          have hB52 : Blk w52 b6 (cmV { stC bs 3 with state := (dS bs).1 } vb (.slice a50 (vks ++ [Value.slice a46 y.length c46]).length c50)) 108 := by
            have h : Blk w52 b6 ((cmV { stC bs 3 with state := (dS bs).1 } vb u).set 136 (.slice a50 (vks ++ [Value.slice a46 y.length c46]).length c50)) 108 := hB52
            rwa [cmV_setE] at h
          have hz52 := hk52.size
          have hkC' : Keep (fun z => z < w35.heap.size ∧ z ≠ b3 ∧ z ≠ b6) w35 w52 := ((((hkC.trans (Keep.drawn w42).all).trans (hk46.mono fun z _ h => h.2.1)).trans hk48.all).trans (hk50.mono fun z _ h e => by have := hin2 z e.symm; omega)).trans (hk52.mono fun z _ h => h.2.2)
          refine ops_nil ?_
          refine gt_done (by kernel_rfl) ?_
          refine W_region ?_
          refine o_mvt rfl ?_
          refine op_run ((r_add rfl rfl).val (congrArg (Value.int .u64) (show IntKind.u64.wrap ((k : Int) + 1) = ((k + 1 : Nat) : Int) from by rw [wrap_u64]; omega))) rfl ?_
          refine o_ast rfl ?_
          refine ops_nil ?_
          refine ⟨by (repeat (first | with_reducible exact offM_refl _ _ | refine offM_updc rfl ?_ | refine offM_upd rfl ?_ | refine offM_updo rfl ?_ | refine offM_updo_none ?_ | refine offM_head rfl rfl ?_)), ⟨k + 1, xs ++ [y], vks ++ [Value.slice a46 y.length c46], _, _, _, rfl, by omega, hT', hO50.keep hk52 (fun z hz e => by have := hin50 z hz; omega), by rw [List.length_append, List.length_append, hvl]; rfl, fun i v x hv hx => (hby50 i v x hv hx).keep hk52 ((hvA50 v (List.mem_of_getElem? hv)).mono fun z h => by omega), fun v hv => (hvA50 v hv).mono fun z h => ⟨h.1, by omega, h.2.2⟩, hR50.keep' hk52 h63.symm (fun z _ h => hA6 z h), hB52, ((((hkw.trans (Keep.drawn w42)).new hk46 (by omega)).trans hk48).own hk50 (fun z hz _ => by have := hin2 z hz; omega)).new hk52 (by omega), hin50, by omega, hkC'⟩, ?_⟩
          show M.1 - ((k + 1 : Nat) : Int).toNat < M.1 - (k : Int).toNat
          omega
        · refine W_exit ?_
          refine W_seq ?_
          have hst := hT.stop (bytsR 65536) (by
            by_cases hb : bad' = true
            · exact .inr hb
            · left
              have : ¬ k < M.1 := fun hh => h43 ⟨hh, by simpa using hb⟩
              omega)
          have hde : dE bs = (xs, bs', bad') := by rw [hmE]; exact hst
          have hRf : RIn w42 b3 A (dE bs).2.1 (dE bs).2.2 := by rw [hde]; exact hR
          have hRv : RowsV w42 u vks (dE bs).1 := by rw [hde]; exact rows1_own hO hvl hby
          have hSv : Sl w42 vb (dB bs).1.length 35 (rows binV (dB bs).1) := hS35.keep hkC (fun z hz => by have := hin z hz; have := hvlt z hz; exact ⟨by omega, by omega, by omega⟩)
          have hCf : CmIn w42 (cmR bs) vb u vks := ⟨hSv, hRv⟩
          have hBf : Blk w42 b6 (cmV (cmR bs) vb u) 108 := hB
          have hb1f := hkC.blk' hb135 (show _ ∧ _ ∧ _ from ⟨by have := hb135.lt; omega, h13, h16⟩)
          obtain ⟨au, cu, rfl, _, _⟩ := hRv.2.1.form
          subst hab
          refine W_cut [81] [69, 70, 71, 72, 73, 74, 75, 76, 77, 78, 79, 80, 81] (fun vs w54 => vs = [.bool (decide (¬ ((dE bs).2.1 = [] ∧ (dE bs).2.2 = false ∧ (cmR bs).right ∧ bs.length ≤ 65536)))] ∧ Keep All w42 w54) ?_ ?_
          · refine W_region ?_
            refine o_mvt rfl ?_
            refine op_call rfl rfl rfl (rn_Done w42 b3 A _ _ hRf) ?_; rintro v55 w55 ⟨rfl, hk55⟩
            refine op_run (r_neq rfl rfl) rfl ?_
            refine o_mvt rfl ?_
            refine g_split rfl rfl rfl (fun g56 => ?_) (fun g56 => ?_)
            · refine op_run (r_loadA (cmV (cmR bs) (.slice ab (dB bs).1.length cb) (.slice au (dE bs).1.length cu)) rfl rfl rfl (by first | rfl | (rw [binV_len]; rfl) | (rw [dgR_len]; rfl) | (rw [refR_len]; rfl) | (rw [secR_len]; rfl) | (rw [List.length_map, tagF_len]; rfl) | (rw [cmV_len]; rfl)) ((hk55.blk' hBf trivial).all)) (g_yes rfl rfl rfl g56) ?_
              refine op_call rfl rfl (g_yes rfl rfl rfl g56) (rf13_Right w55 (cmR bs) _ _ vks (hCf.k hk55)) ?_; rintro v58 w58 ⟨rfl, hk58⟩
              refine op_run (r_not rfl) (g_yes rfl rfl rfl g56) ?_
              refine o_pkFt rfl g56 rfl ?_
              refine o_mvt rfl ?_
              refine g_split rfl rfl rfl (fun g59 => ?_) (fun g59 => ?_)
              · refine o_mvt (g_yes rfl rfl rfl (by rw [g59] <;> rfl)) ?_
                refine op_run (r_len rfl rfl rfl) (g_yes rfl rfl rfl (by rw [g59] <;> rfl)) ?_
                refine op_run (r_gtr rfl rfl) (g_yes rfl rfl rfl (by rw [g59] <;> rfl)) ?_
                refine o_pkFt rfl (by rw [g59] <;> rfl) rfl ?_
                refine ops_nil ?_
                exact ⟨by (repeat (first | with_reducible exact offM_refl _ _ | refine offM_updc rfl ?_ | refine offM_upd rfl ?_ | refine offM_updo rfl ?_ | refine offM_updo_none ?_ | refine offM_head rfl rfl ?_)), congrArg (fun b => [Value.bool b]) (by
                  have k56 := Classical.byContradiction fun hh => of_decide_eq_false g56 (done_iff.2 hh)
                  have k59 : (cmR bs).right := by simpa using g59
                  rw [decide_eq_decide]
                  constructor
                  · intro h hh; have := hh.2.2.2; omega
                  · intro h; exact Classical.byContradiction fun hh => h ⟨k56.1, k56.2, k59, by omega⟩), hk55.trans hk58⟩
              · refine op_skip (g_no rfl rfl rfl (by rw [g59] <;> rfl)) ?_
                refine op_skip (g_no rfl rfl rfl (by rw [g59] <;> rfl)) ?_
                refine op_skip (g_no rfl rfl rfl (by rw [g59] <;> rfl)) ?_
                refine o_pkTc rfl (by rw [g59] <;> rfl) rfl ?_
                refine ops_nil ?_
                exact ⟨by (repeat (first | with_reducible exact offM_refl _ _ | refine offM_updc rfl ?_ | refine offM_upd rfl ?_ | refine offM_updo rfl ?_ | refine offM_updo_none ?_ | refine offM_head rfl rfl ?_)), congrArg (fun b => [Value.bool b]) (by
                  have k59 : ¬ (cmR bs).right := by simpa using g59
                  symm; exact decide_eq_true fun hh => k59 hh.2.2.1), hk55.trans hk58⟩
            · refine op_skip (g_no rfl rfl rfl g56) ?_
              refine op_skip (g_no rfl rfl rfl g56) ?_
              refine op_skip (g_no rfl rfl rfl g56) ?_
              refine o_pkTc rfl g56 rfl ?_
              refine o_mvt rfl ?_
              refine op_skip (g_no rfl rfl rfl rfl) ?_
              refine op_skip (g_no rfl rfl rfl rfl) ?_
              refine op_skip (g_no rfl rfl rfl rfl) ?_
              refine o_pkTc rfl rfl rfl ?_
              refine ops_nil ?_
              exact ⟨by (repeat (first | with_reducible exact offM_refl _ _ | refine offM_updc rfl ?_ | refine offM_upd rfl ?_ | refine offM_updo rfl ?_ | refine offM_updo_none ?_ | refine offM_head rfl rfl ?_)), congrArg (fun b => [Value.bool b]) (by
                have k56 := done_iff.1 (of_decide_eq_true g56)
                symm; exact decide_eq_true fun hh => k56 ⟨hh.1, hh.2.1⟩), hk55⟩
          · rintro J63 vs w63 ⟨rfl, hk63⟩ -
            refine W_cond_p rfl (fun h64 => ?_) (fun h64 => ?_)
            · refine W_seq ?_
              refine W_region ?_
              refine op_run (r_build ((cmV Cm.zero nilV nilV)) (_) ([]) rfl rfl rfl rfl rfl (rfl)) rfl ?_
              refine o_storeA (cs := cmV Cm.zero nilV nilV) rfl rfl (by first | rfl | exact binV_one _ | exact dgR_one _ | exact refR_one _ | exact secR_one _ | exact all_c8 _ | exact cmV_one _ rfl rfl) (by first | rfl | (rw [binV_len]; rfl) | (rw [dgR_len]; rfl) | (rw [refR_len]; rfl) | (rw [secR_len]; rfl) | (rw [List.length_map, tagF_len]; rfl) | (rw [cmV_len]; rfl)) (hk63.blk' hb1f trivial) (by simp [cmV_len]) rfl ?_; intro w66 hB66 hk66 hs66
              rw [splice_all (by simp [cmV_len])] at hB66
              refine o_asc rfl ?_
              refine ops_nil ?_
              refine W_ret ?_
              refine retAT ((cmV Cm.zero nilV nilV)) ((.int .i64 3)) rfl rfl rfl rfl rfl (by first | rfl | (rw [binV_len]; rfl) | (rw [dgR_len]; rfl) | (rw [refR_len]; rfl) | (rw [secR_len]; rfl) | (rw [List.length_map, tagF_len]; rfl) | (rw [cmV_len]; rfl)) (hB66.all) ?_
              rw [decC_rd, if_neg h64]
              exact ⟨_, _, _, rfl, cmIn_zero _, (hkw.trans hk63).new hk66 (by omega), FreshE.nil _⟩
            · refine W_skip ?_
              refine W_seq ?_
              refine W_region ?_
              refine op_run (r_loadA (cmV (cmR bs) (.slice ab (dB bs).1.length cb) (.slice au (dE bs).1.length cu)) rfl rfl rfl (by first | rfl | (rw [binV_len]; rfl) | (rw [dgR_len]; rfl) | (rw [refR_len]; rfl) | (rw [secR_len]; rfl) | (rw [List.length_map, tagF_len]; rfl) | (rw [cmV_len]; rfl)) ((hk63.blk' hBf trivial).all)) rfl ?_
              refine o_storeA (cs := cmV (cmR bs) (.slice ab (dB bs).1.length cb) (.slice au (dE bs).1.length cu)) rfl rfl (by first | rfl | exact binV_one _ | exact dgR_one _ | exact refR_one _ | exact secR_one _ | exact all_c8 _ | exact cmV_one _ rfl rfl) (by first | rfl | (rw [binV_len]; rfl) | (rw [dgR_len]; rfl) | (rw [refR_len]; rfl) | (rw [secR_len]; rfl) | (rw [List.length_map, tagF_len]; rfl) | (rw [cmV_len]; rfl)) (hk63.blk' hb1f trivial) (by simp [cmV_len]) rfl ?_; intro w69 hB69 hk69 hs69
              rw [splice_all (by simp [cmV_len])] at hB69
              refine o_asc rfl ?_
              refine ops_nil ?_
              refine W_ret ?_
              refine retAT ((cmV (cmR bs) (.slice ab (dB bs).1.length cb) (.slice au (dE bs).1.length cu))) ((.int .i64 0)) rfl rfl rfl rfl rfl (by first | rfl | (rw [binV_len]; rfl) | (rw [dgR_len]; rfl) | (rw [refR_len]; rfl) | (rw [secR_len]; rfl) | (rw [List.length_map, tagF_len]; rfl) | (rw [cmV_len]; rfl)) (hB69.all) ?_
              rw [decC_rd, if_pos (Decidable.not_not.1 h64)]
              have hzF : w.heap.size ≤ w35.heap.size := hkw35.size
              refine ⟨_, _, vks, rfl, ?_, (hkw.trans hk63).new hk69 (by omega), hin2.mono (fun z hz => by omega), fun v hv => (hvA v hv).mono fun z h => by omega⟩
              have hC63 := hCf.k hk63
              exact ⟨hC63.1.keep hk69 (fun z hz e => by have := hin z hz; omega), hC63.2.keep2 hk69 (fun z hz e => by have := hin2 z hz; omega) (fun v hv => (hvA v hv).mono fun z h e => by omega)⟩
theorem rf13_Decode (w : World) (v : Value) (bs : List UInt8) (hv : By w v bs) (hl : bs.length ≤ 1000000) :
    Ret Try.prog 79 [v].toArray w fun r w' => ∃ vb ve vks, r = .tuple #[.agg (cmV ((decC bs).getD Cm.zero) vb ve).toArray, .int .i64 (if (decC bs).isSome then 0 else 3)] ∧ CmIn w' ((decC bs).getD Cm.zero) vb ve vks ∧ Keep All w w' :=
  (rf13_DecodeF w v bs hv hl).mono fun _ _ ⟨u, he, vb, ve, vks, h1, h2, h3, _⟩ => ⟨u, he, vb, ve, vks, h1, h2, h3⟩
end Go.Proofs.Ytigehkfdfecfoaa.B
