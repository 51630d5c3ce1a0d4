/-
  volume: Get, change, Put, Drop.
-/
import Derived.Test.YtkmciohghhffnaaGreatVol2
namespace Go.Proofs.YtkmciohghhffnaaGreat.B
open Go
set_option linter.unusedVariables false
set_option maxHeartbeats 2000000
set_option maxRecDepth 100000
attribute [local irreducible] W OpsW OpsQ retP
/-- What a block's call answers. -/
structure RV where
  f : Bk
  t : Bool
  e : Int
def RV.v (r : RV) : Value := .tuple #[.agg (blkR r.f).toArray, .bool r.t, .int .i64 r.e]
def RV.no (e : Int) : RV := ⟨Bk.zero, false, e⟩
def getV (l : AL) (nm : List UInt8) (n : Int) : RV := match lookP l nm with
  | none => RV.no 5
  | some v => if n < 0 ∨ 1048576 ≤ n then RV.no 2 else ⟨(lookP v.bl n).getD Bk.zero, (lookP v.bl n).isSome, 0⟩
def frQ (l : AL) (nm : List UInt8) : Bool := match lookP l nm with
  | none => false
  | some v => v.fr
def chgV (l : AL) (nm : List UInt8) (n : Int) : RV := if (getV l nm n).e = 0 ∧ frQ l nm = true then RV.no 10 else getV l nm n
theorem getV_none {l : AL} {nm : List UInt8} {n : Int} (h : lookP l nm = none) : getV l nm n = RV.no 5 := by unfold getV; rw [h]
theorem getV_some {l : AL} {nm : List UInt8} {n : Int} {v : VA} (h : lookP l nm = some v) : getV l nm n = if n < 0 ∨ 1048576 ≤ n then RV.no 2 else ⟨(lookP v.bl n).getD Bk.zero, (lookP v.bl n).isSome, 0⟩ := by unfold getV; rw [h]
theorem getV_ok {l : AL} {nm : List UInt8} {n : Int} (h : (getV l nm n).e = 0) : ∃ v, lookP l nm = some v ∧ 0 ≤ n ∧ n < 1048576 ∧ getV l nm n = ⟨(lookP v.bl n).getD Bk.zero, (lookP v.bl n).isSome, 0⟩ := by
  cases hv : lookP l nm with
  | none => rw [getV_none hv] at h; cases h
  | some v =>
    rw [getV_some hv] at h ⊢
    split at h
    · cases h
    · rename_i hn
      rw [if_neg hn]
      exact ⟨v, rfl, by omega, by omega, rfl⟩
theorem frQ_some {l : AL} {nm : List UInt8} {v : VA} (h : lookP l nm = some v) : frQ l nm = v.fr := by unfold frQ; rw [h]
theorem chgV_ok {l : AL} {nm : List UInt8} {n : Int} (h : (chgV l nm n).e = 0) : ∃ v, lookP l nm = some v ∧ 0 ≤ n ∧ n < 1048576 ∧ v.fr = false ∧ chgV l nm n = ⟨(lookP v.bl n).getD Bk.zero, (lookP v.bl n).isSome, 0⟩ := by
  unfold chgV at h ⊢
  by_cases hc : (getV l nm n).e = 0 ∧ frQ l nm = true
  · rw [if_pos hc] at h; cases h
  · rw [if_neg hc] at h ⊢
    obtain ⟨v, hv, h0, h1, e⟩ := getV_ok h
    refine ⟨v, hv, h0, h1, ?_, e⟩
    cases hf : v.fr with
    | false => rfl
    | true => exact absurd ⟨h, by rw [frQ_some hv]; exact hf⟩ hc
theorem bk_st {w : World} {b : Nat} {s s' : Bk} (h : Blk w b (splice (blkR s) 0 (blkR s')) 29) : Blk w b (blkR s') 29 := by
  rwa [splice_all (by rw [blkR_len, blkR_len])] at h
theorem look_bk (bl : List (Int × Bk)) (n : Int) : Value.tuple #[(getA (mapP bkV bl) n).getD (.agg (List.replicate 32 (c8 0)).toArray), .bool (getA (mapP bkV bl) n).isSome] = Value.tuple #[.agg (blkR ((lookP bl n).getD Bk.zero)).toArray, .bool (lookP bl n).isSome] := by
  rw [getA_look]
  cases lookP bl n with
  | none => show Value.tuple #[Value.agg _, _] = Value.tuple #[Value.agg (blkR Bk.zero).toArray, _]; rw [blkR_zero]; rfl
  | some v => rfl
theorem look_ptr {l : ModL} {nm : List UInt8} {v : Vol} (h : lookP l nm = some v) : (getA (mapP ptrV l) nm).getD (.agg (volR 0 false (.map none)).toArray) = .agg (volR v.q v.fr (.map (some v.xa))).toArray := by rw [getA_look, h]; rfl
theorem vl_Get (w : World) (mb bm : Nat) (l : ModL) (nm : List UInt8) (n : Int) (h : ModW w mb bm l) : Ret Tryz.prog 8 [.pointer (some ⟨mb, 0, none⟩), strA nm, .int .i64 n].toArray w fun r w' => r = (getV (abs l) nm n).v ∧ Keep All w w' := by
  refine enter (fn := Tryz.f8) (n := 39) Tryz.func8 rfl rfl (by simp) ?_
  refine W_seq ?_
  refine W_region ?_
  refine o_alloc rfl rfl rfl ?_; intro w1 b1 e1 hB1 hk1 hs1
  have hB1' : Blk w1 b1 (blkR Bk.zero) 29 := hB1
  refine o_asc rfl ?_
  refine o_asc rfl ?_
  refine ops_nil ?_
  refine W_seq ?_
  refine W_block ?_
  refine W_seq ?_
  refine W_region ?_
  refine o_mvt rfl ?_
  refine o_mvt rfl ?_
  refine op_call rfl rfl rfl (vl_has w1 mb bm l nm (h.k hk1)) ?_; rintro v2 w2 ⟨rfl, hk2⟩
  have hk02 := hk1.trans hk2
  have hB2 := hk2.blk' hB1' trivial
  refine op_run (r_not rfl) rfl ?_
  refine o_ast rfl ?_
  refine ops_nil ?_
  refine W_cond rfl (fun h3 => ?_) (fun h3 => ?_)
  · refine W_seq ?_
    refine W_region ?_
    have hno : lookP l nm = none := by
      cases hv : lookP l nm with
      | none => rfl
      | some v => rw [hv] at h3; cases h3
    refine op_run (r_buildA (blkR Bk.zero) (_) ([]) rfl rfl rfl rfl rfl (rfl)) rfl ?_
    refine o_storeA (cs := blkR Bk.zero) rfl rfl (by first | rfl | exact binV_one _ | exact dgR_one _ | exact refR_one _ | exact secR_one _ | exact all_c8 _ | exact blkR_one _) (by first | rfl | (rw [binV_len]; rfl) | (rw [dgR_len]; rfl) | (rw [refR_len]; rfl) | (rw [secR_len]; rfl) | (rw [List.length_map, tagF_len]; rfl) | (rw [blkR_len]; rfl)) hB2 (by exact Nat.le_of_eq (by simp [blkR_len])) rfl ?_; intro w5 hB5 hk5 hs5
    refine o_asc rfl ?_
    refine o_asc rfl ?_
    refine ops_nil ?_
    refine W_ret ?_
    refine retATT ((blkR Bk.zero)) ((.bool false)) ((.int .i64 5)) rfl rfl rfl rfl rfl rfl (by first | rfl | (rw [binV_len]; rfl) | (rw [dgR_len]; rfl) | (rw [refR_len]; rfl) | (rw [secR_len]; rfl) | (rw [List.length_map, tagF_len]; rfl) | (rw [blkR_len]; rfl)) ((bk_st hB5).all) ?_
    exact ⟨by rw [getV_none (by rw [look_abs, hno]; rfl)]; rfl, hk02.new hk5 (by omega)⟩
  · obtain ⟨v, hv⟩ : ∃ v, lookP l nm = some v := by
      cases hv : lookP l nm with
      | none => rw [hv] at h3; cases h3
      | some v => exact ⟨v, rfl⟩
    have hva : lookP (abs l) nm = some v.a := by rw [look_abs, hv]; rfl
    have hlk := look_ptr hv
    have hlk2 := look_bk v.bl n
    refine W_cut [17] [17, 18, 19, 20, 21, 22, 23] (fun vs w7 => vs = [.bool (decide (n < 0 ∨ 1048576 ≤ n))] ∧ w7 = w2) ?_ ?_
    · refine W_region ?_
      refine o_mvt rfl ?_
      refine op_run (r_lss rfl rfl) rfl ?_
      refine o_mvt rfl ?_
      refine g_split rfl rfl rfl (fun g8 => ?_) (fun g8 => ?_)
      · refine o_mvt (g_yes rfl rfl rfl g8) ?_
        refine op_run (r_geq rfl rfl) (g_yes rfl rfl rfl g8) ?_
        refine o_pkFt rfl g8 rfl ?_
        refine o_ast rfl ?_
        refine ops_nil ?_
        exact ⟨by (repeat (first | with_reducible exact offM_refl _ _ | refine offM_updc rfl ?_ | refine offM_upd rfl ?_ | refine offM_updo rfl ?_ | refine offM_updo_none ?_ | refine offM_head rfl rfl ?_)), congrArg (fun b => [Value.bool b]) (by have g := of_decide_eq_false g8; rw [decide_eq_decide]; constructor <;> intro h <;> omega), rfl⟩
      · refine op_skip (g_no rfl rfl rfl g8) ?_
        refine op_skip (g_no rfl rfl rfl g8) ?_
        refine o_pkTc rfl g8 rfl ?_
        refine o_ast rfl ?_
        refine ops_nil ?_
        exact ⟨by (repeat (first | with_reducible exact offM_refl _ _ | refine offM_updc rfl ?_ | refine offM_upd rfl ?_ | refine offM_updo rfl ?_ | refine offM_updo_none ?_ | refine offM_head rfl rfl ?_)), congrArg (fun b => [Value.bool b]) (by have g := of_decide_eq_true g8; symm; apply decide_eq_true; omega), rfl⟩
    · rintro J11 vs w11 ⟨rfl, rfl⟩ -
      refine W_cond_p rfl (fun h12 => ?_) (fun h12 => ?_)
      · refine W_seq ?_
        refine W_region ?_
        refine op_run (r_buildA (blkR Bk.zero) (_) ([]) rfl rfl rfl rfl rfl (rfl)) rfl ?_
        refine o_storeA (cs := blkR Bk.zero) rfl rfl (by first | rfl | exact binV_one _ | exact dgR_one _ | exact refR_one _ | exact secR_one _ | exact all_c8 _ | exact blkR_one _) (by first | rfl | (rw [binV_len]; rfl) | (rw [dgR_len]; rfl) | (rw [refR_len]; rfl) | (rw [secR_len]; rfl) | (rw [List.length_map, tagF_len]; rfl) | (rw [blkR_len]; rfl)) hB2 (by exact Nat.le_of_eq (by simp [blkR_len])) rfl ?_; intro w14 hB14 hk14 hs14
        refine o_asc rfl ?_
        refine o_asc rfl ?_
        refine ops_nil ?_
        refine W_ret ?_
        refine retATT ((blkR Bk.zero)) ((.bool false)) ((.int .i64 2)) rfl rfl rfl rfl rfl rfl (by first | rfl | (rw [binV_len]; rfl) | (rw [dgR_len]; rfl) | (rw [refR_len]; rfl) | (rw [secR_len]; rfl) | (rw [List.length_map, tagF_len]; rfl) | (rw [blkR_len]; rfl)) ((bk_st hB14).all) ?_
        exact ⟨by rw [getV_some hva, if_pos h12]; rfl, hk02.new hk14 (by omega)⟩
      · refine W_skip ?_
        refine W_seq ?_
        refine W_region ?_
        refine o_mvt rfl ?_
        refine op_run (r_nilCheck rfl) rfl ?_
        refine op_run (r_fieldAddr rfl rfl rfl rfl rfl) rfl ?_
        refine op_run (r_load rfl rfl rfl ((h.k hk02).m.cell rfl)) rfl ?_
        refine o_mvt rfl ?_
        refine op_run ((r_lookupG (a := nm) (keyOk_strA rfl) rfl rfl rfl ti_ptrV ((h.k hk02).vs)).val (hlk)) rfl ?_
        refine op_run (r_field1 rfl rfl rfl rfl rfl (rfl)) rfl ?_
        refine o_mvt rfl ?_
        refine op_run ((r_lookupGok (a := n) (keyOk_int rfl) rfl rfl rfl ti_bk (((h.k hk02).v _ (lookP_mem hv)).2)).val (hlk2)) rfl ?_
        refine o_mvt rfl ?_
        refine op_run (r_extract rfl rfl) rfl ?_
        refine op_run (r_extract rfl rfl) rfl ?_
        refine o_alloc rfl rfl rfl ?_; intro w20 b20 e20 hB20 hk20 hs20
        have hB20' : Blk w20 b20 (blkR Bk.zero) 29 := hB20
        have hlt2 := hB2.lt
        have hB220 := hk20.blk' hB2 trivial
        refine o_storeA (cs := blkR ((lookP v.bl n).getD Bk.zero)) rfl rfl (by first | rfl | exact binV_one _ | exact dgR_one _ | exact refR_one _ | exact secR_one _ | exact all_c8 _ | exact blkR_one _) (by first | rfl | (rw [binV_len]; rfl) | (rw [dgR_len]; rfl) | (rw [refR_len]; rfl) | (rw [secR_len]; rfl) | (rw [List.length_map, tagF_len]; rfl) | (rw [blkR_len]; rfl)) hB20' (by exact Nat.le_of_eq (by simp [blkR_len])) rfl ?_; intro w21 hB21 hk21 hs21
        have hB21' := bk_st hB21
        have hB221 := hk21.blk' hB220 (show b1 ≠ b20 by omega)
        refine o_ast rfl ?_
        refine ops_nil ?_
        refine W_seq ?_
        refine W_region ?_
        refine op_run (r_loadA (blkR ((lookP v.bl n).getD Bk.zero)) rfl rfl rfl (by first | rfl | (rw [binV_len]; rfl) | (rw [dgR_len]; rfl) | (rw [refR_len]; rfl) | (rw [secR_len]; rfl) | (rw [List.length_map, tagF_len]; rfl) | (rw [blkR_len]; rfl)) (hB21'.all)) rfl ?_
        refine o_mvt rfl ?_
        refine o_storeA (cs := blkR ((lookP v.bl n).getD Bk.zero)) rfl rfl (by first | rfl | exact binV_one _ | exact dgR_one _ | exact refR_one _ | exact secR_one _ | exact all_c8 _ | exact blkR_one _) (by first | rfl | (rw [binV_len]; rfl) | (rw [dgR_len]; rfl) | (rw [refR_len]; rfl) | (rw [secR_len]; rfl) | (rw [List.length_map, tagF_len]; rfl) | (rw [blkR_len]; rfl)) hB221 (by exact Nat.le_of_eq (by simp [blkR_len])) rfl ?_; intro w23 hB23 hk23 hs23
        refine o_ast rfl ?_
        refine o_asc rfl ?_
        refine ops_nil ?_
        refine W_ret ?_
        refine retATT ((blkR ((lookP v.bl n).getD Bk.zero))) ((.bool (lookP v.bl n).isSome)) ((.int .i64 0)) rfl rfl rfl rfl rfl rfl (by first | rfl | (rw [binV_len]; rfl) | (rw [dgR_len]; rfl) | (rw [refR_len]; rfl) | (rw [secR_len]; rfl) | (rw [List.length_map, tagF_len]; rfl) | (rw [blkR_len]; rfl)) ((bk_st hB23).all) ?_
        refine ⟨by rw [getV_some hva, if_neg h12]; rfl, ((hk02.trans hk20).new hk21 ?_).new hk23 (by omega)⟩
        have := hk02.size; omega
theorem vl_change (w : World) (mb bm : Nat) (l : ModL) (nm : List UInt8) (n : Int) (h : ModW w mb bm l) : Ret Tryz.prog 46 [.pointer (some ⟨mb, 0, none⟩), strA nm, .int .i64 n].toArray w fun r w' => r = (chgV (abs l) nm n).v ∧ Keep All w w' := by
  refine enter (fn := Tryz.f46) (n := 35) Tryz.func46 rfl rfl (by simp) ?_
  refine W_seq ?_
  refine W_region ?_
  refine o_alloc rfl rfl rfl ?_; intro w1 b1 e1 hB1 hk1 hs1
  have hB1' : Blk w1 b1 (blkR Bk.zero) 29 := hB1
  refine o_asc rfl ?_
  refine o_asc rfl ?_
  refine ops_nil ?_
  refine W_seq ?_
  refine W_region ?_
  refine o_mvt rfl ?_
  refine o_mvt rfl ?_
  refine o_mvt rfl ?_
  refine op_call rfl rfl rfl (vl_Get w1 mb bm l nm n (h.k hk1)) ?_; rintro v2 w2 ⟨rfl, hk2⟩
  have hk02 := hk1.trans hk2
  have hB2 := hk2.blk' hB1' trivial
  have hlt2 := hB2.lt
  obtain ⟨g, hg⟩ : ∃ g, getV (abs l) nm n = g := ⟨_, rfl⟩
  rw [hg]
  refine o_mvt rfl ?_
  refine op_run (r_extract rfl rfl) rfl ?_
  refine op_run (r_extract rfl rfl) rfl ?_
  refine op_run (r_extract rfl rfl) rfl ?_
  refine o_alloc rfl rfl rfl ?_; intro w3 b3 e3 hB3 hk3 hs3
  have hB3' : Blk w3 b3 (blkR Bk.zero) 29 := hB3
  refine o_storeA (cs := blkR g.f) rfl rfl (by first | rfl | exact binV_one _ | exact dgR_one _ | exact refR_one _ | exact secR_one _ | exact all_c8 _ | exact blkR_one _) (by first | rfl | (rw [binV_len]; rfl) | (rw [dgR_len]; rfl) | (rw [refR_len]; rfl) | (rw [secR_len]; rfl) | (rw [List.length_map, tagF_len]; rfl) | (rw [blkR_len]; rfl)) hB3' (by exact Nat.le_of_eq (by simp [blkR_len])) rfl ?_; intro w4 hB4 hk4 hs4
  have hB4' := bk_st hB4
  have hB14 := hk4.blk' (hk3.blk' hB2 trivial) (show b1 ≠ b3 by omega)
  have hk04 := (hk02.trans hk3).new hk4 (by have := hk02.size; omega)
  refine o_ast rfl ?_
  refine o_ast rfl ?_
  refine ops_nil ?_
  refine W_seq ?_
  refine W_cut [30] [20, 21, 22, 23, 24, 25, 26, 27, 28, 29, 30] (fun vs w5 => vs = [.bool (decide (g.e = 0 ∧ frQ (abs l) nm = true))] ∧ w5 = w4) ?_ ?_
  · refine W_region ?_
    refine o_mvt rfl ?_
    refine op_run (r_eql rfl rfl) rfl ?_
    refine o_mvt rfl ?_
    refine g_split rfl rfl rfl (fun g6 => ?_) (fun g6 => ?_)
    · refine o_mvt (g_yes rfl rfl rfl g6) ?_
      refine op_run (r_nilCheck rfl) (g_yes rfl rfl rfl g6) ?_
      refine op_run (r_fieldAddr rfl rfl rfl rfl rfl) (g_yes rfl rfl rfl g6) ?_
      obtain ⟨va, hva, _, _, _⟩ := getV_ok (l := abs l) (nm := nm) (n := n) (by rw [hg]; exact of_decide_eq_true g6)
      obtain ⟨v, hv, rfl⟩ : ∃ v, lookP l nm = some v ∧ v.a = va := by
        rw [look_abs] at hva
        cases hv : lookP l nm with
        | none => rw [hv] at hva; cases hva
        | some v => rw [hv] at hva; exact ⟨v, rfl, Option.some.inj hva⟩
      have hlk := look_ptr hv
      refine op_run (r_load rfl rfl rfl ((h.k hk04).m.cell rfl)) (g_yes rfl rfl rfl g6) ?_
      refine o_mvt (g_yes rfl rfl rfl g6) ?_
      refine op_run ((r_lookupG (a := nm) (keyOk_strA rfl) rfl rfl rfl ti_ptrV ((h.k hk04).vs)).val (hlk)) (g_yes rfl rfl rfl g6) ?_
      refine op_run (r_field1 rfl rfl rfl rfl rfl (rfl)) (g_yes rfl rfl rfl g6) ?_
      refine o_pkTt rfl g6 rfl ?_
      refine ops_nil ?_
      exact ⟨by (repeat (first | with_reducible exact offM_refl _ _ | refine offM_updc rfl ?_ | refine offM_upd rfl ?_ | refine offM_updo rfl ?_ | refine offM_updo_none ?_ | refine offM_head rfl rfl ?_)), congrArg (fun b => [Value.bool b]) (by have e := of_decide_eq_true g6; have e2 : frQ (abs l) nm = v.fr := frQ_some hva; rw [e2]; cases hf : v.fr with | true => exact (decide_eq_true ⟨e, rfl⟩).symm | false => exact (decide_eq_false (fun hh => by cases hh.2)).symm), rfl⟩
    · refine op_skip (g_no rfl rfl rfl g6) ?_
      refine op_skip (g_no rfl rfl rfl g6) ?_
      refine op_skip (g_no rfl rfl rfl g6) ?_
      refine op_skip (g_no rfl rfl rfl g6) ?_
      refine op_skip (g_no rfl rfl rfl g6) ?_
      refine op_skip (g_no rfl rfl rfl g6) ?_
      refine op_skip (g_no rfl rfl rfl g6) ?_
      refine o_pkFc rfl g6 rfl ?_
      refine ops_nil ?_
      exact ⟨by (repeat (first | with_reducible exact offM_refl _ _ | refine offM_updc rfl ?_ | refine offM_upd rfl ?_ | refine offM_updo rfl ?_ | refine offM_updo_none ?_ | refine offM_head rfl rfl ?_)), congrArg (fun b => [Value.bool b]) (by have e := of_decide_eq_false g6; symm; apply decide_eq_false; exact fun hh => e hh.1), rfl⟩
  · rintro J12 vs w12 ⟨rfl, rfl⟩ -
    refine W_cond_p rfl (fun h13 => ?_) (fun h13 => ?_)
    · refine W_seq ?_
      refine W_region ?_
      refine op_run (r_buildA (blkR Bk.zero) (_) ([]) rfl rfl rfl rfl rfl (rfl)) rfl ?_
      refine o_storeA (cs := blkR Bk.zero) rfl rfl (by first | rfl | exact binV_one _ | exact dgR_one _ | exact refR_one _ | exact secR_one _ | exact all_c8 _ | exact blkR_one _) (by first | rfl | (rw [binV_len]; rfl) | (rw [dgR_len]; rfl) | (rw [refR_len]; rfl) | (rw [secR_len]; rfl) | (rw [List.length_map, tagF_len]; rfl) | (rw [blkR_len]; rfl)) hB14 (by exact Nat.le_of_eq (by simp [blkR_len])) rfl ?_; intro w15 hB15 hk15 hs15
      refine o_asc rfl ?_
      refine o_asc rfl ?_
      refine ops_nil ?_
      refine W_ret ?_
      refine retATT ((blkR Bk.zero)) ((.bool false)) ((.int .i64 10)) rfl rfl rfl rfl rfl rfl (by first | rfl | (rw [binV_len]; rfl) | (rw [dgR_len]; rfl) | (rw [refR_len]; rfl) | (rw [secR_len]; rfl) | (rw [List.length_map, tagF_len]; rfl) | (rw [blkR_len]; rfl)) ((bk_st hB15).all) ?_
      have e : chgV (abs l) nm n = RV.no 10 := by unfold chgV; rw [hg, if_pos h13]
      exact ⟨by rw [e]; rfl, hk04.new hk15 (by omega)⟩
    · refine W_skip ?_
      refine W_seq ?_
      refine W_region ?_
      refine op_run (r_loadA (blkR g.f) rfl rfl rfl (by first | rfl | (rw [binV_len]; rfl) | (rw [dgR_len]; rfl) | (rw [refR_len]; rfl) | (rw [secR_len]; rfl) | (rw [List.length_map, tagF_len]; rfl) | (rw [blkR_len]; rfl)) (hB4'.all)) rfl ?_
      refine o_mvt rfl ?_
      refine o_mvt rfl ?_
      refine o_storeA (cs := blkR g.f) rfl rfl (by first | rfl | exact binV_one _ | exact dgR_one _ | exact refR_one _ | exact secR_one _ | exact all_c8 _ | exact blkR_one _) (by first | rfl | (rw [binV_len]; rfl) | (rw [dgR_len]; rfl) | (rw [refR_len]; rfl) | (rw [secR_len]; rfl) | (rw [List.length_map, tagF_len]; rfl) | (rw [blkR_len]; rfl)) hB14 (by exact Nat.le_of_eq (by simp [blkR_len])) rfl ?_; intro w18 hB18 hk18 hs18
      refine o_ast rfl ?_
      refine o_ast rfl ?_
      refine ops_nil ?_
      refine W_ret ?_
      refine retATT ((blkR g.f)) ((.bool g.t)) ((.int .i64 g.e)) rfl rfl rfl rfl rfl rfl (by first | rfl | (rw [binV_len]; rfl) | (rw [dgR_len]; rfl) | (rw [refR_len]; rfl) | (rw [secR_len]; rfl) | (rw [List.length_map, tagF_len]; rfl) | (rw [blkR_len]; rfl)) ((bk_st hB18).all) ?_
      have e : chgV (abs l) nm n = g := by unfold chgV; rw [hg, if_neg h13]
      exact ⟨by rw [e]; rfl, hk04.new hk18 (by omega)⟩
/-- What Put and Drop do. -/
def putR (l : AL) (nm : List UInt8) (n : Int) (b : Bk) : RV × AL :=
  if (chgV l nm n).e ≠ 0 then (chgV l nm n, l) else
  match lookP l nm with
  | none => (chgV l nm n, l)
  | some v => if lookP v.bl n = none ∧ v.q ≤ v.bl.length then (⟨(chgV l nm n).f, (chgV l nm n).t, 8⟩, l) else (chgV l nm n, putA l nm (setP v.bl n b))
def dropR (l : AL) (nm : List UInt8) (n : Int) : RV × AL :=
  if (chgV l nm n).e ≠ 0 then (chgV l nm n, l) else
  match lookP l nm with
  | none => (chgV l nm n, l)
  | some v => (chgV l nm n, putA l nm (delP v.bl n))
theorem putR_err {l : AL} {nm : List UInt8} {n : Int} {b : Bk} (h : (chgV l nm n).e ≠ 0) : putR l nm n b = (chgV l nm n, l) := if_pos h
theorem putR_some {l : AL} {nm : List UInt8} {n : Int} {b : Bk} {v : VA} (h : (chgV l nm n).e = 0) (hv : lookP l nm = some v) : putR l nm n b = if lookP v.bl n = none ∧ v.q ≤ v.bl.length then (⟨(chgV l nm n).f, (chgV l nm n).t, 8⟩, l) else (chgV l nm n, putA l nm (setP v.bl n b)) := by
  unfold putR; rw [if_neg (by rw [h]; decide), hv]
theorem dropR_err {l : AL} {nm : List UInt8} {n : Int} (h : (chgV l nm n).e ≠ 0) : dropR l nm n = (chgV l nm n, l) := if_pos h
theorem dropR_some {l : AL} {nm : List UInt8} {n : Int} {v : VA} (h : (chgV l nm n).e = 0) (hv : lookP l nm = some v) : dropR l nm n = (chgV l nm n, putA l nm (delP v.bl n)) := by
  unfold dropR; rw [if_neg (by rw [h]; decide), hv]
theorem ModS.putS {w w1 w' : World} {mb bm : Nat} {l : ModL} {nm : List UInt8} {v : Vol} {bl : List (Int × Bk)} (h : ModW w mb bm l) (hk1 : Keep All w w1) (hv : lookP l nm = some v) (hM : MapG intK w' v.xa (mapP bkV bl)) (hk : Keep (· ≠ v.xa) w1 w') : ModS w mb bm l w' (putV l nm bl) := by
  have hB : ModB bm l v.xa := .inr ⟨_, lookP_mem hv, rfl⟩
  refine ⟨(h.k hk1).put hv hM hk, (hk1.all.trans hk).mono fun z _ hz e => hz (by rw [e]; exact hB), fun z hz => .inl (putV_B.1 hz)⟩
theorem vl_Put (w : World) (mb bm : Nat) (l : ModL) (nm : List UInt8) (n : Int) (b : Bk) (h : ModW w mb bm l) : Ret Tryz.prog 19 [.pointer (some ⟨mb, 0, none⟩), strA nm, .int .i64 n, .agg (blkR b).toArray].toArray w fun r w' => r = (putR (abs l) nm n b).1.v ∧ ∃ l', abs l' = (putR (abs l) nm n b).2 ∧ ModS w mb bm l w' l' := by
  refine enter (fn := Tryz.f19) (n := 52) Tryz.func19 rfl rfl (by simp) ?_
  refine W_seq ?_
  refine W_region ?_
  refine o_box rfl rfl rfl ?_; intro w1 b1 e1 hB1 hk1 hs1
  have hB1' : Blk w1 b1 (blkR b) 29 := hB1
  refine o_alloc rfl rfl rfl ?_; intro w2 b2 e2 hB2 hk2 hs2
  have hB2' : Blk w2 b2 (blkR Bk.zero) 29 := hB2
  have hk02 := hk1.trans hk2
  have hB12 := hk2.blk' hB1' trivial
  refine o_asc rfl ?_
  refine o_asc rfl ?_
  refine ops_nil ?_
  refine W_seq ?_
  refine W_region ?_
  refine o_mvt rfl ?_
  refine o_mvt rfl ?_
  refine o_mvt rfl ?_
  refine op_call rfl rfl rfl (vl_change w2 mb bm l nm n (h.k hk02)) ?_; rintro v3 w3 ⟨rfl, hk3⟩
  have hk03 := hk02.trans hk3
  have hB13 := hk3.blk' hB12 trivial
  have hB23 := hk3.blk' hB2' trivial
  have hz1 := hk1.size
  have hlt1 := hB1'.lt
  have hlt2 := hB23.lt
  obtain ⟨g, hg⟩ : ∃ g, chgV (abs l) nm n = g := ⟨_, rfl⟩
  rw [hg]
  refine o_mvt rfl ?_
  refine op_run (r_extract rfl rfl) rfl ?_
  refine op_run (r_extract rfl rfl) rfl ?_
  refine op_run (r_extract rfl rfl) rfl ?_
  refine o_alloc rfl rfl rfl ?_; intro w4 b4 e4 hB4 hk4 hs4
  have hB4' : Blk w4 b4 (blkR Bk.zero) 29 := hB4
  refine o_storeA (cs := blkR g.f) rfl rfl (by first | rfl | exact binV_one _ | exact dgR_one _ | exact refR_one _ | exact secR_one _ | exact all_c8 _ | exact blkR_one _ | exact volR_one rfl) (by first | rfl | (rw [binV_len]; rfl) | (rw [dgR_len]; rfl) | (rw [refR_len]; rfl) | (rw [secR_len]; rfl) | (rw [List.length_map, tagF_len]; rfl) | (rw [blkR_len]; rfl)) hB4' (by exact Nat.le_of_eq (by simp [blkR_len])) rfl ?_; intro w5 hB5 hk5 hs5
  have hB5' := bk_st hB5
  have hB25 := hk5.blk' (hk4.blk' hB23 trivial) (show b2 ≠ b4 by omega)
  have hB15 := hk5.blk' (hk4.blk' hB13 trivial) (show b1 ≠ b4 by omega)
  have hk05 := (hk03.trans hk4).new hk5 (by have := hk03.size; omega)
  refine o_ast rfl ?_
  refine o_ast rfl ?_
  refine ops_nil ?_
  refine W_seq ?_
  refine W_seq ?_
  refine W_region ?_
  refine o_mvt rfl ?_
  refine op_run (r_neq rfl rfl) rfl ?_
  refine ops_nil ?_
  refine W_cond_p rfl (fun h6 => ?_) (fun h6 => ?_)
  · refine W_seq ?_
    refine W_region ?_
    refine op_run (r_loadA (blkR g.f) rfl rfl rfl (by first | rfl | (rw [binV_len]; rfl) | (rw [dgR_len]; rfl) | (rw [refR_len]; rfl) | (rw [secR_len]; rfl) | (rw [List.length_map, tagF_len]; rfl) | (rw [blkR_len]; rfl)) (hB5'.all)) rfl ?_
    refine o_mvt rfl ?_
    refine o_mvt rfl ?_
    refine o_storeA (cs := blkR g.f) rfl rfl (by first | rfl | exact binV_one _ | exact dgR_one _ | exact refR_one _ | exact secR_one _ | exact all_c8 _ | exact blkR_one _ | exact volR_one rfl) (by first | rfl | (rw [binV_len]; rfl) | (rw [dgR_len]; rfl) | (rw [refR_len]; rfl) | (rw [secR_len]; rfl) | (rw [List.length_map, tagF_len]; rfl) | (rw [blkR_len]; rfl)) hB25 (by exact Nat.le_of_eq (by simp [blkR_len])) rfl ?_; intro w8 hB8 hk8 hs8
    refine o_ast rfl ?_
    refine o_ast rfl ?_
    refine ops_nil ?_
    refine W_ret ?_
    refine retATT ((blkR g.f)) ((.bool g.t)) ((.int .i64 g.e)) rfl rfl rfl rfl rfl rfl (by first | rfl | (rw [binV_len]; rfl) | (rw [dgR_len]; rfl) | (rw [refR_len]; rfl) | (rw [secR_len]; rfl) | (rw [List.length_map, tagF_len]; rfl) | (rw [blkR_len]; rfl)) ((bk_st hB8).all) ?_
    have e : putR (abs l) nm n b = (g, abs l) := by rw [putR_err (by rw [hg]; exact h6), hg]
    rw [e]
    exact ⟨rfl, l, rfl, ModS.same h (hk05.new hk8 (by omega))⟩
  · refine W_skip ?_
    refine W_seq ?_
    refine W_region ?_
    refine o_mvt rfl ?_
    refine op_run (r_nilCheck rfl) rfl ?_
    refine op_run (r_fieldAddr rfl rfl rfl rfl rfl) rfl ?_
    have he0 : g.e = 0 := Classical.byContradiction fun hh => h6 hh
    obtain ⟨va, hva, _, _, _, hgv⟩ := chgV_ok (l := abs l) (nm := nm) (n := n) (by rw [hg]; exact he0)
    obtain ⟨v, hv, rfl⟩ : ∃ v, lookP l nm = some v ∧ v.a = va := by
      rw [look_abs] at hva
      cases hv : lookP l nm with
      | none => rw [hv] at hva; cases hva
      | some v => rw [hv] at hva; exact ⟨v, rfl, Option.some.inj hva⟩
    have hlk := look_ptr hv
    rw [hg] at hgv
    have hV5 := (h.k hk05).v _ (lookP_mem hv)
    refine op_run (r_load rfl rfl rfl ((h.k hk05).m.cell rfl)) rfl ?_
    refine o_mvt rfl ?_
    refine op_run ((r_lookupG (a := nm) (keyOk_strA rfl) rfl rfl rfl ti_ptrV ((h.k hk05).vs)).val (hlk)) rfl ?_
    refine o_alloc rfl rfl rfl ?_; intro w12 b12 e12 hB12 hk12 hs12
    have hB12v : Blk w12 b12 (volR 0 false (.map none)) 66 := hB12
    refine o_storeA (cs := volR v.q v.fr (.map (some v.xa))) rfl rfl (by first | rfl | exact binV_one _ | exact dgR_one _ | exact refR_one _ | exact secR_one _ | exact all_c8 _ | exact blkR_one _ | exact volR_one rfl) (by first | rfl | (rw [binV_len]; rfl) | (rw [dgR_len]; rfl) | (rw [refR_len]; rfl) | (rw [secR_len]; rfl) | (rw [List.length_map, tagF_len]; rfl) | (rw [blkR_len]; rfl)) hB12v (by show 0 + 3 ≤ 3; decide) rfl ?_; intro w13 hB13 hk13 hs13
    have hB13v : Blk w13 b12 (volR v.q v.fr (.map (some v.xa))) 66 := hB13
    have hk0D := (hk05.trans hk12).new hk13 (by have := hk05.size; omega)
    have hz5 := hk05.size
    have hlt25 := hB25.lt
    have hlt15 := hB15.lt
    have hlt55 := hB5'.lt
    have hB5D := hk13.blk' (hk12.blk' hB5' trivial) (show b4 ≠ b12 by omega)
    have hB2D := hk13.blk' (hk12.blk' hB25 trivial) (show b2 ≠ b12 by omega)
    have hB1D := hk13.blk' (hk12.blk' hB15 trivial) (show b1 ≠ b12 by omega)
    have hVD := (h.k hk0D).v _ (lookP_mem hv)
    refine ops_nil ?_
    refine W_seq ?_
    refine W_cut [43] [34, 35, 36, 37, 38, 39, 40, 41, 42, 43] (fun vs w14 => vs = [.bool (decide (lookP v.bl n = none ∧ v.q ≤ v.bl.length))] ∧ w14 = w13) ?_ ?_
    · refine W_region ?_
      refine o_mvt rfl ?_
      refine op_run (r_not rfl) rfl ?_
      refine o_mvt rfl ?_
      refine g_split rfl rfl rfl (fun g15 => ?_) (fun g15 => ?_)
      · refine op_run (r_fieldAddr rfl rfl rfl rfl rfl) (g_yes rfl rfl rfl (by rw [g15] <;> rfl)) ?_
        refine op_run (r_load rfl rfl rfl (hB13v.cell rfl)) (g_yes rfl rfl rfl (by rw [g15] <;> rfl)) ?_
        refine op_run (r_lenMapG rfl rfl (hVD.2)) (g_yes rfl rfl rfl (by rw [g15] <;> rfl)) ?_
        refine op_run (r_fieldAddr rfl rfl rfl rfl rfl) (g_yes rfl rfl rfl (by rw [g15] <;> rfl)) ?_
        refine op_run (r_load rfl rfl rfl (hB13v.cell rfl)) (g_yes rfl rfl rfl (by rw [g15] <;> rfl)) ?_
        refine op_run (r_geq rfl rfl) (g_yes rfl rfl rfl (by rw [g15] <;> rfl)) ?_
        refine o_pkTt rfl (by rw [g15] <;> rfl) rfl ?_
        refine ops_nil ?_
        exact ⟨by (repeat (first | with_reducible exact offM_refl _ _ | refine offM_updc rfl ?_ | refine offM_upd rfl ?_ | refine offM_updo rfl ?_ | refine offM_updo_none ?_ | refine offM_head rfl rfl ?_)), congrArg (fun b => [Value.bool b]) (by have e : g.t = false := (by simpa using g15); rw [hgv] at e; have e : (lookP v.bl n).isSome = false := e; have e2 : lookP v.bl n = none := Option.isNone_iff_eq_none.1 (by cases hh : lookP v.bl n with | none => rfl | some x => rw [hh] at e; cases e); rw [show (mapP bkV v.bl).length = v.bl.length by unfold mapP; simp, decide_eq_decide]; exact ⟨fun h => ⟨e2, h⟩, fun h => h.2⟩), rfl⟩
      · refine op_skip (g_no rfl rfl rfl (by rw [g15] <;> rfl)) ?_
        refine op_skip (g_no rfl rfl rfl (by rw [g15] <;> rfl)) ?_
        refine op_skip (g_no rfl rfl rfl (by rw [g15] <;> rfl)) ?_
        refine op_skip (g_no rfl rfl rfl (by rw [g15] <;> rfl)) ?_
        refine op_skip (g_no rfl rfl rfl (by rw [g15] <;> rfl)) ?_
        refine op_skip (g_no rfl rfl rfl (by rw [g15] <;> rfl)) ?_
        refine o_pkFc rfl (by rw [g15] <;> rfl) rfl ?_
        refine ops_nil ?_
        exact ⟨by (repeat (first | with_reducible exact offM_refl _ _ | refine offM_updc rfl ?_ | refine offM_upd rfl ?_ | refine offM_updo rfl ?_ | refine offM_updo_none ?_ | refine offM_head rfl rfl ?_)), congrArg (fun b => [Value.bool b]) (by have e : g.t = true := (by simpa using g15); rw [hgv] at e; have e : (lookP v.bl n).isSome = true := e; symm; apply decide_eq_false; rintro ⟨h1, _⟩; rw [h1] at e; cases e), rfl⟩
    · rintro J21 vs w21 ⟨rfl, rfl⟩ -
      refine W_cond_p rfl (fun h22 => ?_) (fun h22 => ?_)
      · refine W_seq ?_
        refine W_region ?_
        refine op_run (r_loadA (blkR g.f) rfl rfl rfl (by first | rfl | (rw [binV_len]; rfl) | (rw [dgR_len]; rfl) | (rw [refR_len]; rfl) | (rw [secR_len]; rfl) | (rw [List.length_map, tagF_len]; rfl) | (rw [blkR_len]; rfl)) (hB5D.all)) rfl ?_
        refine o_mvt rfl ?_
        refine o_storeA (cs := blkR g.f) rfl rfl (by first | rfl | exact binV_one _ | exact dgR_one _ | exact refR_one _ | exact secR_one _ | exact all_c8 _ | exact blkR_one _ | exact volR_one rfl) (by first | rfl | (rw [binV_len]; rfl) | (rw [dgR_len]; rfl) | (rw [refR_len]; rfl) | (rw [secR_len]; rfl) | (rw [List.length_map, tagF_len]; rfl) | (rw [blkR_len]; rfl)) hB2D (by exact Nat.le_of_eq (by simp [blkR_len])) rfl ?_; intro w24 hB24 hk24 hs24
        refine o_ast rfl ?_
        refine o_asc rfl ?_
        refine ops_nil ?_
        refine W_ret ?_
        refine retATT ((blkR g.f)) ((.bool g.t)) ((.int .i64 8)) rfl rfl rfl rfl rfl rfl (by first | rfl | (rw [binV_len]; rfl) | (rw [dgR_len]; rfl) | (rw [refR_len]; rfl) | (rw [secR_len]; rfl) | (rw [List.length_map, tagF_len]; rfl) | (rw [blkR_len]; rfl)) ((bk_st hB24).all) ?_
        have e : putR (abs l) nm n b = (⟨g.f, g.t, 8⟩, abs l) := (putR_some (by rw [hg]; exact he0) hva).trans ((if_pos h22).trans (by rw [hg]))
        rw [e]
        exact ⟨rfl, l, rfl, ModS.same h (hk0D.new hk24 (by omega))⟩
      · refine W_skip ?_
        refine W_seq ?_
        refine W_region ?_
        refine op_run (r_fieldAddr rfl rfl rfl rfl rfl) rfl ?_
        refine op_run (r_load rfl rfl rfl (hB13v.cell rfl)) rfl ?_
        refine o_mvt rfl ?_
        refine op_run (r_loadA (blkR b) rfl rfl rfl (by first | rfl | (rw [binV_len]; rfl) | (rw [dgR_len]; rfl) | (rw [refR_len]; rfl) | (rw [secR_len]; rfl) | (rw [List.length_map, tagF_len]; rfl) | (rw [blkR_len]; rfl)) (hB1D.all)) rfl ?_
        refine o_mapUpdG (a := n) (v := (bkV b)) (keyOk_int rfl) rfl rfl rfl rfl (hVD.2) rfl ?_; intro w28 hM28 hk28 hs28
        have hne : ∀ {x : Nat} {cs : List Value} {t : TypeId}, Blk w21 x cs t → x ≠ v.xa := fun hB => hB.ne_map hVD.2
        refine ops_nil ?_
        refine W_seq ?_
        refine W_region ?_
        refine op_run (r_loadA (blkR g.f) rfl rfl rfl (by first | rfl | (rw [binV_len]; rfl) | (rw [dgR_len]; rfl) | (rw [refR_len]; rfl) | (rw [secR_len]; rfl) | (rw [List.length_map, tagF_len]; rfl) | (rw [blkR_len]; rfl)) ((hk28.blk' hB5D (hne hB5D)).all)) rfl ?_
        refine o_mvt rfl ?_
        refine o_storeA (cs := blkR g.f) rfl rfl (by first | rfl | exact binV_one _ | exact dgR_one _ | exact refR_one _ | exact secR_one _ | exact all_c8 _ | exact blkR_one _ | exact volR_one rfl) (by first | rfl | (rw [binV_len]; rfl) | (rw [dgR_len]; rfl) | (rw [refR_len]; rfl) | (rw [secR_len]; rfl) | (rw [List.length_map, tagF_len]; rfl) | (rw [blkR_len]; rfl)) (hk28.blk' hB2D (hne hB2D)) (by exact Nat.le_of_eq (by simp [blkR_len])) rfl ?_; intro w30 hB30 hk30 hs30
        refine o_ast rfl ?_
        refine o_asc rfl ?_
        refine ops_nil ?_
        refine W_ret ?_
        refine retATT ((blkR g.f)) ((.bool g.t)) ((.int .i64 0)) rfl rfl rfl rfl rfl rfl (by first | rfl | (rw [binV_len]; rfl) | (rw [dgR_len]; rfl) | (rw [refR_len]; rfl) | (rw [secR_len]; rfl) | (rw [List.length_map, tagF_len]; rfl) | (rw [blkR_len]; rfl)) ((bk_st hB30).all) ?_
        have e : putR (abs l) nm n b = (g, putA (abs l) nm (setP v.bl n b)) := (putR_some (by rw [hg]; exact he0) hva).trans ((if_neg h22).trans (by rw [hg]; rfl))
        rw [e]
        rw [setA_map] at hM28
        have hS := ModS.putS h hk0D hv hM28 hk28
        refine ⟨by show _ = RV.v g; unfold RV.v; rw [he0], putV l nm (setP v.bl n b), putV_abs _ _ _, hS.st (hk28.blk' hB2D (hne hB2D)) (by decide) hk30 (by omega)⟩
theorem vl_Drop (w : World) (mb bm : Nat) (l : ModL) (nm : List UInt8) (n : Int) (h : ModW w mb bm l) : Ret Tryz.prog 21 [.pointer (some ⟨mb, 0, none⟩), strA nm, .int .i64 n].toArray w fun r w' => r = (dropR (abs l) nm n).1.v ∧ ∃ l', abs l' = (dropR (abs l) nm n).2 ∧ ModS w mb bm l w' l' := by
  refine enter (fn := Tryz.f21) (n := 33) Tryz.func21 rfl rfl (by simp) ?_
  refine W_seq ?_
  refine W_region ?_
  refine o_alloc rfl rfl rfl ?_; intro w1 b1 e1 hB1 hk1 hs1
  have hB1' : Blk w1 b1 (blkR Bk.zero) 29 := hB1
  refine o_asc rfl ?_
  refine o_asc rfl ?_
  refine ops_nil ?_
  refine W_seq ?_
  refine W_region ?_
  refine o_mvt rfl ?_
  refine o_mvt rfl ?_
  refine o_mvt rfl ?_
  refine op_call rfl rfl rfl (vl_change w1 mb bm l nm n (h.k hk1)) ?_; rintro v2 w2 ⟨rfl, hk2⟩
  have hk02 := hk1.trans hk2
  have hB2 := hk2.blk' hB1' trivial
  have hlt2 := hB2.lt
  obtain ⟨g, hg⟩ : ∃ g, chgV (abs l) nm n = g := ⟨_, rfl⟩
  rw [hg]
  refine o_mvt rfl ?_
  refine op_run (r_extract rfl rfl) rfl ?_
  refine op_run (r_extract rfl rfl) rfl ?_
  refine op_run (r_extract rfl rfl) rfl ?_
  refine o_alloc rfl rfl rfl ?_; intro w3 b3 e3 hB3 hk3 hs3
  have hB3' : Blk w3 b3 (blkR Bk.zero) 29 := hB3
  refine o_storeA (cs := blkR g.f) rfl rfl (by first | rfl | exact binV_one _ | exact dgR_one _ | exact refR_one _ | exact secR_one _ | exact all_c8 _ | exact blkR_one _) (by first | rfl | (rw [binV_len]; rfl) | (rw [dgR_len]; rfl) | (rw [refR_len]; rfl) | (rw [secR_len]; rfl) | (rw [List.length_map, tagF_len]; rfl) | (rw [blkR_len]; rfl)) hB3' (by exact Nat.le_of_eq (by simp [blkR_len])) rfl ?_; intro w4 hB4 hk4 hs4
  have hB4' := bk_st hB4
  have hB14 := hk4.blk' (hk3.blk' hB2 trivial) (show b1 ≠ b3 by omega)
  have hk04 := (hk02.trans hk3).new hk4 (by have := hk02.size; omega)
  refine o_ast rfl ?_
  refine o_ast rfl ?_
  refine ops_nil ?_
  refine W_seq ?_
  refine W_seq ?_
  refine W_region ?_
  refine o_mvt rfl ?_
  refine op_run (r_eql rfl rfl) rfl ?_
  refine ops_nil ?_
  refine W_cond_p rfl (fun h5 => ?_) (fun h5 => ?_)
  · refine W_region ?_
    refine o_mvt rfl ?_
    refine op_run (r_nilCheck rfl) rfl ?_
    refine op_run (r_fieldAddr rfl rfl rfl rfl rfl) rfl ?_
    obtain ⟨va, hva, _, _, _, hgv⟩ := chgV_ok (l := abs l) (nm := nm) (n := n) (by rw [hg]; exact h5)
    obtain ⟨v, hv, rfl⟩ : ∃ v, lookP l nm = some v ∧ v.a = va := by
      rw [look_abs] at hva
      cases hv : lookP l nm with
      | none => rw [hv] at hva; cases hva
      | some v => rw [hv] at hva; exact ⟨v, rfl, Option.some.inj hva⟩
    have hlk := look_ptr hv
    have hVD := (h.k hk04).v _ (lookP_mem hv)
    refine op_run (r_load rfl rfl rfl ((h.k hk04).m.cell rfl)) rfl ?_
    refine o_mvt rfl ?_
    refine op_run ((r_lookupG (a := nm) (keyOk_strA rfl) rfl rfl rfl ti_ptrV ((h.k hk04).vs)).val (hlk)) rfl ?_
    refine op_run (r_field1 rfl rfl rfl rfl rfl (rfl)) rfl ?_
    refine o_mvt rfl ?_
    refine o_mapDelG (a := n) (keyOk_int rfl) rfl rfl rfl (hVD.2) rfl ?_; intro w9 hM9 hk9 hs9
    have hne : ∀ {x : Nat} {cs : List Value} {t : TypeId}, Blk w4 x cs t → x ≠ v.xa := fun hB => hB.ne_map hVD.2
    refine ops_nil ?_
    refine W_seq ?_
    refine W_region ?_
    refine op_run (r_loadA (blkR g.f) rfl rfl rfl (by first | rfl | (rw [binV_len]; rfl) | (rw [dgR_len]; rfl) | (rw [refR_len]; rfl) | (rw [secR_len]; rfl) | (rw [List.length_map, tagF_len]; rfl) | (rw [blkR_len]; rfl)) ((hk9.blk' hB4' (hne hB4')).all)) rfl ?_
    refine o_mvt rfl ?_
    refine o_mvt rfl ?_
    refine o_storeA (cs := blkR g.f) rfl rfl (by first | rfl | exact binV_one _ | exact dgR_one _ | exact refR_one _ | exact secR_one _ | exact all_c8 _ | exact blkR_one _) (by first | rfl | (rw [binV_len]; rfl) | (rw [dgR_len]; rfl) | (rw [refR_len]; rfl) | (rw [secR_len]; rfl) | (rw [List.length_map, tagF_len]; rfl) | (rw [blkR_len]; rfl)) (hk9.blk' hB14 (hne hB14)) (by exact Nat.le_of_eq (by simp [blkR_len])) rfl ?_; intro w11 hB11 hk11 hs11
    refine o_ast rfl ?_
    refine o_ast rfl ?_
    refine ops_nil ?_
    refine W_ret ?_
    refine retATT ((blkR g.f)) ((.bool g.t)) ((.int .i64 g.e)) rfl rfl rfl rfl rfl rfl (by first | rfl | (rw [binV_len]; rfl) | (rw [dgR_len]; rfl) | (rw [refR_len]; rfl) | (rw [secR_len]; rfl) | (rw [List.length_map, tagF_len]; rfl) | (rw [blkR_len]; rfl)) ((bk_st hB11).all) ?_
    have e : dropR (abs l) nm n = (g, putA (abs l) nm (delP v.bl n)) := by rw [dropR_some (by rw [hg]; exact h5) hva, hg]; rfl
    rw [e]
    rw [delP_map] at hM9
    have hS := ModS.putS h hk04 hv hM9 hk9
    exact ⟨rfl, putV l nm (delP v.bl n), putV_abs _ _ _, hS.st (hk9.blk' hB14 (hne hB14)) (by decide) hk11 (by omega)⟩
  · refine W_skip ?_
    refine W_seq ?_
    refine W_region ?_
    refine op_run (r_loadA (blkR g.f) rfl rfl rfl (by first | rfl | (rw [binV_len]; rfl) | (rw [dgR_len]; rfl) | (rw [refR_len]; rfl) | (rw [secR_len]; rfl) | (rw [List.length_map, tagF_len]; rfl) | (rw [blkR_len]; rfl)) (hB4'.all)) rfl ?_
    refine o_mvt rfl ?_
    refine o_mvt rfl ?_
    refine o_storeA (cs := blkR g.f) rfl rfl (by first | rfl | exact binV_one _ | exact dgR_one _ | exact refR_one _ | exact secR_one _ | exact all_c8 _ | exact blkR_one _) (by first | rfl | (rw [binV_len]; rfl) | (rw [dgR_len]; rfl) | (rw [refR_len]; rfl) | (rw [secR_len]; rfl) | (rw [List.length_map, tagF_len]; rfl) | (rw [blkR_len]; rfl)) hB14 (by exact Nat.le_of_eq (by simp [blkR_len])) rfl ?_; intro w14 hB14 hk14 hs14
    refine o_ast rfl ?_
    refine o_ast rfl ?_
    refine ops_nil ?_
    refine W_ret ?_
    refine retATT ((blkR g.f)) ((.bool g.t)) ((.int .i64 g.e)) rfl rfl rfl rfl rfl rfl (by first | rfl | (rw [binV_len]; rfl) | (rw [dgR_len]; rfl) | (rw [refR_len]; rfl) | (rw [secR_len]; rfl) | (rw [List.length_map, tagF_len]; rfl) | (rw [blkR_len]; rfl)) ((bk_st hB14).all) ?_
    have e : dropR (abs l) nm n = (g, abs l) := by rw [dropR_err (by rw [hg]; exact h5), hg]
    rw [e]
    exact ⟨rfl, l, rfl, ModS.same h (hk04.new hk14 (by omega))⟩
end Go.Proofs.YtkmciohghhffnaaGreat.B
