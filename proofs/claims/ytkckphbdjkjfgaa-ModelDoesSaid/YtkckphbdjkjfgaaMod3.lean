/-
  model: find, block.
-/
import Derived.Test.YtkckphbdjkjfgaaMod2
import Derived.Test.YtkckphbdjkjfgaaModW
namespace Go.Proofs.Ytkckphbdjkjfgaa.B
open Go
set_option linter.unusedVariables false
set_option maxHeartbeats 2000000
set_option maxRecDepth 100000
attribute [local irreducible] W OpsW OpsQ retP
def findE (l : ModL) (o : OpV) : Int := match lookP l o.name with
  | none => 5
  | some v => if o.number < 0 ∨ 1048576 ≤ o.number then 2 else if v.fr = true ∧ o.kind ≠ 5 then 10 else 0
def findP (l : ModL) (o : OpV) : Value := if findE l o = 0 then (match lookP l o.name with | none => .pointer none | some v => ptrV v) else .pointer none
theorem findE_none {l : ModL} {o : OpV} (h : lookP l o.name = none) : findE l o = 5 := by unfold findE; rw [h]
theorem findE_some {l : ModL} {o : OpV} {v : Vol} (h : lookP l o.name = some v) : findE l o = if o.number < 0 ∨ 1048576 ≤ o.number then 2 else if v.fr = true ∧ o.kind ≠ 5 then 10 else 0 := by unfold findE; rw [h]
theorem findP_bad {l : ModL} {o : OpV} (h : findE l o ≠ 0) : findP l o = .pointer none := if_neg h
theorem findP_ok {l : ModL} {o : OpV} {v : Vol} (h : findE l o = 0) (hv : lookP l o.name = some v) : findP l o = ptrV v := by unfold findP; rw [if_pos h, hv]
theorem findE_ok {l : ModL} {o : OpV} (h : findE l o = 0) : ∃ v, lookP l o.name = some v ∧ 0 ≤ o.number ∧ o.number < 1048576 ∧ (v.fr = true → o.kind = 5) := by
  cases hv : lookP l o.name with
  | none => rw [findE_none hv] at h; cases h
  | some v =>
    rw [findE_some hv] at h
    split at h
    · cases h
    · rename_i h1
      split at h
      · cases h
      · rename_i h2
        exact ⟨v, rfl, by omega, by omega, fun hf => Classical.byContradiction fun hk => h2 ⟨hf, hk⟩⟩
theorem look_vol (l : ModL) (nm : List UInt8) : ∃ pv th, Value.tuple #[(getA (mapP ptrV l) nm).getD (.pointer none), .bool (getA (mapP ptrV l) nm).isSome] = Value.tuple #[pv, .bool th] ∧ ((th = false ∧ lookP l nm = none) ∨ (th = true ∧ ∃ v, lookP l nm = some v ∧ pv = ptrV v)) := by
  rw [getA_look]
  cases lookP l nm with
  | none => exact ⟨_, _, rfl, .inl ⟨rfl, rfl⟩⟩
  | some v => exact ⟨_, _, rfl, .inr ⟨rfl, v, rfl, rfl⟩⟩
theorem md_find (w : World) (mb bm : Nat) (l : ModL) (o : OpV) (h : ModW w mb bm l) :
    Ret Try.prog 38 [.pointer (some ⟨mb, 0, none⟩), .agg (opR o).toArray].toArray w fun r w' => r = .tuple #[findP l o, .int .i64 (findE l o)] ∧ Keep All w w' := by
  obtain ⟨pv, th, hlk, hth⟩ := look_vol l o.name
  refine enter (fn := Try.f38) (n := 41) Try.func38 rfl rfl (by simp) ?_
  refine W_seq ?_
  refine W_region ?_
  refine o_box rfl rfl rfl ?_; intro w1 b1 e1 hB1 hk1 hs1
  have hB1 : Blk w1 b1 (opR o) 26 := hB1
  have h := h.k hk1
  refine o_asc rfl ?_
  refine o_asc rfl ?_
  refine ops_nil ?_
  refine W_seq ?_
  refine W_quiet (Keep All w1) (by kernel_rfl) (by kernel_rfl) (Keep.drawn _) ?_
  refine q_mvt rfl ?_
  refine q_run (fun _ _ => (r_nilCheck rfl)) rfl ?_
  refine q_run (fun _ _ => (r_fieldAddr rfl rfl rfl rfl rfl)) rfl ?_
  refine q_run (fun _ hk => r_load rfl rfl rfl (hk.cell (h.m.cell rfl) trivial)) rfl ?_
  refine q_run (fun _ _ => (r_fieldAddr rfl rfl rfl rfl rfl)) rfl ?_
  refine q_run (fun _ hk => r_load rfl rfl rfl (hk.cell (hB1.cell rfl) trivial)) rfl ?_
  refine q_run (fun _ hk => (r_lookupGok (a := o.name) (keyOk_strA rfl) rfl rfl rfl ti_ptrV ((h.vs.keep hk trivial))).val (hlk)) rfl ?_
  refine q_mvt rfl ?_
  refine q_run (fun _ _ => (r_extract rfl rfl)) rfl ?_
  refine q_run (fun _ _ => (r_extract rfl rfl)) rfl ?_
  refine q_ast rfl ?_
  refine q_ast rfl ?_
  refine q_nil ?_; intro w6 hk6
  refine W_seq ?_
  refine W_block ?_
  refine W_seq ?_
  refine W_region ?_
  refine o_mvt rfl ?_
  refine op_run (r_not rfl) rfl ?_
  refine o_ast rfl ?_
  refine ops_nil ?_
  refine W_cond rfl (fun h7 => ?_) (fun h7 => ?_)
  · refine W_seq ?_
    refine W_region ?_
    refine o_asc rfl ?_
    refine o_asc rfl ?_
    refine ops_nil ?_
    refine W_ret ?_
    refine ret2 (.pointer none) (.int .i64 5) rfl ?_ ?_ ?_; rfl; rfl
    obtain ⟨rfl, hn⟩ : th = false ∧ lookP l o.name = none := by
      rcases hth with h | ⟨rfl, _⟩
      · exact h
      · cases h7
    have he := findE_none hn
    exact ⟨by rw [findP_bad (by rw [he]; decide), he], hk1.trans hk6⟩
  · obtain ⟨rfl, v, hv, rfl⟩ : th = true ∧ ∃ v, lookP l o.name = some v ∧ pv = ptrV v := by
      rcases hth with ⟨rfl, _⟩ | h
      · cases h7
      · exact h
    have he := findE_some hv
    have hV := (h.v _ (lookP_mem hv)).1
    refine W_cut [21] [21, 22, 23, 24, 25, 26, 27, 28, 29] (fun vs w9 => vs = [.bool (decide (o.number < 0 ∨ 1048576 ≤ o.number))] ∧ w9 = w6) ?_ ?_
    · refine W_region ?_
      refine op_run (r_fieldAddr rfl rfl rfl rfl rfl) rfl ?_
      refine op_run (r_load rfl rfl rfl ((hk6.blk' hB1 trivial).cell rfl)) rfl ?_
      refine op_run (r_lss rfl rfl) rfl ?_
      refine o_mvt rfl ?_
      refine g_split rfl rfl rfl (fun g11 => ?_) (fun g11 => ?_)
      · refine op_run (r_fieldAddr rfl rfl rfl rfl rfl) (g_yes rfl rfl rfl g11) ?_
        refine op_run (r_load rfl rfl rfl ((hk6.blk' hB1 trivial).cell rfl)) (g_yes rfl rfl rfl g11) ?_
        refine op_run (r_geq rfl rfl) (g_yes rfl rfl rfl g11) ?_
        refine o_pkFt rfl g11 rfl ?_
        refine o_ast rfl ?_
        refine ops_nil ?_
        exact ⟨by (repeat (first | with_reducible exact offM_refl _ _ | refine offM_updc rfl ?_ | refine offM_upd rfl ?_ | refine offM_updo rfl ?_ | refine offM_updo_none ?_ | refine offM_head rfl rfl ?_)), congrArg (fun b => [Value.bool b]) (by have g := of_decide_eq_false g11; rw [decide_eq_decide]; constructor <;> intro h <;> omega), rfl⟩
      · refine op_skip (g_no rfl rfl rfl g11) ?_
        refine op_skip (g_no rfl rfl rfl g11) ?_
        refine op_skip (g_no rfl rfl rfl g11) ?_
        refine o_pkTc rfl g11 rfl ?_
        refine o_ast rfl ?_
        refine ops_nil ?_
        exact ⟨by (repeat (first | with_reducible exact offM_refl _ _ | refine offM_updc rfl ?_ | refine offM_upd rfl ?_ | refine offM_updo rfl ?_ | refine offM_updo_none ?_ | refine offM_head rfl rfl ?_)), congrArg (fun b => [Value.bool b]) (by have g := of_decide_eq_true g11; symm; apply decide_eq_true; omega), rfl⟩
    · rintro J15 vs w15 ⟨rfl, rfl⟩ -
      refine W_cond_p rfl (fun h16 => ?_) (fun h16 => ?_)
      · refine W_seq ?_
        refine W_region ?_
        refine o_asc rfl ?_
        refine o_asc rfl ?_
        refine ops_nil ?_
        refine W_ret ?_
        refine ret2 (.pointer none) (.int .i64 2) rfl ?_ ?_ ?_; rfl; rfl
        have he2 : findE l o = 2 := by rw [he, if_pos h16]
        exact ⟨by rw [findP_bad (by rw [he2]; decide), he2], hk1.trans hk6⟩
      · refine W_cut [30] [30, 31, 32, 33, 34, 35, 36, 37, 38, 39] (fun vs w18 => vs = [.bool (decide (v.fr = true ∧ o.kind ≠ 5))] ∧ w18 = w15) ?_ ?_
        · refine W_region ?_
          refine o_mvt rfl ?_
          refine op_run (r_nilCheck rfl) rfl ?_
          refine op_run (r_fieldAddr rfl rfl rfl rfl rfl) rfl ?_
          refine op_run (r_load rfl rfl rfl ((hk6.blk' hV trivial).cell rfl)) rfl ?_
          refine o_mvt rfl ?_
          refine g_split rfl rfl rfl (fun g20 => ?_) (fun g20 => ?_)
          · refine op_run (r_fieldAddr rfl rfl rfl rfl rfl) (g_yes rfl rfl rfl g20) ?_
            refine op_run (r_load rfl rfl rfl ((hk6.blk' hB1 trivial).cell rfl)) (g_yes rfl rfl rfl g20) ?_
            refine op_run (r_neq rfl rfl) (g_yes rfl rfl rfl g20) ?_
            refine o_pkTt rfl g20 rfl ?_
            refine o_ast rfl ?_
            refine ops_nil ?_
            exact ⟨by (repeat (first | with_reducible exact offM_refl _ _ | refine offM_updc rfl ?_ | refine offM_upd rfl ?_ | refine offM_updo rfl ?_ | refine offM_updo_none ?_ | refine offM_head rfl rfl ?_)), congrArg (fun b => [Value.bool b]) (by rw [g20]; simp), rfl⟩
          · refine op_skip (g_no rfl rfl rfl g20) ?_
            refine op_skip (g_no rfl rfl rfl g20) ?_
            refine op_skip (g_no rfl rfl rfl g20) ?_
            refine o_pkFc rfl g20 rfl ?_
            refine o_ast rfl ?_
            refine ops_nil ?_
            exact ⟨by (repeat (first | with_reducible exact offM_refl _ _ | refine offM_updc rfl ?_ | refine offM_upd rfl ?_ | refine offM_updo rfl ?_ | refine offM_updo_none ?_ | refine offM_head rfl rfl ?_)), congrArg (fun b => [Value.bool b]) (by rw [g20]; simp), rfl⟩
        · rintro J24 vs w24 ⟨rfl, rfl⟩ -
          refine W_cond_p rfl (fun h25 => ?_) (fun h25 => ?_)
          · refine W_seq ?_
            refine W_region ?_
            refine o_asc rfl ?_
            refine o_asc rfl ?_
            refine ops_nil ?_
            refine W_ret ?_
            refine ret2 (.pointer none) (.int .i64 10) rfl ?_ ?_ ?_; rfl; rfl
            have he2 : findE l o = 10 := by rw [he, if_neg h16, if_pos h25]
            exact ⟨by rw [findP_bad (by rw [he2]; decide), he2], hk1.trans hk6⟩
          · refine W_skip ?_
            refine W_seq ?_
            refine W_region ?_
            refine o_mvt rfl ?_
            refine o_ast rfl ?_
            refine o_asc rfl ?_
            refine ops_nil ?_
            refine W_ret ?_
            refine ret2 (ptrV v) (.int .i64 0) rfl ?_ ?_ ?_; rfl; rfl
            have he2 : findE l o = 0 := by rw [he, if_neg h16, if_neg h25]
            exact ⟨by rw [findP_ok he2 hv, he2], hk1.trans hk6⟩
theorem blkR_one (s : Bk) : (blkR s).all one = true := by
  rw [List.all_eq_true]; intro v hv
  obtain ⟨b, _, rfl⟩ := List.mem_map.1 hv; rfl
def ansR (e : Int) (t : Bool) (b : Bk) : List Value := [.int .i64 e, .bool t] ++ blkR b ++ [.slice none 0 0]
theorem ansR_len (e : Int) (t : Bool) (b : Bk) : (ansR e t b).length = 51 := by unfold ansR; rw [List.length_append, List.length_append, blkR_len]; rfl
theorem ansR_one (e : Int) (t : Bool) (b : Bk) : (ansR e t b).all one = true := by
  unfold ansR; rw [List.all_append, List.all_append, blkR_one]; rfl
theorem fill_ans {pl : List (Nat × Nat)} {zl : List Value} {t : Bool} {b : Bk} (hp : pl = [(0, 1), (1, 1), (2, 48), (50, 1)]) (hz : zl = ansR 0 false Bk.zero) :
    fillV (fun i => pl[i]?) zl [(1, .bool t), (2, bkV b)] = some (ansR 0 t b) := by
  subst hp; subst hz
  have s0 : (Value.bool t).cells.size = 1 := rfl
  have h0 : (Value.bool t).cells.toList = [.bool t] := rfl
  have s1 : (bkV b).cells.size = 48 := by show (blkR b).toArray.size = 48; simp [blkR_len]
  have h1 : (bkV b).cells.toList = blkR b := rfl
  have e1 : splice (ansR 0 false Bk.zero) 1 [.bool t] = ansR 0 t Bk.zero := rfl
  have e2 : splice (ansR 0 t Bk.zero) 2 (blkR b) = ansR 0 t b := by
    unfold splice ansR
    rw [blkR_len]; rfl
  simp only [fillV, List.getElem?_cons_zero, List.getElem?_cons_succ, h0, s0, h1, s1]
  rw [if_pos ⟨trivial, by rw [ansR_len]; decide⟩]
  simp only [e1]
  rw [if_pos ⟨trivial, by rw [ansR_len]; decide⟩]
  simp only [e2]
/-- An answer. -/
structure Ans where
  e : Int
  t : Bool
  b : Bk
def Ans.no (e : Int) : Ans := ⟨e, false, Bk.zero⟩
def Ans.v (a : Ans) : Value := .agg (ansR a.e a.t a.b).toArray
def blockA (l : ModL) (o : OpV) : Ans × ModL :=
  if findE l o ≠ 0 then (Ans.no (findE l o), l) else
  match lookP l o.name with
  | none => (Ans.no 0, l)
  | some v =>
    if o.kind = 5 then (⟨0, (lookP v.bl o.number).isSome, (lookP v.bl o.number).getD Bk.zero⟩, l)
    else if o.kind = 4 then (Ans.no 0, putV l o.name (delP v.bl o.number))
    else if lookP v.bl o.number = none ∧ v.q ≤ v.bl.length then (Ans.no 8, l)
    else (Ans.no 0, putV l o.name (setP v.bl o.number o.block))
theorem blockA_bad {l : ModL} {o : OpV} (h : findE l o ≠ 0) : blockA l o = (Ans.no (findE l o), l) := if_pos h
theorem blockA_ok {l : ModL} {o : OpV} {v : Vol} (h : findE l o = 0) (hv : lookP l o.name = some v) : blockA l o = if o.kind = 5 then (⟨0, (lookP v.bl o.number).isSome, (lookP v.bl o.number).getD Bk.zero⟩, l)
    else if o.kind = 4 then (Ans.no 0, putV l o.name (delP v.bl o.number))
    else if lookP v.bl o.number = none ∧ v.q ≤ v.bl.length then (Ans.no 8, l)
    else (Ans.no 0, putV l o.name (setP v.bl o.number o.block)) := by
  unfold blockA; rw [if_neg (by simp [h]), hv]
theorem look_blk (bl : List (Int × Bk)) (k : Int) : Value.tuple #[(getA (mapP bkV bl) k).getD (.agg (List.replicate 48 (c8 0)).toArray), .bool (getA (mapP bkV bl) k).isSome] = Value.tuple #[bkV ((lookP bl k).getD Bk.zero), .bool (lookP bl k).isSome] := by
  rw [getA_look, Option.isSome_map]
  cases lookP bl k with
  | none => show Value.tuple #[_, _] = Value.tuple #[.agg (blkR Bk.zero).toArray, _]; rw [blkR_zero]; rfl
  | some v => rfl
theorem md_block (w : World) (mb bm : Nat) (l : ModL) (o : OpV) (h : ModW w mb bm l) :
    Ret Try.prog 25 [.pointer (some ⟨mb, 0, none⟩), .agg (opR o).toArray].toArray w fun r w' => r = (blockA l o).1.v ∧ ModW w' mb bm (blockA l o).2 ∧ Keep (fun z => ¬ ModB bm l z) w w' := by
  obtain ⟨pv, hpv⟩ : ∃ pv, findP l o = pv := ⟨_, rfl⟩
  refine enter (fn := Try.f25) (n := 71) Try.func25 rfl rfl (by simp) ?_
  refine W_seq ?_
  refine W_region ?_
  refine o_box rfl rfl rfl ?_; intro w1 b1 e1 hB1 hk1 hs1
  have hB1 : Blk w1 b1 (opR o) 26 := hB1
  refine o_alloc rfl rfl rfl ?_; intro w2 b2 e2 hB2 hk2 hs2
  have hB2 : Blk w2 b2 (ansR 0 false Bk.zero) 34 := hB2
  have hk02 := hk1.trans hk2
  refine ops_nil ?_
  refine W_seq ?_
  refine W_region ?_
  refine o_mvt rfl ?_
  refine op_run (r_loadA (opR o) rfl rfl rfl (by first | rfl | (rw [binV_len]; rfl) | (rw [dgR_len]; rfl) | (rw [refR_len]; rfl) | (rw [secR_len]; rfl) | (rw [List.length_map, tagF_len]; rfl) | (rw [opR_len]; rfl) | (rw [ansR_len]; rfl) | (rw [blkR_len]; rfl)) ((hk2.blk' hB1 trivial).all)) rfl ?_
  refine op_call rfl rfl rfl ((by have h := md_find w2 mb bm l o (h.k hk02); rw [hpv] at h; exact h)) ?_; rintro v4 w4 ⟨rfl, hk4⟩
  have h4 := (h.k hk02).k hk4
  have hB14 := hk4.blk' (hk2.blk' hB1 trivial) trivial
  have hB24 := hk4.blk' hB2 trivial
  refine o_mvt rfl ?_
  refine op_run (r_extract rfl rfl) rfl ?_
  refine op_run (r_extract rfl rfl) rfl ?_
  refine o_ast rfl ?_
  refine o_ast rfl ?_
  refine ops_nil ?_
  refine W_seq ?_
  refine W_seq ?_
  refine W_region ?_
  refine o_mvt rfl ?_
  refine op_run (r_neq rfl rfl) rfl ?_
  refine ops_nil ?_
  refine W_cond_p rfl (fun h5 => ?_) (fun h5 => ?_)
  · refine W_seq ?_
    refine W_region ?_
    refine o_mvt rfl ?_
    refine op_run (r_build (ansR (findE l o) false Bk.zero) (_) ([(0, .int .i64 (findE l o))]) rfl rfl rfl rfl rfl (rfl)) rfl ?_
    refine o_storeA (cs := ansR (findE l o) false Bk.zero) rfl rfl (by first | rfl | exact binV_one _ | exact dgR_one _ | exact refR_one _ | exact secR_one _ | exact all_c8 _ | exact ansR_one _ _ _ | exact blkR_one _) (by first | rfl | (rw [binV_len]; rfl) | (rw [dgR_len]; rfl) | (rw [refR_len]; rfl) | (rw [secR_len]; rfl) | (rw [List.length_map, tagF_len]; rfl) | (rw [opR_len]; rfl) | (rw [ansR_len]; rfl) | (rw [blkR_len]; rfl)) hB24 (by rw [ansR_len]; decide) rfl ?_; intro w7 hB7 hk7 hs7
    have hB7 : Blk w7 b2 (ansR (findE l o) false Bk.zero) 34 := by
      have h := hB7
      rwa [splice_all (by rw [ansR_len, ansR_len])] at h
    refine ops_nil ?_
    refine W_ret ?_
    refine retA (ansR (findE l o) false Bk.zero) rfl rfl rfl rfl (by first | rfl | (rw [binV_len]; rfl) | (rw [dgR_len]; rfl) | (rw [refR_len]; rfl) | (rw [secR_len]; rfl) | (rw [List.length_map, tagF_len]; rfl) | (rw [opR_len]; rfl) | (rw [ansR_len]; rfl) | (rw [blkR_len]; rfl)) hB7.all ?_
    rw [blockA_bad h5]
    exact ⟨rfl, h.k ((hk02.trans hk4).new hk7 (by omega)), ((hk02.trans hk4).new hk7 (by omega)).all⟩
  · refine W_skip ?_
    refine W_seq ?_
    have hE : findE l o = 0 := by omega
    obtain ⟨v, hv, hn0, hn1, hfr⟩ := findE_ok hE
    have hP := findP_ok hE hv
    rw [hpv] at hP; subst hP
    have hV : VolW w4 v := h4.v _ (lookP_mem hv)
    have hA := blockA_ok hE hv
    refine W_held (fun w' => Keep All w4 w') (by kernel_rfl) (Keep.drawn w4) (fun hS => ?_)
    refine any_mvt 0 rfl (by kernel_rfl) (by kernel_rfl) (by kernel_rfl) rfl hS ?_
    refine any_run 1 (fun w' hS' => (r_nilCheck rfl)) rfl (by kernel_rfl) (by kernel_rfl) (by kernel_rfl) rfl hS ?_
    refine any_run 2 (fun w' hS' => (r_fieldAddr rfl rfl rfl rfl rfl)) rfl (by kernel_rfl) (by kernel_rfl) (by kernel_rfl) rfl hS ?_
    refine any_run 3 (fun w' hS' => (r_load rfl rfl rfl (((hS'.blk' hV.1 trivial).cell rfl)))) rfl (by kernel_rfl) (by kernel_rfl) (by kernel_rfl) rfl hS ?_
    refine any_run 4 (fun w' hS' => (r_fieldAddr rfl rfl rfl rfl rfl)) rfl (by kernel_rfl) (by kernel_rfl) (by kernel_rfl) rfl hS ?_
    refine any_run 5 (fun w' hS' => (r_load rfl rfl rfl (((hS'.blk' hB14 trivial).cell rfl)))) rfl (by kernel_rfl) (by kernel_rfl) (by kernel_rfl) rfl hS ?_
    refine any_run 6 (fun w' hS' => ((r_lookupGok (a := o.number) (keyOk_int rfl) rfl rfl rfl ti_bk ((hV.2.keep hS' trivial))).val (look_blk _ _))) rfl (by kernel_rfl) (by kernel_rfl) (by kernel_rfl) rfl hS ?_
    refine any_mvt 7 rfl (by kernel_rfl) (by kernel_rfl) (by kernel_rfl) rfl hS ?_
    refine any_run 8 (fun w' hS' => (r_extract rfl rfl)) rfl (by kernel_rfl) (by kernel_rfl) (by kernel_rfl) rfl hS ?_
    refine any_run 9 (fun w' hS' => (r_extract rfl rfl)) rfl (by kernel_rfl) (by kernel_rfl) (by kernel_rfl) rfl hS ?_
    refine any_one 10 (by kernel_rfl) (one_of rfl ?_)
    refine o_alloc rfl rfl rfl ?_; intro w13 b13 e13 hB13 hk13 hs13
    refine ops_nil ⟨hS.trans hk13, fun hS => ?_⟩
    refine any_one 11 (by kernel_rfl) (one_of rfl ?_)
    refine o_storeA (cs := blkR ((lookP v.bl o.number).getD Bk.zero)) rfl rfl (by first | rfl | exact binV_one _ | exact dgR_one _ | exact refR_one _ | exact secR_one _ | exact all_c8 _ | exact ansR_one _ _ _ | exact blkR_one _) (by first | rfl | (rw [binV_len]; rfl) | (rw [dgR_len]; rfl) | (rw [refR_len]; rfl) | (rw [secR_len]; rfl) | (rw [List.length_map, tagF_len]; rfl) | (rw [opR_len]; rfl) | (rw [ansR_len]; rfl) | (rw [blkR_len]; rfl)) (show Blk w13 b13 (blkR Bk.zero) _ from hB13) (by exact Nat.le_of_eq (by simp [blkR_len])) rfl ?_; intro w15 hB15 hk15 hs15
    have hB15' : Blk w15 b13 (blkR ((lookP v.bl o.number).getD Bk.zero)) 24 := by
      have h := hB15
      rwa [splice_all (by rw [blkR_len, blkR_len])] at h
    refine ops_nil ⟨hS.new hk15 (Nat.le_of_eq (show w4.heap.size = b13 from e13.symm)), fun hS => ?_⟩
    have hkA := (hk02.trans hk4).trans hS
    have hB1f := hS.blk' hB14 trivial
    have hB2f := hS.blk' hB24 trivial
    have hV5 := hV.k hS
    have hx2 : v.xa ≠ b2 := fun e => hB2f.ne_map hV5.2 e.symm
    refine any_ast 12 rfl (by kernel_rfl) (by kernel_rfl) (by kernel_rfl) rfl hS ?_
    refine any_done (by kernel_rfl) ?_
    refine W_seq ?_
    refine W_block ?_
    refine W_seq ?_
    refine W_region ?_
    refine op_run (r_fieldAddr rfl rfl rfl rfl rfl) rfl ?_
    refine op_run (r_load rfl rfl rfl ((hS.blk' hB14 trivial).cell rfl)) rfl ?_
    refine op_run (r_eql rfl rfl) rfl ?_
    refine o_ast rfl ?_
    refine ops_nil ?_
    refine W_cond_p rfl (fun h18 => ?_) (fun h18 => ?_)
    · refine W_seq ?_
      refine W_region ?_
      refine o_mvt rfl ?_
      refine op_run (r_loadA (blkR ((lookP v.bl o.number).getD Bk.zero)) rfl rfl rfl (by first | rfl | (rw [binV_len]; rfl) | (rw [dgR_len]; rfl) | (rw [refR_len]; rfl) | (rw [secR_len]; rfl) | (rw [List.length_map, tagF_len]; rfl) | (rw [opR_len]; rfl) | (rw [ansR_len]; rfl) | (rw [blkR_len]; rfl)) (hB15'.all)) rfl ?_
      refine op_run (r_build (ansR 0 (lookP v.bl o.number).isSome ((lookP v.bl o.number).getD Bk.zero)) (_) ([(1, .bool (lookP v.bl o.number).isSome), (2, bkV ((lookP v.bl o.number).getD Bk.zero))]) rfl rfl rfl rfl rfl (fill_ans rfl rfl)) rfl ?_
      refine o_storeA (cs := ansR 0 (lookP v.bl o.number).isSome ((lookP v.bl o.number).getD Bk.zero)) rfl rfl (by first | rfl | exact binV_one _ | exact dgR_one _ | exact refR_one _ | exact secR_one _ | exact all_c8 _ | exact ansR_one _ _ _ | exact blkR_one _) (by first | rfl | (rw [binV_len]; rfl) | (rw [dgR_len]; rfl) | (rw [refR_len]; rfl) | (rw [secR_len]; rfl) | (rw [List.length_map, tagF_len]; rfl) | (rw [opR_len]; rfl) | (rw [ansR_len]; rfl) | (rw [blkR_len]; rfl)) (hS.blk' hB24 trivial) (by rw [ansR_len]; decide) rfl ?_; intro w21 hB21 hk21 hs21
      have hB21' : Blk w21 b2 (ansR 0 (lookP v.bl o.number).isSome ((lookP v.bl o.number).getD Bk.zero)) 34 := by
        have h := hB21
        rwa [splice_all (by rw [ansR_len, ansR_len])] at h
      refine ops_nil ?_
      refine W_ret ?_
      refine retA (ansR 0 (lookP v.bl o.number).isSome ((lookP v.bl o.number).getD Bk.zero)) rfl rfl rfl rfl (by first | rfl | (rw [binV_len]; rfl) | (rw [dgR_len]; rfl) | (rw [refR_len]; rfl) | (rw [secR_len]; rfl) | (rw [List.length_map, tagF_len]; rfl) | (rw [opR_len]; rfl) | (rw [ansR_len]; rfl) | (rw [blkR_len]; rfl)) hB21'.all ?_
      rw [hA, if_pos h18]
      exact ⟨rfl, h.k (hkA.new hk21 (by omega)), (hkA.new hk21 (by omega)).all⟩
    · refine W_seq ?_
      refine W_region ?_
      refine op_run (r_fieldAddr rfl rfl rfl rfl rfl) rfl ?_
      refine op_run (r_load rfl rfl rfl (hB1f.cell rfl)) rfl ?_
      refine op_run (r_eql rfl rfl) rfl ?_
      refine o_ast rfl ?_
      refine ops_nil ?_
      refine W_cond_p rfl (fun h24 => ?_) (fun h24 => ?_)
      · refine W_held (fun w' => Keep (· ≠ v.xa) w15 w') (by kernel_rfl) ((Keep.drawn w15).all) (fun hS => ?_)
        refine any_mvt 0 rfl (by kernel_rfl) (by kernel_rfl) (by kernel_rfl) rfl hS ?_
        refine any_run 1 (fun w' hS' => (r_nilCheck rfl)) rfl (by kernel_rfl) (by kernel_rfl) (by kernel_rfl) rfl hS ?_
        refine any_run 2 (fun w' hS' => (r_fieldAddr rfl rfl rfl rfl rfl)) rfl (by kernel_rfl) (by kernel_rfl) (by kernel_rfl) rfl hS ?_
        refine any_run 3 (fun w' hS' => (r_load rfl rfl rfl (((hS'.blk' hV5.1 (hV5.1.ne_map hV5.2)).cell rfl)))) rfl (by kernel_rfl) (by kernel_rfl) (by kernel_rfl) rfl hS ?_
        refine any_run 4 (fun w' hS' => (r_fieldAddr rfl rfl rfl rfl rfl)) rfl (by kernel_rfl) (by kernel_rfl) (by kernel_rfl) rfl hS ?_
        refine any_run 5 (fun w' hS' => (r_load rfl rfl rfl (((hS'.blk' hB1f (hB1f.ne_map hV5.2)).cell rfl)))) rfl (by kernel_rfl) (by kernel_rfl) (by kernel_rfl) rfl hS ?_
        refine any_one 6 (by kernel_rfl) (one_of rfl ?_)
        refine o_mapDelG (a := o.number) (keyOk_int rfl) rfl rfl rfl ((hV5.2.keep (Keep.drawn w15) trivial)) rfl ?_; intro w28 hM28 hk28 hs28
        rw [delP_map] at hM28
        refine ops_nil ⟨((Keep.drawn w15).all.trans hk28), fun hS => ?_⟩
        have hB2g := hS.blk' hB2f (hB2f.ne_map hV5.2)
        refine any_done (by kernel_rfl) ?_
        refine W_seq ?_
        refine W_region ?_
        refine op_run (r_loadA (ansR 0 false Bk.zero) rfl rfl rfl (by first | rfl | (rw [binV_len]; rfl) | (rw [dgR_len]; rfl) | (rw [refR_len]; rfl) | (rw [secR_len]; rfl) | (rw [List.length_map, tagF_len]; rfl) | (rw [opR_len]; rfl) | (rw [ansR_len]; rfl) | (rw [blkR_len]; rfl)) (hB2g.all)) rfl ?_
        refine o_storeA (cs := ansR 0 false Bk.zero) rfl rfl (by first | rfl | exact binV_one _ | exact dgR_one _ | exact refR_one _ | exact secR_one _ | exact all_c8 _ | exact ansR_one _ _ _ | exact blkR_one _) (by first | rfl | (rw [binV_len]; rfl) | (rw [dgR_len]; rfl) | (rw [refR_len]; rfl) | (rw [secR_len]; rfl) | (rw [List.length_map, tagF_len]; rfl) | (rw [opR_len]; rfl) | (rw [ansR_len]; rfl) | (rw [blkR_len]; rfl)) hB2g (by rw [ansR_len]; decide) rfl ?_; intro w31 hB31 hk31 hs31
        have hB31' : Blk w31 b2 (ansR 0 false Bk.zero) 34 := by
          have h := hB31
          rwa [splice_all (by rw [ansR_len])] at h
        refine ops_nil ?_
        refine W_ret ?_
        refine retA (ansR 0 false Bk.zero) rfl rfl rfl rfl (by first | rfl | (rw [binV_len]; rfl) | (rw [dgR_len]; rfl) | (rw [refR_len]; rfl) | (rw [secR_len]; rfl) | (rw [List.length_map, tagF_len]; rfl) | (rw [opR_len]; rfl) | (rw [ansR_len]; rfl) | (rw [blkR_len]; rfl)) hB31'.all ?_
        rw [hA, if_neg h18, if_pos h24]
        have hkz := (hkA.all.trans hS).new hk31 (by omega)
        exact ⟨rfl, h.put hv (hM28.keep hk31 hx2) hkz, hkz.mono fun z _ hz e => hz (.inr ⟨_, lookP_mem hv, e⟩)⟩
      · refine W_cut [54] [54, 55, 56, 57, 58, 59, 60, 61, 62, 63, 64, 65, 66, 67, 68] (fun vs w33 => vs = [.bool (decide (lookP v.bl o.number = none ∧ v.q ≤ v.bl.length))] ∧ Keep All w15 w33) ?_ ?_
        · refine W_quiet (Keep All w15) (by kernel_rfl) (by kernel_rfl) (Keep.drawn _) ?_
          refine q_mvt rfl ?_
          refine q_run (fun _ _ => (r_not rfl)) rfl ?_
          refine q_mvt rfl ?_
          refine q_split rfl rfl rfl (fun g35 => ?_) (fun g35 => ?_)
          · refine q_mvt (g_yes rfl rfl rfl (by rw [g35] <;> rfl)) ?_
            refine q_run (fun _ _ => (r_nilCheck rfl)) (g_yes rfl rfl rfl (by rw [g35] <;> rfl)) ?_
            refine q_run (fun _ _ => (r_fieldAddr rfl rfl rfl rfl rfl)) (g_yes rfl rfl rfl (by rw [g35] <;> rfl)) ?_
            refine q_run (fun _ hk => r_load rfl rfl rfl (hk.cell (hV5.1.cell rfl) trivial)) (g_yes rfl rfl rfl (by rw [g35] <;> rfl)) ?_
            refine q_run (fun _ hk => r_lenMapG rfl rfl ((hV5.2.keep hk trivial))) (g_yes rfl rfl rfl (by rw [g35] <;> rfl)) ?_
            refine q_mvt (g_yes rfl rfl rfl (by rw [g35] <;> rfl)) ?_
            refine q_run (fun _ _ => (r_nilCheck rfl)) (g_yes rfl rfl rfl (by rw [g35] <;> rfl)) ?_
            refine q_run (fun _ _ => (r_fieldAddr rfl rfl rfl rfl rfl)) (g_yes rfl rfl rfl (by rw [g35] <;> rfl)) ?_
            refine q_run (fun _ hk => r_load rfl rfl rfl (hk.cell (hV5.1.cell rfl) trivial)) (g_yes rfl rfl rfl (by rw [g35] <;> rfl)) ?_
            refine q_run (fun _ _ => (r_geq rfl rfl)) (g_yes rfl rfl rfl (by rw [g35] <;> rfl)) ?_
            refine q_pkTt rfl (by rw [g35] <;> rfl) rfl ?_
            refine q_ast rfl ?_
            refine q_nil ?_; intro w39 hk39
            exact ⟨by (repeat (first | with_reducible exact offM_refl _ _ | refine offM_updc rfl ?_ | refine offM_upd rfl ?_ | refine offM_updo rfl ?_ | refine offM_updo_none ?_ | refine offM_head rfl rfl ?_)), congrArg (fun b => [Value.bool b]) (by rw [decide_eq_decide]; simp [mapP]; intro _; simpa using g35), hk39⟩
          · refine q_skip (g_no rfl rfl rfl (by rw [g35] <;> rfl)) ?_
            refine q_skip (g_no rfl rfl rfl (by rw [g35] <;> rfl)) ?_
            refine q_skip (g_no rfl rfl rfl (by rw [g35] <;> rfl)) ?_
            refine q_skip (g_no rfl rfl rfl (by rw [g35] <;> rfl)) ?_
            refine q_skip (g_no rfl rfl rfl (by rw [g35] <;> rfl)) ?_
            refine q_skip (g_no rfl rfl rfl (by rw [g35] <;> rfl)) ?_
            refine q_skip (g_no rfl rfl rfl (by rw [g35] <;> rfl)) ?_
            refine q_skip (g_no rfl rfl rfl (by rw [g35] <;> rfl)) ?_
            refine q_skip (g_no rfl rfl rfl (by rw [g35] <;> rfl)) ?_
            refine q_skip (g_no rfl rfl rfl (by rw [g35] <;> rfl)) ?_
            refine q_pkFc rfl (by rw [g35] <;> rfl) rfl ?_
            refine q_ast rfl ?_
            refine q_nil ?_; intro w41 hk41
            exact ⟨by (repeat (first | with_reducible exact offM_refl _ _ | refine offM_updc rfl ?_ | refine offM_upd rfl ?_ | refine offM_updo rfl ?_ | refine offM_updo_none ?_ | refine offM_head rfl rfl ?_)), congrArg (fun b => [Value.bool b]) (by symm; apply decide_eq_false; intro hh; rw [hh.1] at g35; cases g35), hk41⟩
        · rintro J43 vs w43 ⟨rfl, hkq⟩ -
          have hkA := hkA.trans hkq
          have hB1f := hkq.blk' hB1f trivial
          have hB2f := hkq.blk' hB2f trivial
          have hV5 := hV5.k hkq
          refine W_cond_p rfl (fun h44 => ?_) (fun h44 => ?_)
          · refine W_seq ?_
            refine W_region ?_
            refine op_run (r_build (ansR 8 false Bk.zero) (_) ([(0, .int .i64 8)]) rfl rfl rfl rfl rfl (rfl)) rfl ?_
            refine o_storeA (cs := ansR 8 false Bk.zero) rfl rfl (by first | rfl | exact binV_one _ | exact dgR_one _ | exact refR_one _ | exact secR_one _ | exact all_c8 _ | exact ansR_one _ _ _ | exact blkR_one _) (by first | rfl | (rw [binV_len]; rfl) | (rw [dgR_len]; rfl) | (rw [refR_len]; rfl) | (rw [secR_len]; rfl) | (rw [List.length_map, tagF_len]; rfl) | (rw [opR_len]; rfl) | (rw [ansR_len]; rfl) | (rw [blkR_len]; rfl)) hB2f (by rw [ansR_len]; decide) rfl ?_; intro w46 hB46 hk46 hs46
            have hB46' : Blk w46 b2 (ansR 8 false Bk.zero) 34 := by
              have h := hB46
              rwa [splice_all (by rw [ansR_len, ansR_len])] at h
            refine ops_nil ?_
            refine W_ret ?_
            refine retA (ansR 8 false Bk.zero) rfl rfl rfl rfl (by first | rfl | (rw [binV_len]; rfl) | (rw [dgR_len]; rfl) | (rw [refR_len]; rfl) | (rw [secR_len]; rfl) | (rw [List.length_map, tagF_len]; rfl) | (rw [opR_len]; rfl) | (rw [ansR_len]; rfl) | (rw [blkR_len]; rfl)) hB46'.all ?_
            rw [hA, if_neg h18, if_neg h24, if_pos h44]
            exact ⟨rfl, h.k (hkA.new hk46 (by omega)), (hkA.new hk46 (by omega)).all⟩
          · refine W_held (fun w' => Keep (· ≠ v.xa) w43 w') (by kernel_rfl) ((Keep.drawn w43).all) (fun hS => ?_)
            refine any_mvt 0 rfl (by kernel_rfl) (by kernel_rfl) (by kernel_rfl) rfl hS ?_
            refine any_run 1 (fun w' hS' => (r_nilCheck rfl)) rfl (by kernel_rfl) (by kernel_rfl) (by kernel_rfl) rfl hS ?_
            refine any_run 2 (fun w' hS' => (r_fieldAddr rfl rfl rfl rfl rfl)) rfl (by kernel_rfl) (by kernel_rfl) (by kernel_rfl) rfl hS ?_
            refine any_run 3 (fun w' hS' => (r_load rfl rfl rfl (((hS'.blk' hV5.1 (hV5.1.ne_map hV5.2)).cell rfl)))) rfl (by kernel_rfl) (by kernel_rfl) (by kernel_rfl) rfl hS ?_
            refine any_run 4 (fun w' hS' => (r_fieldAddr rfl rfl rfl rfl rfl)) rfl (by kernel_rfl) (by kernel_rfl) (by kernel_rfl) rfl hS ?_
            refine any_run 5 (fun w' hS' => (r_load rfl rfl rfl (((hS'.blk' hB1f (hB1f.ne_map hV5.2)).cell rfl)))) rfl (by kernel_rfl) (by kernel_rfl) (by kernel_rfl) rfl hS ?_
            refine any_run 6 (fun w' hS' => (r_fieldAddr rfl rfl rfl rfl rfl)) rfl (by kernel_rfl) (by kernel_rfl) (by kernel_rfl) rfl hS ?_
            refine any_run 7 (fun w' hS' => (r_loadA (blkR o.block) rfl rfl rfl (by first | rfl | (rw [binV_len]; rfl) | (rw [dgR_len]; rfl) | (rw [refR_len]; rfl) | (rw [secR_len]; rfl) | (rw [List.length_map, tagF_len]; rfl) | (rw [opR_len]; rfl) | (rw [ansR_len]; rfl) | (rw [blkR_len]; rfl)) ((fun j u hu => by rw [Addr.add_lit]; exact (hS'.blk' hB1f (hB1f.ne_map hV5.2)).cell (opR_blk o hu))))) rfl (by kernel_rfl) (by kernel_rfl) (by kernel_rfl) rfl hS ?_
            refine any_one 8 (by kernel_rfl) (one_of rfl ?_)
            refine o_mapUpdG (a := o.number) (v := bkV o.block) (keyOk_int rfl) rfl rfl rfl rfl ((hV5.2.keep (Keep.drawn w43) trivial)) rfl ?_; intro w52 hM52 hk52 hs52
            rw [setA_map] at hM52
            refine ops_nil ⟨((Keep.drawn w43).all.trans hk52), fun hS => ?_⟩
            have hB2g := hS.blk' hB2f (hB2f.ne_map hV5.2)
            refine any_done (by kernel_rfl) ?_
            refine W_seq ?_
            refine W_region ?_
            refine op_run (r_loadA (ansR 0 false Bk.zero) rfl rfl rfl (by first | rfl | (rw [binV_len]; rfl) | (rw [dgR_len]; rfl) | (rw [refR_len]; rfl) | (rw [secR_len]; rfl) | (rw [List.length_map, tagF_len]; rfl) | (rw [opR_len]; rfl) | (rw [ansR_len]; rfl) | (rw [blkR_len]; rfl)) (hB2g.all)) rfl ?_
            refine o_storeA (cs := ansR 0 false Bk.zero) rfl rfl (by first | rfl | exact binV_one _ | exact dgR_one _ | exact refR_one _ | exact secR_one _ | exact all_c8 _ | exact ansR_one _ _ _ | exact blkR_one _) (by first | rfl | (rw [binV_len]; rfl) | (rw [dgR_len]; rfl) | (rw [refR_len]; rfl) | (rw [secR_len]; rfl) | (rw [List.length_map, tagF_len]; rfl) | (rw [opR_len]; rfl) | (rw [ansR_len]; rfl) | (rw [blkR_len]; rfl)) hB2g (by rw [ansR_len]; decide) rfl ?_; intro w55 hB55 hk55 hs55
            have hB55' : Blk w55 b2 (ansR 0 false Bk.zero) 34 := by
              have h := hB55
              rwa [splice_all (by rw [ansR_len])] at h
            refine ops_nil ?_
            refine W_ret ?_
            refine retA (ansR 0 false Bk.zero) rfl rfl rfl rfl (by first | rfl | (rw [binV_len]; rfl) | (rw [dgR_len]; rfl) | (rw [refR_len]; rfl) | (rw [secR_len]; rfl) | (rw [List.length_map, tagF_len]; rfl) | (rw [opR_len]; rfl) | (rw [ansR_len]; rfl) | (rw [blkR_len]; rfl)) hB55'.all ?_
            rw [hA, if_neg h18, if_neg h24, if_neg h44]
            have hkz := (hkA.all.trans hS).new hk55 (by omega)
            exact ⟨rfl, h.put hv (hM52.keep hk55 hx2) hkz, hkz.mono fun z _ hz e => hz (.inr ⟨_, lookP_mem hv, e⟩)⟩
end Go.Proofs.Ytkckphbdjkjfgaa.B
