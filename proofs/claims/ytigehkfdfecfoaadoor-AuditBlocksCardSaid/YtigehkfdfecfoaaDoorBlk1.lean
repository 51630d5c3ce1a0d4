/-
  audit.Block: the walk.
-/
import Derived.Test.YtigehkfdfecfoaaDoorKeyA
import Derived.Test.YtigehkfdfecfoaaDoorAud9
namespace Go.Proofs.YtigehkfdfecfoaaDoor.B
open Go
set_option linter.unusedVariables false
set_option maxHeartbeats 2000000
set_option maxRecDepth 100000
attribute [local irreducible] W OpsW OpsQ retP
attribute [local irreducible] numR kdR
/-- What is told of a block, by what nodes show. -/
def blkC : Option (Bool × List UInt8) → Dig × Bool × Int
  | none => (Dig.zero, false, 3)
  | some (true, v) => if h : v.length = 32 then (⟨v, h⟩, true, 0) else (Dig.zero, false, 3)
  | some (false, _) => (Dig.zero, false, 0)
theorem blkC_t {v : List UInt8} (h : v.length = 32) : blkC (some (true, v)) = (⟨v, h⟩, true, 0) := dif_pos h
theorem blkC_f {v : List UInt8} (h : ¬ v.length = 32) : blkC (some (true, v)) = (Dig.zero, false, 3) := dif_neg h
def blkA (S : List Dig) (e : Nat) (key : List UInt8) (nodes : List (List UInt8)) : Dig × Bool × Int :=
  if 1 ≤ e ∧ e ≤ S.length then blkC (chk (S.getD (e - 1) Dig.zero) key nodes) else (Dig.zero, false, 2)
def blkV (p : Dig × Bool × Int) : Value := .tuple #[.agg (dgR p.1).toArray, .bool p.2.1, .int .i64 p.2.2]
theorem au_Block (w : World) (n : Nat) (u ev : Value) (hev : one ev = true) (S : List Dig) (hu : Sl w u S.length 32 (rows dgR S)) (hS40 : S.length ≤ 40) (e : Nat) (he : e < 2 ^ 64) (name : List UInt8) (hn : name.length ≤ 300) (number : Int) (v : Value) (vks : List Value) (nodes : List (List UInt8)) (hv : RowsV w v vks nodes) (h70 : nodes.length ≤ 70) (hl : ∀ b ∈ nodes, b.length ≤ 3000) (hT : TabB w) :
    Ret Tryd.prog 6 [.agg (stV n u ev).toArray, .int .u64 e, .string ⟨name.toArray⟩, .int .i64 number, v].toArray w fun r w' => r = blkV (blkA S e (keyD name number).val nodes) ∧ Keep All w w' := by
  obtain ⟨a0, c0, rfl, hc0, hcm0⟩ := hu.form
  refine enter (fn := Tryd.f6) (n := 61) Tryd.func6 rfl rfl (by simp) ?_
  refine W_seq ?_
  refine W_region ?_
  refine o_box (cs := stV n (.slice a0 S.length c0) ev) rfl rfl rfl ?_; intro w1 b1 e1 hB1 hk1 hs1
  have hB1 : Blk w1 b1 (stV n (.slice a0 S.length c0) ev) 33 := hB1
  refine o_alloc rfl rfl rfl ?_; intro w2 b2 e2 hB2 hk2 hs2
  have hB2 : Blk w2 b2 (dgR Dig.zero) 28 := by rw [dgR_zero]; exact hB2
  have hB1 := hk2.blk' hB1 trivial
  have hk02 := hk1.trans hk2
  have hz1 := hk1.size
  refine o_asc rfl ?_
  refine o_asc rfl ?_
  refine ops_nil ?_
  refine W_seq ?_
  refine W_cut [25] [16, 17, 18, 19, 20, 21, 22, 23, 24, 25] (fun vs w3 => vs = [.bool (decide (¬ (1 ≤ e ∧ e ≤ S.length)))] ∧ w3 = w2) ?_ ?_
  · refine W_region ?_
    refine o_mvt rfl ?_
    refine op_run (r_lss rfl rfl) rfl ?_
    refine o_mvt rfl ?_
    refine g_split rfl rfl rfl (fun g4 => ?_) (fun g4 => ?_)
    · refine o_mvt (g_yes rfl rfl rfl g4) ?_
      refine op_run (r_fieldAddr rfl rfl rfl rfl rfl) (g_yes rfl rfl rfl g4) ?_
      refine op_run (r_load rfl rfl rfl (hB1.cell rfl)) (g_yes rfl rfl rfl g4) ?_
      refine op_run (r_len rfl rfl rfl) (g_yes rfl rfl rfl g4) ?_
      refine op_run ((r_conv rfl rfl rfl).val (congrArg (Value.int .u64) (show IntKind.u64.wrap (S.length : Int) = (S.length : Int) from by rw [wrap_u64]; omega))) (g_yes rfl rfl rfl g4) ?_
      refine op_run (r_gtr rfl rfl) (g_yes rfl rfl rfl g4) ?_
      refine o_pkFt rfl g4 rfl ?_
      refine ops_nil ?_
      exact ⟨by (repeat (first | with_reducible exact offM_refl _ _ | refine offM_updc rfl ?_ | refine offM_upd rfl ?_ | refine offM_updo rfl ?_ | refine offM_updo_none ?_ | refine offM_head rfl rfl ?_)), congrArg (fun b => [Value.bool b]) (by have g := of_decide_eq_false g4; rw [decide_eq_decide]; omega), rfl⟩
    · refine op_skip (g_no rfl rfl rfl g4) ?_
      refine op_skip (g_no rfl rfl rfl g4) ?_
      refine op_skip (g_no rfl rfl rfl g4) ?_
      refine op_skip (g_no rfl rfl rfl g4) ?_
      refine op_skip (g_no rfl rfl rfl g4) ?_
      refine op_skip (g_no rfl rfl rfl g4) ?_
      refine o_pkTc rfl g4 rfl ?_
      refine ops_nil ?_
      exact ⟨by (repeat (first | with_reducible exact offM_refl _ _ | refine offM_updc rfl ?_ | refine offM_upd rfl ?_ | refine offM_updo rfl ?_ | refine offM_updo_none ?_ | refine offM_head rfl rfl ?_)), congrArg (fun b => [Value.bool b]) (by have g := of_decide_eq_true g4; symm; apply decide_eq_true; omega), rfl⟩
  · rintro J8 vs w8 ⟨rfl, rfl⟩ -
    refine W_cond_p rfl (fun h9 => ?_) (fun h9 => ?_)
    · refine W_seq ?_
      refine W_region ?_
      refine op_run (r_buildA ((dgR Dig.zero)) (_) ([]) rfl rfl rfl rfl rfl (by rw [dgR_zero]; rfl)) rfl ?_
      refine o_storeA (cs := dgR Dig.zero) rfl rfl (by first | rfl | exact binV_one _ | exact dgR_one _ | exact refR_one _ | exact secR_one _ | exact all_c8 _ | rfl) (by first | rfl | (rw [binV_len]; rfl) | (rw [dgR_len]; rfl) | (rw [refR_len]; rfl) | (rw [secR_len]; rfl) | (rw [List.length_map, tagF_len]; rfl) | rfl) hB2 (by exact Nat.le_of_eq (by simp [dgR_len])) rfl ?_; intro w11 hB11 hk11 hs11
      have hB11 : Blk w11 b2 (dgR Dig.zero) 28 := by
        have h := hB11
        rwa [splice_all (by simp [dgR_len])] at h
      refine o_asc rfl ?_
      refine o_asc rfl ?_
      refine ops_nil ?_
      refine W_ret ?_
      refine retATT (dgR Dig.zero) (.bool false) (.int .i64 2) rfl rfl rfl rfl rfl rfl (by rw [dgR_len]; rfl) hB11.all ?_
      exact ⟨by unfold blkA; rw [if_neg h9]; rfl, hk02.new hk11 (by omega)⟩
    · refine W_skip ?_
      refine W_seq ?_
      have hrng : 1 ≤ e ∧ e ≤ S.length := Decidable.not_not.1 h9
      have hel : e - 1 < S.length := by omega
      obtain ⟨bz, oz, ez, hcz⟩ := rows_at' (i := e - 1) dgR_len (hu.keepE hk02 fun _ _ => trivial) hel (by decide)
      subst ez
      have hbA : blkA S e (keyD name number).val nodes = blkC (chk S[e - 1] (keyD name number).val nodes) := by
        unfold blkA; rw [if_pos hrng, List.getD_eq_getElem?_getD, List.getElem?_eq_getElem hel]; rfl
      obtain ⟨sd, hsd⟩ : ∃ sd, sd = S[e - 1] := ⟨_, rfl⟩
      rw [← hsd] at hbA hcz
      rw [hbA]
      refine W_held (fun w' => Keep All w8 w') (by kernel_rfl) (Keep.drawn w8) (fun hS => ?_)
      refine any_run 0 (fun w' hS' => (r_fieldAddr rfl rfl rfl rfl rfl)) rfl (by kernel_rfl) (by kernel_rfl) (by kernel_rfl) rfl hS ?_
      refine any_run 1 (fun w' hS' => (r_load rfl rfl rfl (((hS'.blk' hB1 trivial).cell rfl)))) rfl (by kernel_rfl) (by kernel_rfl) (by kernel_rfl) rfl hS ?_
      refine any_mvt 2 rfl (by kernel_rfl) (by kernel_rfl) (by kernel_rfl) rfl hS ?_
      refine any_run 3 (fun w' hS' => ((r_sub rfl rfl).val (congrArg (Value.int .u64) (show IntKind.u64.wrap ((e : Int) - 1) = ((e - 1 : Nat) : Int) from by rw [wrap_u64]; omega)))) rfl (by kernel_rfl) (by kernel_rfl) (by kernel_rfl) rfl hS ?_
      refine any_run 4 (fun w' hS' => (r_idxS rfl rfl rfl ti_dgP (by omega) (by omega))) rfl (by kernel_rfl) (by kernel_rfl) (by kernel_rfl) rfl hS ?_
      refine any_run 5 (fun w' hS' => (r_loadA (dgR sd) rfl rfl rfl (by first | rfl | (rw [binV_len]; rfl) | (rw [dgR_len]; rfl) | (rw [refR_len]; rfl) | (rw [secR_len]; rfl) | (rw [List.length_map, tagF_len]; rfl) | rfl) ((by intro u v hu; rw [Int.toNat_natCast]; exact hS'.cell (hcz u v hu) trivial)))) rfl (by kernel_rfl) (by kernel_rfl) (by kernel_rfl) rfl hS ?_
      refine any_mvt 6 rfl (by kernel_rfl) (by kernel_rfl) (by kernel_rfl) rfl hS ?_
      refine any_mvt 7 rfl (by kernel_rfl) (by kernel_rfl) (by kernel_rfl) rfl hS ?_
      refine any_mvt 9 rfl (by kernel_rfl) (by kernel_rfl) (by kernel_rfl) rfl hS ?_
      refine any_one 8 (by kernel_rfl) (one_of rfl ?_)
      refine op_call rfl rfl rfl (vol_Key _ name number hn) ?_; rintro v17 w17 ⟨rfl, hk17⟩
      refine ops_nil ⟨hS.trans hk17, fun hS => ?_⟩
      refine any_one 10 (by kernel_rfl) (one_of rfl ?_)
      refine op_call rfl rfl rfl (p_Check _ sd (keyD name number) _ vks nodes (hv.k (hk02.trans hS)) h70 hl (hT.k (hk02.trans hS))) ?_; rintro v19 w19 ⟨vv, rfl, hbv, hk19⟩
      obtain ⟨C, hC⟩ : ∃ C, C = chk sd (keyD name number).val nodes := ⟨_, rfl⟩
      rw [← hC] at hbv ⊢
      obtain ⟨T, hTT⟩ : ∃ T, T = (C.getD (false, [])).1 := ⟨_, rfl⟩
      obtain ⟨V, hV⟩ : ∃ V, V = (C.getD (false, [])).2 := ⟨_, rfl⟩
      obtain ⟨E, hE⟩ : ∃ E : Int, E = if C.isSome then 0 else 3 := ⟨_, rfl⟩
      have hch : chkO C vv = .tuple #[vv, .bool T, .int .i64 E] := by rw [hTT, hE]; rfl
      rw [← hV] at hbv
      rw [hch]
      obtain ⟨av, cv, rfl, _, _⟩ := hbv.form
      refine ops_nil ⟨hS.trans hk19, fun hS => ?_⟩
      refine any_mvt 11 rfl (by kernel_rfl) (by kernel_rfl) (by kernel_rfl) rfl hS ?_
      refine any_run 12 (fun w' hS' => (r_extract rfl rfl)) rfl (by kernel_rfl) (by kernel_rfl) (by kernel_rfl) rfl hS ?_
      refine any_run 13 (fun w' hS' => (r_extract rfl rfl)) rfl (by kernel_rfl) (by kernel_rfl) (by kernel_rfl) rfl hS ?_
      refine any_run 14 (fun w' hS' => (r_extract rfl rfl)) rfl (by kernel_rfl) (by kernel_rfl) (by kernel_rfl) rfl hS ?_
      refine any_ast 15 rfl (by kernel_rfl) (by kernel_rfl) (by kernel_rfl) rfl hS ?_
      refine any_ast 16 rfl (by kernel_rfl) (by kernel_rfl) (by kernel_rfl) rfl hS ?_
      refine any_ast 17 rfl (by kernel_rfl) (by kernel_rfl) (by kernel_rfl) rfl hS ?_
      refine any_done (by kernel_rfl) ?_
      refine W_seq ?_
      refine W_block ?_
      refine W_cut [42] [42, 43, 44, 45, 46, 47, 48, 49, 50, 51, 52] (fun vs w21 => vs = [.bool (decide (E ≠ 0 ∨ (T = true ∧ V.length ≠ 32)))] ∧ w21 = w19) ?_ ?_
      · refine W_region ?_
        refine o_mvt rfl ?_
        refine op_run (r_neq rfl rfl) rfl ?_
        refine o_mvt rfl ?_
        refine g_split rfl rfl rfl (fun g22 => ?_) (fun g22 => ?_)
        · refine o_mvt (g_yes rfl rfl rfl g22) ?_
          refine o_mvt (g_yes rfl rfl rfl g22) ?_
          refine g_split rfl rfl rfl (fun g23 => ?_) (fun g23 => ?_)
          · refine o_mvt (g_yes rfl rfl rfl g23) ?_
            refine op_run (r_len rfl rfl rfl) (g_yes rfl rfl rfl g23) ?_
            refine op_run (r_neq rfl rfl) (g_yes rfl rfl rfl g23) ?_
            refine o_pkTt rfl g23 (g_yes rfl rfl rfl g22) ?_
            refine o_pkFt rfl g22 rfl ?_
            refine o_ast rfl ?_
            refine ops_nil ?_
            exact ⟨by (repeat (first | with_reducible exact offM_refl _ _ | refine offM_updc rfl ?_ | refine offM_upd rfl ?_ | refine offM_updo rfl ?_ | refine offM_updo_none ?_ | refine offM_head rfl rfl ?_)), congrArg (fun b => [Value.bool b]) (by have g := of_decide_eq_false g22; have g2 : T = true := (by simpa using g23); have g0 : E = 0 := (by omega); simp [g0, g2]; omega), rfl⟩
          · refine op_skip (g_no rfl rfl rfl g23) ?_
            refine op_skip (g_no rfl rfl rfl g23) ?_
            refine op_skip (g_no rfl rfl rfl g23) ?_
            refine o_pkFc rfl g23 (g_yes rfl rfl rfl g22) ?_
            refine o_pkFt rfl g22 rfl ?_
            refine o_ast rfl ?_
            refine ops_nil ?_
            exact ⟨by (repeat (first | with_reducible exact offM_refl _ _ | refine offM_updc rfl ?_ | refine offM_upd rfl ?_ | refine offM_updo rfl ?_ | refine offM_updo_none ?_ | refine offM_head rfl rfl ?_)), congrArg (fun b => [Value.bool b]) (by have g := of_decide_eq_false g22; have g2 : T = false := (by simpa using g23); have g0 : E = 0 := (by omega); simp [g0, g2]), rfl⟩
        · refine op_skip (g_no rfl rfl rfl g22) ?_
          refine op_skip (g_no rfl rfl rfl g22) ?_
          refine op_skip (g_und rfl rfl rfl) ?_
          refine op_skip (g_und rfl rfl rfl) ?_
          refine op_skip (g_und rfl rfl rfl) ?_
          refine op_skip (g_no rfl rfl rfl g22) ?_
          refine o_pkTc rfl g22 rfl ?_
          refine o_ast rfl ?_
          refine ops_nil ?_
          exact ⟨by (repeat (first | with_reducible exact offM_refl _ _ | refine offM_updc rfl ?_ | refine offM_upd rfl ?_ | refine offM_updo rfl ?_ | refine offM_updo_none ?_ | refine offM_head rfl rfl ?_)), congrArg (fun b => [Value.bool b]) (by have g := of_decide_eq_true g22; symm; exact decide_eq_true (.inl g)), rfl⟩
      · rintro J27 vs w27 ⟨rfl, rfl⟩ -
        have hkF := hk02.trans hS
        have hB2e := hS.blk' hB2 trivial
        have hEC : E ≠ 0 → C = none := fun h => by rw [hE] at h; cases hc : C with | none => rfl | some p => rw [hc] at h; exact absurd rfl h
        have hCs : E = 0 → C = some (T, V) := fun h => by rw [hE] at h; cases hc : C with | none => rw [hc] at h; cases h | some p => rw [hTT, hV, hc]; rfl
        refine W_cond_p rfl (fun h28 => ?_) (fun h28 => ?_)
        · refine W_seq ?_
          refine W_region ?_
          refine op_run (r_buildA ((dgR Dig.zero)) (_) ([]) rfl rfl rfl rfl rfl (by rw [dgR_zero]; rfl)) rfl ?_
          refine o_storeA (cs := dgR Dig.zero) rfl rfl (by first | rfl | exact binV_one _ | exact dgR_one _ | exact refR_one _ | exact secR_one _ | exact all_c8 _ | rfl) (by first | rfl | (rw [binV_len]; rfl) | (rw [dgR_len]; rfl) | (rw [refR_len]; rfl) | (rw [secR_len]; rfl) | (rw [List.length_map, tagF_len]; rfl) | rfl) hB2e (by exact Nat.le_of_eq (by simp [dgR_len])) rfl ?_; intro w30 hB30 hk30 hs30
          have hB30 : Blk w30 b2 (dgR Dig.zero) 28 := by
            have h := hB30
            rwa [splice_all (by simp [dgR_len])] at h
          refine o_asc rfl ?_
          refine o_asc rfl ?_
          refine ops_nil ?_
          refine W_ret ?_
          refine retATT (dgR Dig.zero) (.bool false) (.int .i64 3) rfl rfl rfl rfl rfl rfl (by rw [dgR_len]; rfl) hB30.all ?_
          refine ⟨?_, hkF.new hk30 (by omega)⟩
          by_cases h0 : E = 0
          · obtain ⟨h1, h2⟩ := h28.resolve_left (fun h => h h0)
            rw [hCs h0, h1]; rw [blkC_f h2]; rfl
          · rw [hEC h0]; rfl
        · refine W_seq ?_
          refine W_region ?_
          refine o_mvt rfl ?_
          refine op_run (r_not rfl) rfl ?_
          refine o_ast rfl ?_
          refine ops_nil ?_
          refine W_cond rfl (fun h32 => ?_) (fun h32 => ?_)
          · refine W_seq ?_
            refine W_region ?_
            refine op_run (r_buildA ((dgR Dig.zero)) (_) ([]) rfl rfl rfl rfl rfl (by rw [dgR_zero]; rfl)) rfl ?_
            refine o_storeA (cs := dgR Dig.zero) rfl rfl (by first | rfl | exact binV_one _ | exact dgR_one _ | exact refR_one _ | exact secR_one _ | exact all_c8 _ | rfl) (by first | rfl | (rw [binV_len]; rfl) | (rw [dgR_len]; rfl) | (rw [refR_len]; rfl) | (rw [secR_len]; rfl) | (rw [List.length_map, tagF_len]; rfl) | rfl) hB2e (by exact Nat.le_of_eq (by simp [dgR_len])) rfl ?_; intro w34 hB34 hk34 hs34
            have hB34 : Blk w34 b2 (dgR Dig.zero) 28 := by
              have h := hB34
              rwa [splice_all (by simp [dgR_len])] at h
            refine o_asc rfl ?_
            refine o_asc rfl ?_
            refine ops_nil ?_
            refine W_ret ?_
            refine retATT (dgR Dig.zero) (.bool false) (.int .i64 0) rfl rfl rfl rfl rfl rfl (by rw [dgR_len]; rfl) hB34.all ?_
            have hTf : T = false := by simpa using h32
            exact ⟨by rw [hCs (Classical.byContradiction fun h => h28 (.inl h)), hTf]; rfl, hkF.new hk34 (by omega)⟩
          · refine W_skip ?_
            refine W_seq ?_
            refine W_region ?_
            refine o_mvt rfl ?_
            have hTt : T = true := by simpa using h32
            have h0 : E = 0 := Classical.byContradiction fun h => h28 (.inl h)
            have h32l : V.length = 32 := Classical.byContradiction fun h => h28 (.inr ⟨hTt, h⟩)
            obtain ⟨bq, oq, cq, eq_, _, _, hcv⟩ := hbv.at (by omega)
            cases eq_
            refine op_run (r_toArr rfl rfl ((by omega))) rfl ?_
            refine op_run (r_loadA (dgR ⟨V, h32l⟩) rfl rfl rfl (by first | rfl | (rw [binV_len]; rfl) | (rw [dgR_len]; rfl) | (rw [refR_len]; rfl) | (rw [secR_len]; rfl) | (rw [List.length_map, tagF_len]; rfl) | rfl) ((fun j u hj => by rw [Addr.add_lit]; exact hcv j u hj))) rfl ?_
            refine o_storeA (cs := dgR ⟨V, h32l⟩) rfl rfl (by first | rfl | exact binV_one _ | exact dgR_one _ | exact refR_one _ | exact secR_one _ | exact all_c8 _ | rfl) (by first | rfl | (rw [binV_len]; rfl) | (rw [dgR_len]; rfl) | (rw [refR_len]; rfl) | (rw [secR_len]; rfl) | (rw [List.length_map, tagF_len]; rfl) | rfl) hB2e (by exact Nat.le_of_eq (by simp [dgR_len])) rfl ?_; intro w38 hB38 hk38 hs38
            have hB38 : Blk w38 b2 (dgR ⟨V, h32l⟩) 28 := by
              have h := hB38
              rwa [splice_all (by simp [dgR_len])] at h
            refine o_asc rfl ?_
            refine o_asc rfl ?_
            refine ops_nil ?_
            refine W_ret ?_
            refine retATT (dgR ⟨V, h32l⟩) (.bool true) (.int .i64 0) rfl rfl rfl rfl rfl rfl (by rw [dgR_len]; rfl) hB38.all ?_
            exact ⟨by rw [hCs h0, hTt]; rw [blkC_t h32l]; rfl, hkF.new hk38 (by omega)⟩
end Go.Proofs.YtigehkfdfecfoaaDoor.B
