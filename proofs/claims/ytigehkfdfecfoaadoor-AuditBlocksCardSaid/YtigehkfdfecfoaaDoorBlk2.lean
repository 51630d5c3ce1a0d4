/-
  AuditBlocks: the walk.
-/
import Derived.Test.YtigehkfdfecfoaaDoorBlk1
import Derived.Test.YtigehkfdfecfoaaDoorProof2
namespace Go.Proofs.YtigehkfdfecfoaaDoor.B
open Go
set_option linter.unusedVariables false
set_option maxHeartbeats 2000000
set_option maxRecDepth 100000
attribute [local irreducible] W OpsW OpsQ retP
attribute [local irreducible] numR kdR
theorem blkC_bad {C : Option (Bool × List UInt8)} {T : Bool} {V : List UInt8} {E : Int} (hT : T = (C.getD (false, [])).1) (hV : V = (C.getD (false, [])).2) (hE : E = if C.isSome then 0 else 3) (h : E ≠ 0 ∨ (T = true ∧ V.length ≠ 32)) : blkC C = (Dig.zero, false, 3) := by
  cases C with
  | none => rfl
  | some p =>
    obtain ⟨t, v⟩ := p
    simp at hE hT hV
    subst hE; subst hT; subst hV
    obtain ⟨h1, h2⟩ := h.resolve_left (fun h => h rfl)
    rw [h1, blkC_f h2]
theorem blkC_good {C : Option (Bool × List UInt8)} {T : Bool} {V : List UInt8} {E : Int} (hT : T = (C.getD (false, [])).1) (hV : V = (C.getD (false, [])).2) (hE : E = if C.isSome then 0 else 3) (h : ¬ (E ≠ 0 ∨ (T = true ∧ V.length ≠ 32))) :
    (blkC C).2.1 = T ∧ (blkC C).2.2 = 0 ∧ (T = true → (blkC C).1.val = V) ∧ (T = false → (blkC C).1 = Dig.zero) := by
  cases C with
  | none => simp at hE; exact absurd (.inl (by rw [hE]; decide)) h
  | some p =>
    obtain ⟨t, v⟩ := p
    simp at hE hT hV
    subst hE; subst hT; subst hV
    cases T with
    | true =>
      have h32 : V.length = 32 := Classical.byContradiction fun h2 => h (.inr ⟨rfl, h2⟩)
      rw [blkC_t h32]; exact ⟨rfl, rfl, fun _ => rfl, fun h => by cases h⟩
    | false => exact ⟨rfl, rfl, (fun h => by cases h), fun _ => rfl⟩
theorem walk_AuditBlocks (w : World) (hT : TabB w) (u : Value) (S : List Dig) (hu : Sl w u S.length 32 (rows dgR S)) (e : Nat) (he : e < 2 ^ 64) (name : List UInt8) (number : Int) (v : Value) (vks : List Value) (nodes : List (List UInt8)) (hv : RowsV w v vks nodes) :
    Ret Tryd.prog 3 [u, .int .u64 e, .string ⟨name.toArray⟩, .int .i64 number, v].toArray w fun r w' => r = .bool true ∧ Keep All w w' := by
  obtain ⟨a0, c0, rfl, hc0, hcm0⟩ := hu.form
  obtain ⟨a4, c4, rfl, hc4, hcm4⟩ := hv.2.1.form
  have hns : (⟨name.toArray⟩ : ByteArray).size = name.length := by show name.toArray.size = _; simp
  refine enter (fn := Tryd.f3) (n := 124) Tryd.func3 rfl rfl (by simp) ?_
  refine W_seq ?_
  refine W_region ?_
  refine o_asc rfl ?_
  refine ops_nil ?_
  refine W_seq ?_
  refine W_seq ?_
  refine W_region ?_
  refine op_call rfl rfl rfl (speaks17 w) ?_; rintro v1 w1 ⟨rfl, hk1⟩
  refine op_run (r_not rfl) rfl ?_
  refine ops_nil ?_
  refine W_no rfl (rfl) ?_
  refine W_skip ?_
  refine W_seq ?_
  refine W_cut [30] [19, 20, 21, 22, 23, 24, 25, 26, 27, 28, 29, 30] (fun vs w4 => vs = [.bool (decide (greatA nodes ∨ 40 < S.length ∨ 300 < name.length))] ∧ Keep All w1 w4) ?_ ?_
  · refine W_region ?_
    refine o_mvt rfl ?_
    refine op_call rfl rfl rfl (great17 w1 _ _ nodes (hv.k hk1)) ?_; rintro v5 w5 ⟨rfl, hk5⟩
    refine o_mvt rfl ?_
    refine g_split rfl rfl rfl (fun g6 => ?_) (fun g6 => ?_)
    · refine o_mvt (g_yes rfl rfl rfl g6) ?_
      refine op_run (r_len rfl rfl rfl) (g_yes rfl rfl rfl g6) ?_
      refine op_run (r_gtr rfl rfl) (g_yes rfl rfl rfl g6) ?_
      refine o_pkFt rfl g6 rfl ?_
      refine o_mvt rfl ?_
      refine g_split rfl rfl rfl (fun g7 => ?_) (fun g7 => ?_)
      · refine o_mvt (g_yes rfl rfl rfl g7) ?_
        refine op_run (r_len_str rfl rfl rfl) (g_yes rfl rfl rfl g7) ?_
        refine op_run (r_gtr rfl rfl) (g_yes rfl rfl rfl g7) ?_
        refine o_pkFt rfl g7 rfl ?_
        refine ops_nil ?_
        exact ⟨by (repeat (first | with_reducible exact offM_refl _ _ | refine offM_updc rfl ?_ | refine offM_upd rfl ?_ | refine offM_updo rfl ?_ | refine offM_updo_none ?_ | refine offM_head rfl rfl ?_)), congrArg (fun b => [Value.bool b]) (by
          have g6 := of_decide_eq_false g6; have g7 := of_decide_eq_false g7
          rw [decide_eq_decide, hns]
          constructor
          · intro h; exact .inr (.inr (by omega))
          · rintro (h | h | h)
            · exact absurd h g6
            · exact absurd (by omega) g7
            · omega), hk5⟩
      · refine op_skip (g_no rfl rfl rfl g7) ?_
        refine op_skip (g_no rfl rfl rfl g7) ?_
        refine op_skip (g_no rfl rfl rfl g7) ?_
        refine o_pkTc rfl g7 rfl ?_
        refine ops_nil ?_
        exact ⟨by (repeat (first | with_reducible exact offM_refl _ _ | refine offM_updc rfl ?_ | refine offM_upd rfl ?_ | refine offM_updo rfl ?_ | refine offM_updo_none ?_ | refine offM_head rfl rfl ?_)), congrArg (fun b => [Value.bool b]) (by have g7 := of_decide_eq_true g7; symm; exact decide_eq_true (.inr (.inl (by omega)))), hk5⟩
    · refine op_skip (g_no rfl rfl rfl g6) ?_
      refine op_skip (g_no rfl rfl rfl g6) ?_
      refine op_skip (g_no rfl rfl rfl g6) ?_
      refine o_pkTc rfl g6 rfl ?_
      refine o_mvt rfl ?_
      refine op_skip (g_no rfl rfl rfl rfl) ?_
      refine op_skip (g_no rfl rfl rfl rfl) ?_
      refine op_skip (g_no rfl rfl rfl rfl) ?_
      refine o_pkTc rfl rfl rfl ?_
      refine ops_nil ?_
      exact ⟨by (repeat (first | with_reducible exact offM_refl _ _ | refine offM_updc rfl ?_ | refine offM_upd rfl ?_ | refine offM_updo rfl ?_ | refine offM_updo_none ?_ | refine offM_head rfl rfl ?_)), congrArg (fun b => [Value.bool b]) (by have g6 := of_decide_eq_true g6; symm; exact decide_eq_true (.inl g6)), hk5⟩
  · rintro J11 vs w11 ⟨rfl, hk11⟩ -
    have hk011 := hk1.trans hk11
    refine W_cond_p rfl (fun h12 => ?_) (fun h12 => ?_)
    · refine W_seq ?_
      refine W_region ?_
      refine o_asc rfl ?_
      refine ops_nil ?_
      refine W_ret ?_
      refine ret1 (.bool true) rfl ?_ ?_; rfl
      exact ⟨rfl, hk011⟩
    · refine W_skip ?_
      refine W_seq ?_
      refine W_region ?_
      refine o_mvt rfl ?_
      refine op_run (r_len rfl rfl rfl) rfl ?_
      refine op_run ((r_conv rfl rfl rfl).val (congrArg (Value.int .u64) (show IntKind.u64.wrap (S.length : Int) = (S.length : Int) from by rw [wrap_u64]; unfold maxLen at hcm0; omega))) rfl ?_
      refine o_mvt rfl ?_
      obtain ⟨hn40, hnl⟩ := greatA_not (fun h => h12 (.inl h))
      have hS40 : S.length ≤ 40 := Nat.le_of_not_lt fun h => h12 (.inr (.inl h))
      have hn300 : name.length ≤ 300 := Nat.le_of_not_lt fun h => h12 (.inr (.inr h))
      refine op_run (r_build ((stV S.length (.slice a0 S.length c0) (.slice none 0 0))) (_) ([(0, .int .u64 S.length), (1, .slice a0 S.length c0)]) rfl rfl rfl rfl rfl (rfl)) rfl ?_
      refine o_mvt rfl ?_
      refine o_mvt rfl ?_
      refine o_mvt rfl ?_
      refine o_mvt rfl ?_
      refine op_call rfl rfl rfl (au_Block w11 S.length _ _ rfl S (hu.keepE hk011 fun _ _ => trivial) hS40 e he name hn300 number _ vks nodes (hv.k hk011) (by omega) hnl (hT.k hk011)) ?_; rintro v15 w15 ⟨rfl, hk15⟩
      obtain ⟨D, Tp, Ep, hp⟩ : ∃ D Tp Ep, (D, Tp, Ep) = blkA S e (keyD name number).val nodes := ⟨_, _, _, rfl⟩
      rw [← hp]
      have hch : blkV (D, Tp, Ep) = .tuple #[.agg (dgR D).toArray, .bool Tp, .int .i64 Ep] := rfl
      rw [hch]
      refine o_mvt rfl ?_
      refine op_run (r_extract rfl rfl) rfl ?_
      refine op_run (r_extract rfl rfl) rfl ?_
      refine op_run (r_extract rfl rfl) rfl ?_
      refine o_alloc rfl rfl rfl ?_; intro w16 b16 e16 hB16 hk16 hs16
      refine o_storeA (cs := dgR D) rfl rfl (by first | rfl | exact binV_one _ | exact dgR_one _ | exact refR_one _ | exact secR_one _ | exact all_c8 _ | rfl) (by first | rfl | (rw [binV_len]; rfl) | (rw [dgR_len]; rfl) | (rw [refR_len]; rfl) | (rw [secR_len]; rfl) | (rw [List.length_map, tagF_len]; rfl) | rfl) hB16 (by exact Nat.le_of_eq (by simp [dgR_len])) rfl ?_; intro w17 hB17 hk17 hs17
      have hB17 : Blk w17 b16 (dgR D) 28 := by
        have h := hB17
        rwa [splice_all (by simp [dgR_len])] at h
      have hk017 : Keep All w w17 := hk011.trans (hk15.trans (hk16.new hk17 (by omega)))
      refine o_ast rfl ?_
      refine o_ast rfl ?_
      refine ops_nil ?_
      refine W_seq ?_
      refine W_cut [53] [45, 46, 47, 48, 49, 50, 51, 52, 53] (fun vs w18 => vs = [.bool (decide (¬ (1 ≤ e ∧ e ≤ S.length)))] ∧ w18 = w17) ?_ ?_
      · refine W_region ?_
        refine o_mvt rfl ?_
        refine op_run (r_lss rfl rfl) rfl ?_
        refine o_mvt rfl ?_
        refine g_split rfl rfl rfl (fun g19 => ?_) (fun g19 => ?_)
        · refine o_mvt (g_yes rfl rfl rfl g19) ?_
          refine o_mvt (g_yes rfl rfl rfl g19) ?_
          refine op_run (r_len rfl rfl rfl) (g_yes rfl rfl rfl g19) ?_
          refine op_run ((r_conv rfl rfl rfl).val (congrArg (Value.int .u64) (show IntKind.u64.wrap (S.length : Int) = (S.length : Int) from by rw [wrap_u64]; unfold maxLen at hcm0; omega))) (g_yes rfl rfl rfl g19) ?_
          refine op_run (r_gtr rfl rfl) (g_yes rfl rfl rfl g19) ?_
          refine o_pkFt rfl g19 rfl ?_
          refine ops_nil ?_
          exact ⟨by (repeat (first | with_reducible exact offM_refl _ _ | refine offM_updc rfl ?_ | refine offM_upd rfl ?_ | refine offM_updo rfl ?_ | refine offM_updo_none ?_ | refine offM_head rfl rfl ?_)), congrArg (fun b => [Value.bool b]) (by have g := of_decide_eq_false g19; rw [decide_eq_decide]; omega), rfl⟩
        · refine op_skip (g_no rfl rfl rfl g19) ?_
          refine op_skip (g_no rfl rfl rfl g19) ?_
          refine op_skip (g_no rfl rfl rfl g19) ?_
          refine op_skip (g_no rfl rfl rfl g19) ?_
          refine op_skip (g_no rfl rfl rfl g19) ?_
          refine o_pkTc rfl g19 rfl ?_
          refine ops_nil ?_
          exact ⟨by (repeat (first | with_reducible exact offM_refl _ _ | refine offM_updc rfl ?_ | refine offM_upd rfl ?_ | refine offM_updo rfl ?_ | refine offM_updo_none ?_ | refine offM_head rfl rfl ?_)), congrArg (fun b => [Value.bool b]) (by have g := of_decide_eq_true g19; symm; apply decide_eq_true; omega), rfl⟩
      · rintro J22 vs w22 ⟨rfl, rfl⟩ -
        refine W_cond_p rfl (fun h23 => ?_) (fun h23 => ?_)
        · refine W_seq ?_
          refine W_region ?_
          refine o_mvt rfl ?_
          refine op_run (r_eql rfl rfl) rfl ?_
          refine o_mvt rfl ?_
          have hp2 : (D, Tp, Ep) = (Dig.zero, false, 2) := hp.trans (by unfold blkA; rw [if_neg h23])
          cases hp2
          refine g_split rfl rfl rfl (fun g24 => ?_) (fun g => absurd g (by simp))
          refine o_mvt (g_yes rfl rfl rfl g24) ?_
          refine op_run (r_not rfl) (g_yes rfl rfl rfl g24) ?_
          refine o_pkTt rfl g24 rfl ?_
          refine o_mvt rfl ?_
          refine g_split rfl rfl rfl (fun g25 => ?_) (fun g => absurd g (by simp))
          refine op_run (r_loadA (dgR Dig.zero) rfl rfl rfl (by first | rfl | (rw [binV_len]; rfl) | (rw [dgR_len]; rfl) | (rw [refR_len]; rfl) | (rw [secR_len]; rfl) | (rw [List.length_map, tagF_len]; rfl) | rfl) (hB17.all)) (g_yes rfl rfl rfl (by rw [g25] <;> rfl)) ?_
          refine op_run (r_buildA ((dgR Dig.zero)) (_) ([]) rfl rfl rfl rfl rfl (by rw [dgR_zero]; rfl)) (g_yes rfl rfl rfl (by rw [g25] <;> rfl)) ?_
          refine op_run (r_eqlC (p := True) rfl rfl rfl rfl (by kernel_rfl) (okC_dgR _) (okC_dgR _) rfl (⟨fun _ => trivial, fun _ => rfl⟩)) (g_yes rfl rfl rfl (by rw [g25] <;> rfl)) ?_
          refine o_pkTt rfl (by rw [g25] <;> rfl) rfl ?_
          refine o_ast rfl ?_
          refine ops_nil ?_
          refine W_ret ?_
          refine ret1 (.bool (decide True)) rfl ?_ ?_; rfl
          exact ⟨rfl, hk017⟩
        · refine W_skip ?_
          refine W_seq ?_
          have hrng : 1 ≤ e ∧ e ≤ S.length := Decidable.not_not.1 h23
          have hel : e - 1 < S.length := by omega
          obtain ⟨bz, oz, ez, hcz⟩ := rows_at' (i := e - 1) dgR_len (hu.keepE hk017 fun _ _ => trivial) hel (by decide)
          subst ez
          have hp3 : (D, Tp, Ep) = blkC (chk S[e - 1] (keyD name number).val nodes) := hp.trans (by unfold blkA; rw [if_pos hrng, List.getD_eq_getElem?_getD, List.getElem?_eq_getElem hel]; rfl)
          obtain ⟨sd, hsd⟩ : ∃ sd, sd = S[e - 1] := ⟨_, rfl⟩
          rw [← hsd] at hp3 hcz
          refine W_held (fun w' => Keep All w22 w') (by kernel_rfl) (Keep.drawn w22) (fun hS => ?_)
          refine any_mvt 0 rfl (by kernel_rfl) (by kernel_rfl) (by kernel_rfl) rfl hS ?_
          refine any_mvt 1 rfl (by kernel_rfl) (by kernel_rfl) (by kernel_rfl) rfl hS ?_
          refine any_run 2 (fun w' hS' => ((r_sub rfl rfl).val (congrArg (Value.int .u64) (show IntKind.u64.wrap ((e : Int) - 1) = ((e - 1 : Nat) : Int) from by rw [wrap_u64]; omega)))) rfl (by kernel_rfl) (by kernel_rfl) (by kernel_rfl) rfl hS ?_
          refine any_run 3 (fun w' hS' => (r_idxS rfl rfl rfl ti_dgP (by omega) (by omega))) rfl (by kernel_rfl) (by kernel_rfl) (by kernel_rfl) rfl hS ?_
          refine any_run 4 (fun w' hS' => (r_loadA (dgR sd) rfl rfl rfl (by first | rfl | (rw [binV_len]; rfl) | (rw [dgR_len]; rfl) | (rw [refR_len]; rfl) | (rw [secR_len]; rfl) | (rw [List.length_map, tagF_len]; rfl) | rfl) ((by intro u v hu; rw [Int.toNat_natCast]; exact hS'.cell (hcz u v hu) trivial)))) rfl (by kernel_rfl) (by kernel_rfl) (by kernel_rfl) rfl hS ?_
          refine any_mvt 5 rfl (by kernel_rfl) (by kernel_rfl) (by kernel_rfl) rfl hS ?_
          refine any_mvt 6 rfl (by kernel_rfl) (by kernel_rfl) (by kernel_rfl) rfl hS ?_
          refine any_mvt 8 rfl (by kernel_rfl) (by kernel_rfl) (by kernel_rfl) rfl hS ?_
          refine any_one 7 (by kernel_rfl) (one_of rfl ?_)
          refine op_call rfl rfl rfl (rf12_Key _ name number hn300) ?_; rintro v33 w33 ⟨rfl, hk33⟩
          refine ops_nil ⟨hS.trans hk33, fun hS => ?_⟩
          refine any_one 9 (by kernel_rfl) (one_of rfl ?_)
          refine op_call rfl rfl rfl (rf09_Check nodes.length nodes rfl _ sd (keyD name number) _ vks 0 (by omega) (hv.k (hk017.trans hS)) (by omega) hnl) ?_; rintro v35 w35 ⟨vv, rfl, hvv1, hbv, hk35⟩
          rw [chkF_0] at hbv ⊢
          obtain ⟨C, hC⟩ : ∃ C, C = chk sd (keyD name number).val nodes := ⟨_, rfl⟩
          rw [← hC] at hbv hp3 ⊢
          obtain ⟨T, hTT⟩ : ∃ T, T = (C.getD (false, [])).1 := ⟨_, rfl⟩
          obtain ⟨V, hV⟩ : ∃ V, V = (C.getD (false, [])).2 := ⟨_, rfl⟩
          obtain ⟨E, hE⟩ : ∃ E : Int, E = if C.isSome then 0 else 3 := ⟨_, rfl⟩
          have hch : chkO C vv = .tuple #[vv, .bool T, .int .i64 E] := by rw [hTT, hE]; rfl
          rw [← hV] at hbv
          rw [hch]
          obtain ⟨av, cv, rfl, _, _⟩ := hbv.form
          refine ops_nil ⟨hS.trans hk35, fun hS => ?_⟩
          refine any_mvt 10 rfl (by kernel_rfl) (by kernel_rfl) (by kernel_rfl) rfl hS ?_
          refine any_run 11 (fun w' hS' => (r_extract rfl rfl)) rfl (by kernel_rfl) (by kernel_rfl) (by kernel_rfl) rfl hS ?_
          refine any_run 12 (fun w' hS' => (r_extract rfl rfl)) rfl (by kernel_rfl) (by kernel_rfl) (by kernel_rfl) rfl hS ?_
          refine any_run 13 (fun w' hS' => (r_extract rfl rfl)) rfl (by kernel_rfl) (by kernel_rfl) (by kernel_rfl) rfl hS ?_
          refine any_ast 14 rfl (by kernel_rfl) (by kernel_rfl) (by kernel_rfl) rfl hS ?_
          refine any_ast 15 rfl (by kernel_rfl) (by kernel_rfl) (by kernel_rfl) rfl hS ?_
          refine any_ast 16 rfl (by kernel_rfl) (by kernel_rfl) (by kernel_rfl) rfl hS ?_
          refine any_done (by kernel_rfl) ?_
          refine W_seq ?_
          refine W_cut [88] [79, 80, 81, 82, 83, 84, 85, 86, 87, 88] (fun vs w37 => vs = [.bool (decide (E ≠ 0 ∨ (T = true ∧ V.length ≠ 32)))] ∧ w37 = w35) ?_ ?_
          · refine W_region ?_
            refine o_mvt rfl ?_
            refine op_run (r_neq rfl rfl) rfl ?_
            refine o_mvt rfl ?_
            refine g_split rfl rfl rfl (fun g38 => ?_) (fun g38 => ?_)
            · refine o_mvt (g_yes rfl rfl rfl g38) ?_
              refine o_mvt (g_yes rfl rfl rfl g38) ?_
              refine g_split rfl rfl rfl (fun g39 => ?_) (fun g39 => ?_)
              · refine o_mvt (g_yes rfl rfl rfl g39) ?_
                refine op_run (r_len rfl rfl rfl) (g_yes rfl rfl rfl g39) ?_
                refine op_run (r_neq rfl rfl) (g_yes rfl rfl rfl g39) ?_
                refine o_pkTt rfl g39 (g_yes rfl rfl rfl g38) ?_
                refine o_pkFt rfl g38 rfl ?_
                refine ops_nil ?_
                exact ⟨by (repeat (first | with_reducible exact offM_refl _ _ | refine offM_updc rfl ?_ | refine offM_upd rfl ?_ | refine offM_updo rfl ?_ | refine offM_updo_none ?_ | refine offM_head rfl rfl ?_)), congrArg (fun b => [Value.bool b]) (by have g := of_decide_eq_false g38; have g2 : T = true := (by simpa using g39); have g0 : E = 0 := (by omega); simp [g0, g2]; omega), rfl⟩
              · refine op_skip (g_no rfl rfl rfl g39) ?_
                refine op_skip (g_no rfl rfl rfl g39) ?_
                refine op_skip (g_no rfl rfl rfl g39) ?_
                refine o_pkFc rfl g39 (g_yes rfl rfl rfl g38) ?_
                refine o_pkFt rfl g38 rfl ?_
                refine ops_nil ?_
                exact ⟨by (repeat (first | with_reducible exact offM_refl _ _ | refine offM_updc rfl ?_ | refine offM_upd rfl ?_ | refine offM_updo rfl ?_ | refine offM_updo_none ?_ | refine offM_head rfl rfl ?_)), congrArg (fun b => [Value.bool b]) (by have g := of_decide_eq_false g38; have g2 : T = false := (by simpa using g39); have g0 : E = 0 := (by omega); simp [g0, g2]), rfl⟩
            · refine op_skip (g_no rfl rfl rfl g38) ?_
              refine op_skip (g_no rfl rfl rfl g38) ?_
              refine op_skip (g_und rfl rfl rfl) ?_
              refine op_skip (g_und rfl rfl rfl) ?_
              refine op_skip (g_und rfl rfl rfl) ?_
              refine op_skip (g_no rfl rfl rfl g38) ?_
              refine o_pkTc rfl g38 rfl ?_
              refine ops_nil ?_
              exact ⟨by (repeat (first | with_reducible exact offM_refl _ _ | refine offM_updc rfl ?_ | refine offM_upd rfl ?_ | refine offM_updo rfl ?_ | refine offM_updo_none ?_ | refine offM_head rfl rfl ?_)), congrArg (fun b => [Value.bool b]) (by have g := of_decide_eq_true g38; symm; exact decide_eq_true (.inl g)), rfl⟩
          · rintro J43 vs w43 ⟨rfl, rfl⟩ -
            have hkF := hk017.trans hS
            have hBe := hS.blk' hB17 trivial
            refine W_cond_p rfl (fun h44 => ?_) (fun h44 => ?_)
            · refine W_seq ?_
              refine W_region ?_
              refine o_mvt rfl ?_
              refine op_run (r_eql rfl rfl) rfl ?_
              refine o_mvt rfl ?_
              have hp4 := hp3.trans (blkC_bad hTT hV hE h44)
              cases hp4
              refine g_split rfl rfl rfl (fun g45 => ?_) (fun g => absurd g (by simp))
              refine o_mvt (g_yes rfl rfl rfl g45) ?_
              refine op_run (r_not rfl) (g_yes rfl rfl rfl g45) ?_
              refine o_pkTt rfl g45 rfl ?_
              refine o_mvt rfl ?_
              refine g_split rfl rfl rfl (fun g46 => ?_) (fun g => absurd g (by simp))
              refine op_run (r_loadA (dgR Dig.zero) rfl rfl rfl (by first | rfl | (rw [binV_len]; rfl) | (rw [dgR_len]; rfl) | (rw [refR_len]; rfl) | (rw [secR_len]; rfl) | (rw [List.length_map, tagF_len]; rfl) | rfl) (hBe.all)) (g_yes rfl rfl rfl (by rw [g46] <;> rfl)) ?_
              refine op_run (r_buildA ((dgR Dig.zero)) (_) ([]) rfl rfl rfl rfl rfl (by rw [dgR_zero]; rfl)) (g_yes rfl rfl rfl (by rw [g46] <;> rfl)) ?_
              refine op_run (r_eqlC (p := True) rfl rfl rfl rfl (by kernel_rfl) (okC_dgR _) (okC_dgR _) rfl (⟨fun _ => trivial, fun _ => rfl⟩)) (g_yes rfl rfl rfl (by rw [g46] <;> rfl)) ?_
              refine o_pkTt rfl (by rw [g46] <;> rfl) rfl ?_
              refine o_ast rfl ?_
              refine ops_nil ?_
              refine W_ret ?_
              refine ret1 (.bool (decide True)) rfl ?_ ?_; rfl
              exact ⟨rfl, hkF⟩
            · refine W_skip ?_
              refine W_seq ?_
              refine W_region ?_
              refine o_mvt rfl ?_
              refine op_run (r_eql rfl rfl) rfl ?_
              refine o_mvt rfl ?_
              obtain ⟨q1, q2, q3, q4⟩ := blkC_good hTT hV hE h44
              rw [← hp3] at q1 q2 q3 q4
              simp only at q1 q2 q3 q4
              subst q1; subst q2
              have hDV : Tp = true → D.val = V := q3
              refine g_split rfl rfl rfl (fun g51 => ?_) (fun g => absurd g (by simp))
              refine o_mvt (g_yes rfl rfl rfl g51) ?_
              refine o_mvt (g_yes rfl rfl rfl g51) ?_
              refine op_run (r_eqlB rfl rfl rfl) (g_yes rfl rfl rfl g51) ?_
              refine o_pkTt rfl g51 rfl ?_
              refine o_mvt rfl ?_
              refine g_split rfl rfl rfl (fun g52 => ?_) (fun g => absurd g (by simp))
              refine o_mvt (g_yes rfl rfl rfl g52) ?_
              refine op_run (r_not rfl) (g_yes rfl rfl rfl g52) ?_
              refine o_mvt (g_yes rfl rfl rfl g52) ?_
              refine g_split rfl rfl rfl (fun g53 => ?_) (fun g53 => ?_)
              · refine op_run (r_sliceA rfl rfl rfl) (g_yes rfl rfl rfl (by rw [g53] <;> rfl)) ?_
                refine o_mvt (g_yes rfl rfl rfl (by rw [g53] <;> rfl)) ?_
                refine op_call rfl rfl (g_yes rfl rfl rfl (by rw [g53] <;> rfl)) (ref01_Same _ _ _ D.val V (by have h := By.of_at (b := b16) (off := 0) (c := 32) (bs := D.val) (fun j u hj => by rw [Nat.zero_add]; exact hBe.cell hj) (Nat.le_of_eq D.2) (by unfold maxLen; omega); rw [D.2] at h; exact h) hbv) ?_; rintro v54 w54 ⟨rfl, hk54⟩
                refine o_pkFt rfl (by rw [g53] <;> rfl) (g_yes rfl rfl rfl g52) ?_
                refine o_pkTt rfl g52 rfl ?_
                refine o_mvt rfl ?_
                refine g_split rfl rfl rfl (fun g55 => ?_) (fun g => absurd g (by simp [hDV (by simpa using g53)]))
                have g53 : Tp = true := by simpa using g53
                refine o_mvt (g_yes rfl rfl rfl g55) ?_
                refine o_mvt (g_yes rfl rfl rfl g55) ?_
                refine op_skip (g_no rfl rfl rfl g53) ?_
                refine op_skip (g_no rfl rfl rfl g53) ?_
                refine op_skip (g_no rfl rfl rfl g53) ?_
                refine o_pkTc rfl g53 (g_yes rfl rfl rfl g55) ?_
                refine o_pkTt rfl g55 rfl ?_
                refine o_ast rfl ?_
                refine ops_nil ?_
                refine W_ret ?_
                refine ret1 (.bool true) rfl ?_ ?_; rfl
                exact ⟨rfl, hkF.trans hk54⟩
              · refine op_skip (g_no rfl rfl rfl (by rw [g53] <;> rfl)) ?_
                refine op_skip (g_no rfl rfl rfl (by rw [g53] <;> rfl)) ?_
                refine op_skip (g_no rfl rfl rfl (by rw [g53] <;> rfl)) ?_
                refine o_pkTc rfl (by rw [g53] <;> rfl) (g_yes rfl rfl rfl g52) ?_
                refine o_pkTt rfl g52 rfl ?_
                refine o_mvt rfl ?_
                refine o_mvt (g_yes rfl rfl rfl rfl) ?_
                refine o_mvt (g_yes rfl rfl rfl rfl) ?_
                have g53 : Tp = false := by simpa using g53
                refine op_run (r_loadA (dgR D) rfl rfl rfl (by first | rfl | (rw [binV_len]; rfl) | (rw [dgR_len]; rfl) | (rw [refR_len]; rfl) | (rw [secR_len]; rfl) | (rw [List.length_map, tagF_len]; rfl) | rfl) (hBe.all)) (g_yes rfl rfl rfl g53) ?_
                refine op_run (r_buildA ((dgR Dig.zero)) (_) ([]) rfl rfl rfl rfl rfl (by rw [dgR_zero]; rfl)) (g_yes rfl rfl rfl g53) ?_
                refine op_run (r_eqlC (p := D = Dig.zero) rfl rfl rfl rfl (by kernel_rfl) (okC_dgR _) (okC_dgR _) rfl (dgR_inj)) (g_yes rfl rfl rfl g53) ?_
                refine o_pkFt rfl g53 (g_yes rfl rfl rfl rfl) ?_
                refine o_pkTt rfl rfl rfl ?_
                refine o_ast rfl ?_
                refine ops_nil ?_
                refine W_ret ?_
                refine ret1 (.bool (decide (D = Dig.zero))) rfl ?_ ?_; rfl
                exact ⟨congrArg Value.bool (decide_eq_true (q4 (by simpa using g53))), hkF⟩
end Go.Proofs.YtigehkfdfecfoaaDoor.B
