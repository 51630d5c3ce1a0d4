/-
  AuditChecks: the walk.
-/
import Derived.Test.YtigehkfdfecfoaaAud11
namespace Go.Proofs.Ytigehkfdfecfoaa.B
open Go
set_option linter.unusedVariables false
set_option maxHeartbeats 2000000
set_option maxRecDepth 100000
attribute [local irreducible] W OpsW OpsQ retP
attribute [local irreducible] numR cOf
theorem au_CheckS (w : World) (n : Nat) (hn : n < 2 ^ 64) (root : Dig) (v : Value) (vks : List Value) (xs : List (List UInt8)) (hv : RowsV w v vks xs) (h40 : xs.length ≤ 40) (hl : ∀ x ∈ xs, x.length ≤ 3000) :
    Ret Try.prog 31 [.int .u64 n, .agg (dgR root).toArray, v].toArray w fun r w' => Keep All w w' ∧ ∃ m u ev eks S E Z, r = .tuple #[.agg (stV m u ev).toArray, .int .i64 Z] ∧ one u = true ∧ one ev = true ∧ StoryIn w' u ev eks S E ∧
      ((¬ tellsA n root xs ∧ Z = 3 ∧ m = 0 ∧ S = [] ∧ E = []) ∨ (tellsA n root xs ∧ Z = 0 ∧ m = n ∧ S = storyS xs ∧ E = storyE xs)) :=
  (au_Check w n hn root v vks xs hv h40 hl).mono fun e w' ⟨r, he, hk, hr⟩ => ⟨r, he, hk, by
    rcases hr with ⟨h1, rfl⟩ | ⟨h1, u, ev, evks, rfl, h2, h3⟩
    · exact ⟨_, _, _, [], [], [], _, rfl, rfl, rfl, storyIn_nil _, .inl ⟨h1, rfl, rfl, rfl, rfl⟩⟩
    · have h2' := h2
      have h3' := h3
      obtain ⟨au, cu, rfl, _, _⟩ := h2.form
      obtain ⟨ae, ce, rfl, _, _⟩ := h3.2.1.form
      exact ⟨_, _, _, evks, _, _, _, rfl, rfl, rfl, ⟨h2', h3'⟩, .inr ⟨h1, rfl, rfl, rfl, rfl⟩⟩⟩
theorem walk_AuditChecks (w : World) (n : Nat) (hn : n < 2 ^ 64) (root : Dig) (v : Value) (vks : List Value) (xs : List (List UInt8)) (hv : RowsV w v vks xs) :
    Ret Try.prog 6 [.int .u64 n, .agg (dgR root).toArray, v].toArray w fun r w' => r = .bool true ∧ Keep All w w' := by
  obtain ⟨a0, c0, rfl, hc0, hcm0⟩ := hv.2.1.form
  refine enter (fn := Try.f6) (n := 45) Try.func6 rfl rfl (by simp) ?_
  refine W_seq ?_
  refine W_region ?_
  refine o_box rfl rfl rfl ?_; intro w1 b1 e1 hB1 hk1 hs1
  have hB1 : Blk w1 b1 (dgR root) 29 := hB1
  refine o_asc rfl ?_
  refine ops_nil ?_
  refine W_seq ?_
  refine W_seq ?_
  refine W_region ?_
  refine op_call rfl rfl rfl (speaks17 w1) ?_; rintro v2 w2 ⟨rfl, hk2⟩
  have hk02 := hk1.trans hk2
  refine op_run (r_not rfl) rfl ?_
  refine ops_nil ?_
  refine W_no rfl (rfl) ?_
  refine W_skip ?_
  refine W_seq ?_
  refine W_seq ?_
  refine W_region ?_
  refine o_mvt rfl ?_
  refine op_call rfl rfl rfl (great17 w2 _ _ xs (hv.k hk02)) ?_; rintro v5 w5 ⟨rfl, hk5⟩
  refine ops_nil ?_
  refine W_cond_p rfl (fun h6 => ?_) (fun h6 => ?_)
  · refine W_seq ?_
    refine W_region ?_
    refine o_asc rfl ?_
    refine ops_nil ?_
    refine W_ret ?_
    refine ret1 (.bool true) rfl ?_ ?_; rfl
    exact ⟨rfl, hk02.trans hk5⟩
  · refine W_skip ?_
    refine W_seq ?_
    refine W_region ?_
    refine o_mvt rfl ?_
    obtain ⟨h40, hl⟩ := greatA_not h6
    have hk05 := hk02.trans hk5
    refine op_run (r_loadA (dgR root) rfl rfl rfl (by first | rfl | (rw [binV_len]; rfl) | (rw [dgR_len]; rfl) | (rw [refR_len]; rfl) | (rw [secR_len]; rfl) | (rw [List.length_map, tagF_len]; rfl) | rfl) (((hk2.trans hk5).blk' hB1 trivial).all)) rfl ?_
    refine o_mvt rfl ?_
    refine op_call rfl rfl rfl (au_CheckS w5 n hn root _ vks xs (hv.k hk05) h40 hl) ?_; rintro v9 w9 ⟨hk9, m, u, ev, eks, S, E, Z, rfl, hu9, hev9, hS9, hZ⟩
    refine o_mvt rfl ?_
    refine op_run (r_extract rfl rfl) rfl ?_
    refine op_run (r_extract rfl rfl) rfl ?_
    refine o_alloc rfl rfl rfl ?_; intro w10 b10 e10 hB10 hk10 hs10
    refine o_storeA (cs := stV m u ev) rfl rfl (by first | rfl | exact binV_one _ | exact dgR_one _ | exact refR_one _ | exact secR_one _ | exact all_c8 _ | exact stV_one (by assumption) (by assumption)) (by first | rfl | (rw [binV_len]; rfl) | (rw [dgR_len]; rfl) | (rw [refR_len]; rfl) | (rw [secR_len]; rfl) | (rw [List.length_map, tagF_len]; rfl) | rfl) hB10 (by exact Nat.le_refl _) rfl ?_; intro w11 hB11 hk11 hs11
    have hB11 : Blk w11 b10 (stV m u ev) 71 := hB11
    have hz9 := hk9.size
    have hk911 : Keep All w9 w11 := hk10.new hk11 (by omega)
    have hS11 : StoryIn w11 u ev eks S E := hS9.k hk911
    have hk511 := hk9.trans hk911
    have hk011 := hk05.trans hk511
    refine o_ast rfl ?_
    refine ops_nil ?_
    refine W_seq ?_
    refine W_region ?_
    refine o_mvt rfl ?_
    refine op_run (r_loadA (dgR root) rfl rfl rfl (by first | rfl | (rw [binV_len]; rfl) | (rw [dgR_len]; rfl) | (rw [refR_len]; rfl) | (rw [secR_len]; rfl) | (rw [List.length_map, tagF_len]; rfl) | rfl) ((((hk2.trans hk5).trans hk511).blk' hB1 trivial).all)) rfl ?_
    refine o_mvt rfl ?_
    refine op_call rfl rfl rfl (told17 w11 n hn root _ vks xs (hv.k hk011) h40 hl) ?_; rintro v13 w13 ⟨m2, u2, ev2, eks2, S2, E2, B, rfl, hu2, hev2, htB, hS13, hBB, hk13⟩
    refine o_mvt rfl ?_
    refine op_run (r_extract rfl rfl) rfl ?_
    refine op_run (r_extract rfl rfl) rfl ?_
    refine o_alloc rfl rfl rfl ?_; intro w14 b14 e14 hB14 hk14 hs14
    refine o_storeA (cs := stV m2 u2 ev2) rfl rfl (by first | rfl | exact binV_one _ | exact dgR_one _ | exact refR_one _ | exact secR_one _ | exact all_c8 _ | exact stV_one (by assumption) (by assumption)) (by first | rfl | (rw [binV_len]; rfl) | (rw [dgR_len]; rfl) | (rw [refR_len]; rfl) | (rw [secR_len]; rfl) | (rw [List.length_map, tagF_len]; rfl) | rfl) hB14 (by exact Nat.le_refl _) rfl ?_; intro w15 hB15 hk15 hs15
    have hB15 : Blk w15 b14 (stV m2 u2 ev2) 71 := hB15
    have hk1315 : Keep All w13 w15 := hk14.new hk15 (by omega)
    have hB11e := hk1315.blk' (hk13.blk' hB11 trivial) trivial
    have hkF := (hk011.trans hk13).trans hk1315
    have hSa := hS11.k (hk13.trans hk1315)
    have hSb := hS13.k hk1315
    refine o_ast rfl ?_
    refine ops_nil ?_
    refine W_seq ?_
    refine W_seq ?_
    refine W_region ?_
    refine o_mvt rfl ?_
    refine op_run (r_not rfl) rfl ?_
    refine ops_nil ?_
    refine W_cond rfl (fun h16 => ?_) (fun h16 => ?_)
    · refine W_seq ?_
      refine W_region ?_
      refine o_mvt rfl ?_
      refine op_run (r_eql rfl rfl) rfl ?_
      refine o_mvt rfl ?_
      have hBf : B = false := by simpa using h16
      obtain ⟨_, hZ3, hm0, hS0, hE0⟩ := hZ.resolve_right (fun h => by rw [htB.2 h.1] at hBf; cases hBf)
      refine g_split rfl rfl rfl (fun g17 => ?_) (fun g17 => ?_)
      · refine op_run (r_loadA (stV m u ev) rfl rfl rfl (by first | rfl | (rw [binV_len]; rfl) | (rw [dgR_len]; rfl) | (rw [refR_len]; rfl) | (rw [secR_len]; rfl) | (rw [List.length_map, tagF_len]; rfl) | rfl) (hB11e.all)) (g_yes rfl rfl rfl g17) ?_
        refine op_run (r_build ((stV 0 nilV nilV)) (_) ([]) rfl rfl rfl rfl rfl (rfl)) (g_yes rfl rfl rfl g17) ?_
        refine op_call rfl rfl (g_yes rfl rfl rfl g17) (same17 w15 m 0 _ _ _ _ eks [] S [] E [] hSa (storyIn_nil _)) ?_; rintro v20 w20 ⟨rfl, hk20⟩
        refine o_pkTt rfl g17 rfl ?_
        refine o_ast rfl ?_
        refine ops_nil ?_
        refine W_ret ?_
        refine ret1 (.bool (decide (m = 0 ∧ S = [] ∧ E = []))) rfl ?_ ?_; rfl
        exact ⟨congrArg Value.bool (decide_eq_true ⟨hm0, hS0, hE0⟩), hkF.trans hk20⟩
      · refine op_skip (g_no rfl rfl rfl g17) ?_
        refine op_skip (g_no rfl rfl rfl g17) ?_
        refine op_skip (g_no rfl rfl rfl g17) ?_
        refine o_pkFc rfl g17 rfl ?_
        refine o_ast rfl ?_
        refine ops_nil ?_
        refine W_ret ?_
        refine ret1 (.bool false) rfl ?_ ?_; rfl
        exact absurd (by rw [hZ3]) (of_decide_eq_false g17)
    · refine W_skip ?_
      refine W_seq ?_
      refine W_region ?_
      refine o_mvt rfl ?_
      refine op_run (r_eql rfl rfl) rfl ?_
      refine o_mvt rfl ?_
      have hBt : B = true := by simpa using h16
      obtain ⟨_, hZ0, hm0, hS0, hE0⟩ := hZ.resolve_left (fun h => h.1 (htB.1 hBt))
      obtain ⟨hm2, hS2, hE2⟩ := hBB hBt
      refine g_split rfl rfl rfl (fun g23 => ?_) (fun g23 => ?_)
      · refine op_run (r_loadA (stV m u ev) rfl rfl rfl (by first | rfl | (rw [binV_len]; rfl) | (rw [dgR_len]; rfl) | (rw [refR_len]; rfl) | (rw [secR_len]; rfl) | (rw [List.length_map, tagF_len]; rfl) | rfl) (hB11e.all)) (g_yes rfl rfl rfl g23) ?_
        refine op_run (r_loadA (stV m2 u2 ev2) rfl rfl rfl (by first | rfl | (rw [binV_len]; rfl) | (rw [dgR_len]; rfl) | (rw [refR_len]; rfl) | (rw [secR_len]; rfl) | (rw [List.length_map, tagF_len]; rfl) | rfl) (hB15.all)) (g_yes rfl rfl rfl g23) ?_
        refine op_call rfl rfl (g_yes rfl rfl rfl g23) (same17 w15 m m2 _ _ _ _ eks eks2 S S2 E E2 hSa hSb) ?_; rintro v26 w26 ⟨rfl, hk26⟩
        refine o_pkTt rfl g23 rfl ?_
        refine o_ast rfl ?_
        refine ops_nil ?_
        refine W_ret ?_
        refine ret1 (.bool (decide (m = m2 ∧ S = S2 ∧ E = E2))) rfl ?_ ?_; rfl
        exact ⟨congrArg Value.bool (decide_eq_true ⟨hm0.trans hm2.symm, hS0.trans hS2.symm, hE0.trans hE2.symm⟩), hkF.trans hk26⟩
      · refine op_skip (g_no rfl rfl rfl g23) ?_
        refine op_skip (g_no rfl rfl rfl g23) ?_
        refine op_skip (g_no rfl rfl rfl g23) ?_
        refine o_pkFc rfl g23 rfl ?_
        refine o_ast rfl ?_
        refine ops_nil ?_
        refine W_ret ?_
        refine ret1 (.bool false) rfl ?_ ?_; rfl
        exact absurd (by rw [hZ0]) (of_decide_eq_false g23)
end Go.Proofs.Ytigehkfdfecfoaa.B
