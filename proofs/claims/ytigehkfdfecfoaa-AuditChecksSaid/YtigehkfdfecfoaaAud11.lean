/-
  What is told: rows of events that are one, stories that are one; AuditChecks: the walk.
-/
import Derived.Test.YtigehkfdfecfoaaAud10
namespace Go.Proofs.Ytigehkfdfecfoaa.B
open Go
set_option linter.unusedVariables false
set_option maxHeartbeats 2000000
set_option maxRecDepth 100000
attribute [local irreducible] W OpsW OpsQ retP
attribute [local irreducible] numR cOf
theorem rf03_SameA (w : World) (va vb : Value) (xs ys : List Dig) (hx : Sl w va xs.length 32 (rows dgR xs)) (hy : Sl w vb ys.length 32 (rows dgR ys)) :
    Ret Try.prog 60 [va, vb].toArray w fun r w' => r = .bool (decide (xs = ys)) ∧ Keep All w w' := by
  obtain ⟨a, ca, rfl, hca, hcma⟩ := hx.form
  obtain ⟨b, cb, rfl, hcb, hcmb⟩ := hy.form
  refine enter (fn := Try.f60) (n := 26) Try.func60 rfl rfl (by simp) ?_
  refine W_seq ?_
  refine W_region ?_
  refine o_asc rfl ?_
  refine ops_nil ?_
  refine W_seq ?_
  refine W_seq ?_
  refine W_region ?_
  refine o_mvt rfl ?_
  refine op_run (r_len rfl rfl rfl) rfl ?_
  refine o_mvt rfl ?_
  refine op_run (r_len rfl rfl rfl) rfl ?_
  refine op_run (r_neq rfl rfl) rfl ?_
  refine ops_nil ?_
  refine W_cond_p rfl (fun h1 => ?_) (fun h1 => ?_)
  · refine W_seq ?_
    refine W_region ?_
    refine o_asc rfl ?_
    refine ops_nil ?_
    refine W_ret ?_
    refine ret1 (.bool false) rfl ?_ ?_; rfl
    exact ⟨by rw [decide_eq_false]; intro e; subst e; exact h1 rfl, Keep.refl _⟩
  · refine W_skip ?_
    refine W_seq ?_
    refine W_seq ?_
    refine W_region ?_
    refine o_asc rfl ?_
    refine ops_nil ?_
    refine W_block ?_
    refine W_loop [5] [4, 5, 11, 12, 13, 14, 15, 16, 17, 18, 19, 20, 21, 22, 23, 24, 25] (fun vs w1 => ∃ k : Nat, vs = [.int .i64 k] ∧ k ≤ xs.length ∧ xs.take k = ys.take k ∧ Keep All w w1) (fun vs _ => match vs with | [.int _ y] => xs.length - y.toNat | _ => 0) ⟨0, rfl, Nat.zero_le _, by simp, Keep.refl _⟩ ?_
    rintro J vs w1 ⟨k, rfl, hk, htk, hk1⟩ -
    have hlen : xs.length = ys.length := by simp only [Decidable.not_not] at h1; omega
    refine W_seq ?_
    refine W_seq ?_
    refine W_region ?_
    refine o_mvt rfl ?_
    refine o_mvt rfl ?_
    refine op_run (r_len rfl rfl rfl) rfl ?_
    refine op_run (r_lss rfl rfl) rfl ?_
    refine ops_nil ?_
    refine W_cond_p rfl (fun h4 => ?_) (fun h4 => ?_)
    · refine W_skip ?_
      refine W_seq ?_
      refine W_block ?_
      refine W_seq ?_
      obtain ⟨ba, offa, rfl, hxa⟩ := rows_at' (i := k) dgR_len hx (by omega) (by decide)
      obtain ⟨bb, offb, rfl, hya⟩ := rows_at' (i := k) dgR_len hy (by omega) (by decide)
      have hkx : k < xs.length := by omega
      have hky : k < ys.length := by omega
      obtain ⟨x, ex⟩ : ∃ x, x = xs[k] := ⟨_, rfl⟩
      obtain ⟨y, ey⟩ : ∃ y, y = ys[k] := ⟨_, rfl⟩
      rw [← ex] at hxa
      rw [← ey] at hya
      refine W_quiet (Keep All w1) (by kernel_rfl) (by kernel_rfl) (Keep.drawn _) ?_
      refine q_mvt rfl ?_
      refine q_mvt rfl ?_
      refine q_run (fun _ _ => r_idxS rfl rfl rfl ti_dg (by omega) (by omega)) rfl ?_
      refine q_run (fun _ hk => r_loadA (dgR x) rfl rfl rfl (by first | rfl | (rw [binV_len]; rfl) | (rw [dgR_len]; rfl) | (rw [refR_len]; rfl) | (rw [secR_len]; rfl) | (rw [List.length_map, tagF_len]; rfl)) ((by intro u v hu; rw [Int.toNat_natCast]; exact (hk1.trans hk).cell (hxa u v hu) trivial))) rfl ?_
      refine q_mvt rfl ?_
      refine q_mvt rfl ?_
      refine q_run (fun _ _ => r_idxS rfl rfl rfl ti_dg (by omega) (by omega)) rfl ?_
      refine q_run (fun _ hk => r_loadA (dgR y) rfl rfl rfl (by first | rfl | (rw [binV_len]; rfl) | (rw [dgR_len]; rfl) | (rw [refR_len]; rfl) | (rw [secR_len]; rfl) | (rw [List.length_map, tagF_len]; rfl)) ((by intro u v hu; rw [Int.toNat_natCast]; exact (hk1.trans hk).cell (hya u v hu) trivial))) rfl ?_
      refine q_run (fun _ _ => (r_neqC (p := x = y) rfl rfl rfl rfl (by kernel_rfl) (okC_dgR _) (okC_dgR _) rfl (dgR_inj))) rfl ?_
      refine q_nil ?_; intro w11 hk11
      refine W_cond rfl (fun h12 => ?_) (fun h12 => ?_)
      · refine W_seq ?_
        refine W_region ?_
        refine o_asc rfl ?_
        refine ops_nil ?_
        refine W_ret ?_
        refine ret1 (.bool false) rfl ?_ ?_; rfl
        refine ⟨by rw [decide_eq_false]; intro e; subst e; subst ex; subst ey; exact absurd h12 (by simp), hk1.trans hk11⟩
      · refine W_skip ?_
        refine W_region ?_
        refine o_mvt rfl ?_
        refine op_run (r_add rfl rfl) rfl ?_
        refine o_ast rfl ?_
        refine ops_nil ?_
        have hxy : xs[k] = ys[k] := by rw [← ex, ← ey]; simpa using h12
        have e : IntKind.i64.wrap ((k : Int) + 1) = ((k + 1 : Nat) : Int) := by unfold maxLen at hcma; rw [wrap_i64 (by omega) (by omega)]; omega
        refine ⟨by (repeat (first | with_reducible exact offM_refl _ _ | refine offM_updc rfl ?_ | refine offM_upd rfl ?_ | refine offM_updo rfl ?_ | refine offM_updo_none ?_ | refine offM_head rfl rfl ?_)), ⟨k + 1, congrArg (fun z : Int => [Value.int .i64 z]) e, by omega, ?_, hk1.trans hk11⟩, ?_⟩
        · rw [List.take_succ_eq_append_getElem hkx, List.take_succ_eq_append_getElem hky, htk, hxy]
        · show xs.length - (IntKind.i64.wrap ((k : Int) + 1)).toNat < xs.length - (k : Int).toNat
          rw [e]; omega
    · refine W_exit ?_
      refine W_seq ?_
      refine W_region ?_
      refine o_asc rfl ?_
      refine ops_nil ?_
      refine W_ret ?_
      refine ret1 (.bool true) rfl ?_ ?_; rfl
      refine ⟨?_, hk1⟩
      rw [decide_eq_true]
      have hlen : xs.length = ys.length := by simp only [Decidable.not_not] at h1; omega
      have e : k = xs.length := by omega
      subst e
      rw [List.take_length, hlen, List.take_length] at htk
      exact htk
theorem rf16_Same (w : World) (va vb : Value) (vxs vys : List Value) (xs ys : List (List UInt8)) (hx : RowsV w va vxs xs) (hy : RowsV w vb vys ys) :
    Ret Try.prog 61 [va, vb].toArray w fun r w' => r = .bool (decide (xs = ys)) ∧ Keep All w w' := by
  obtain ⟨a, ca, rfl, hca, hcma⟩ := hx.2.1.form
  obtain ⟨b, cb, rfl, hcb, hcmb⟩ := hy.2.1.form
  have hxl := hx.1
  have hyl := hy.1
  refine enter (fn := Try.f61) (n := 27) Try.func61 rfl rfl (by simp) ?_
  refine W_seq ?_
  refine W_region ?_
  refine o_asc rfl ?_
  refine ops_nil ?_
  refine W_seq ?_
  refine W_seq ?_
  refine W_region ?_
  refine o_mvt rfl ?_
  refine op_run (r_len rfl rfl rfl) rfl ?_
  refine o_mvt rfl ?_
  refine op_run (r_len rfl rfl rfl) rfl ?_
  refine op_run (r_neq rfl rfl) rfl ?_
  refine ops_nil ?_
  refine W_cond_p rfl (fun h1 => ?_) (fun h1 => ?_)
  · refine W_seq ?_
    refine W_region ?_
    refine o_asc rfl ?_
    refine ops_nil ?_
    refine W_ret ?_
    refine ret1 (.bool false) rfl ?_ ?_; rfl
    exact ⟨by rw [decide_eq_false]; intro e; subst e; exact h1 rfl, Keep.refl _⟩
  · refine W_skip ?_
    refine W_seq ?_
    refine W_seq ?_
    refine W_region ?_
    refine o_asc rfl ?_
    refine ops_nil ?_
    refine W_block ?_
    refine W_loop [5] [4, 5, 11, 12, 13, 14, 15, 16, 17, 18, 19, 20, 21, 22, 23, 24, 25, 26] (fun vs w1 => ∃ k : Nat, vs = [.int .i64 k] ∧ k ≤ xs.length ∧ xs.take k = ys.take k ∧ Keep All w w1) (fun vs _ => match vs with | [.int _ y] => xs.length - y.toNat | _ => 0) ⟨0, rfl, Nat.zero_le _, by simp, Keep.refl _⟩ ?_
    rintro J vs w1 ⟨k, rfl, hk, htk, hk1⟩ -
    have hlen : xs.length = ys.length := by simp only [Decidable.not_not] at h1; omega
    refine W_seq ?_
    refine W_seq ?_
    refine W_region ?_
    refine o_mvt rfl ?_
    refine o_mvt rfl ?_
    refine op_run (r_len rfl rfl rfl) rfl ?_
    refine op_run (r_lss rfl rfl) rfl ?_
    refine ops_nil ?_
    refine W_cond_p rfl (fun h4 => ?_) (fun h4 => ?_)
    · refine W_skip ?_
      refine W_seq ?_
      refine W_block ?_
      refine W_seq ?_
      have hkx : k < xs.length := by omega
      have hky : k < ys.length := by omega
      obtain ⟨x, hxk⟩ : ∃ x, xs[k]? = some x := ⟨_, List.getElem?_eq_getElem hkx⟩
      obtain ⟨y, hyk⟩ : ∃ y, ys[k]? = some y := ⟨_, List.getElem?_eq_getElem hky⟩
      obtain ⟨vx, hvx⟩ : ∃ v, vxs[k]? = some v := ⟨_, List.getElem?_eq_getElem (by omega)⟩
      obtain ⟨vy, hvy⟩ : ∃ v, vys[k]? = some v := ⟨_, List.getElem?_eq_getElem (by omega)⟩
      obtain ⟨bp, op, cp, ep, hcx⟩ := (hx.k hk1).at hvx
      cases ep
      obtain ⟨bq, oq, cq, eq_, hcy⟩ := (hy.k hk1).at hvy
      cases eq_
      have hbx := (hx.k hk1).2.2 k vx x hvx hxk
      have hby := (hy.k hk1).2.2 k vy y hvy hyk
      refine W_quiet (Keep All w1) (by kernel_rfl) (by kernel_rfl) (Keep.drawn _) ?_
      refine q_mvt rfl ?_
      refine q_mvt rfl ?_
      refine q_run (fun _ _ => r_idxS1 rfl rfl rfl rfl (by omega) (by omega)) rfl ?_
      refine q_run (fun _ hk => r_load rfl rfl rfl (hk.cell (by rw [Int.toNat_natCast]; exact hcx) trivial)) rfl ?_
      refine q_mvt rfl ?_
      refine q_mvt rfl ?_
      refine q_run (fun _ _ => r_idxS1 rfl rfl rfl rfl (by omega) (by omega)) rfl ?_
      refine q_run (fun _ hk => r_load rfl rfl rfl (hk.cell (by rw [Int.toNat_natCast]; exact hcy) trivial)) rfl ?_
      refine q_call rfl rfl rfl (fun _ hk => (ref01_Same _ _ _ x y (hbx.k hk) (hby.k hk)).mono fun e w'' ⟨u, he, h1, h2⟩ => ⟨u, he, h1, hk.trans h2⟩) ?_
      refine q_run (fun _ _ => (r_not rfl)) rfl ?_
      refine q_nil ?_; intro w11 hk11
      refine W_cond rfl (fun h12 => ?_) (fun h12 => ?_)
      · refine W_seq ?_
        refine W_region ?_
        refine o_asc rfl ?_
        refine ops_nil ?_
        refine W_ret ?_
        refine ret1 (.bool false) rfl ?_ ?_; rfl
        refine ⟨by rw [decide_eq_false]; intro e; subst e; rw [hxk] at hyk; injection hyk with hyk; subst hyk; exact absurd h12 (by simp), hk1.trans hk11⟩
      · refine W_skip ?_
        refine W_region ?_
        refine o_mvt rfl ?_
        refine op_run (r_add rfl rfl) rfl ?_
        refine o_ast rfl ?_
        refine ops_nil ?_
        have hxy : x = y := by simpa using h12
        have e := inc64' k (by unfold maxLen at hcma; omega)
        refine ⟨by (repeat (first | with_reducible exact offM_refl _ _ | refine offM_updc rfl ?_ | refine offM_upd rfl ?_ | refine offM_updo rfl ?_ | refine offM_updo_none ?_ | refine offM_head rfl rfl ?_)), ⟨k + 1, congrArg (fun z : Int => [Value.int .i64 z]) e, by omega, ?_, hk1.trans hk11⟩, ?_⟩
        · rw [List.take_succ_eq_append_getElem hkx, List.take_succ_eq_append_getElem hky, htk, (List.getElem?_eq_some_iff.1 hxk).2, (List.getElem?_eq_some_iff.1 hyk).2, hxy]
        · show xs.length - (IntKind.i64.wrap ((k : Int) + 1)).toNat < xs.length - (k : Int).toNat
          rw [e]; omega
    · refine W_exit ?_
      refine W_seq ?_
      refine W_region ?_
      refine o_asc rfl ?_
      refine ops_nil ?_
      refine W_ret ?_
      refine ret1 (.bool true) rfl ?_ ?_; rfl
      refine ⟨?_, hk1⟩
      rw [decide_eq_true]
      have hlen : xs.length = ys.length := by simp only [Decidable.not_not] at h1; omega
      have e : k = xs.length := by omega
      subst e
      rw [List.take_length, hlen, List.take_length] at htk
      exact htk
/-- A story in memory. -/
def StoryIn (w : World) (u ev : Value) (eks : List Value) (S : List Dig) (E : List (List UInt8)) : Prop := Sl w u S.length 32 (rows dgR S) ∧ RowsV w ev eks E
theorem StoryIn.k {w w' : World} {u ev : Value} {eks : List Value} {S : List Dig} {E : List (List UInt8)} (h : StoryIn w u ev eks S E) (hk : Keep All w w') : StoryIn w' u ev eks S E := ⟨h.1.keepE hk fun _ _ => trivial, h.2.k hk⟩
theorem storyIn_nil (w : World) : StoryIn w nilV nilV [] [] [] := ⟨Sl.nil _ _, rowsV_nil _⟩
theorem same17 (w : World) (n m : Nat) (u ev u2 ev2 : Value) (eks eks2 : List Value) (S S2 : List Dig) (E E2 : List (List UInt8)) (h1 : StoryIn w u ev eks S E) (h2 : StoryIn w u2 ev2 eks2 S2 E2) :
    Ret Try.prog 33 [.agg (stV n u ev).toArray, .agg (stV m u2 ev2).toArray].toArray w fun r w' => r = .bool (decide (n = m ∧ S = S2 ∧ E = E2)) ∧ Keep All w w' := by
  obtain ⟨a, ca, rfl, hca, hcma⟩ := h1.1.form
  obtain ⟨b, cb, rfl, hcb, hcmb⟩ := h1.2.2.1.form
  obtain ⟨a2, ca2, rfl, hca2, hcma2⟩ := h2.1.form
  obtain ⟨b2_, cb2, rfl, hcb2, hcmb2⟩ := h2.2.2.1.form
  refine enter (fn := Try.f33) (n := 24) Try.func33 rfl rfl (by simp) ?_
  refine W_seq ?_
  refine W_region ?_
  refine o_box rfl rfl rfl ?_; intro w1 b1 e1 hB1 hk1 hs1
  have hB1 : Blk w1 b1 (stV n (.slice a S.length ca) (.slice b E.length cb)) 71 := hB1
  refine o_box rfl rfl rfl ?_; intro w2 b2 e2 hB2 hk2 hs2
  have hB2 : Blk w2 b2 (stV m (.slice a2 S2.length ca2) (.slice b2_ E2.length cb2)) 71 := hB2
  have hk02 := hk1.trans hk2
  have hB1 := hk2.blk' hB1 trivial
  refine o_asc rfl ?_
  refine ops_nil ?_
  refine W_seq ?_
  refine W_region ?_
  refine op_run (r_fieldAddr rfl rfl rfl rfl rfl) rfl ?_
  refine op_run (r_load rfl rfl rfl (hB1.cell rfl)) rfl ?_
  refine op_run (r_fieldAddr rfl rfl rfl rfl rfl) rfl ?_
  refine op_run (r_load rfl rfl rfl (hB2.cell rfl)) rfl ?_
  refine op_run (r_eql rfl rfl) rfl ?_
  refine o_mvt rfl ?_
  refine g_split rfl rfl rfl (fun g5 => ?_) (fun g5 => ?_)
  · refine op_run (r_fieldAddr rfl rfl rfl rfl rfl) (g_yes rfl rfl rfl g5) ?_
    refine op_run (r_load rfl rfl rfl (hB1.cell rfl)) (g_yes rfl rfl rfl g5) ?_
    refine op_run (r_fieldAddr rfl rfl rfl rfl rfl) (g_yes rfl rfl rfl g5) ?_
    refine op_run (r_load rfl rfl rfl (hB2.cell rfl)) (g_yes rfl rfl rfl g5) ?_
    refine op_call rfl rfl (g_yes rfl rfl rfl g5) (rf03_SameA _ _ _ S S2 (h1.k hk02).1 (h2.k hk02).1) ?_; rintro v8 w8 ⟨rfl, hk8⟩
    refine o_pkTt rfl g5 rfl ?_
    refine o_mvt rfl ?_
    refine g_split rfl rfl rfl (fun g9 => ?_) (fun g9 => ?_)
    · refine op_run (r_fieldAddr rfl rfl rfl rfl rfl) (g_yes rfl rfl rfl g9) ?_
      refine op_run (r_load rfl rfl rfl ((hk8.blk' hB1 trivial).cell rfl)) (g_yes rfl rfl rfl g9) ?_
      refine op_run (r_fieldAddr rfl rfl rfl rfl rfl) (g_yes rfl rfl rfl g9) ?_
      refine op_run (r_load rfl rfl rfl ((hk8.blk' hB2 trivial).cell rfl)) (g_yes rfl rfl rfl g9) ?_
      refine op_call rfl rfl (g_yes rfl rfl rfl g9) (rf16_Same _ _ _ _ _ E E2 (h1.k (hk02.trans hk8)).2 (h2.k (hk02.trans hk8)).2) ?_; rintro v12 w12 ⟨rfl, hk12⟩
      refine o_pkTt rfl g9 rfl ?_
      refine o_ast rfl ?_
      refine ops_nil ?_
      refine W_ret ?_
      refine ret1 (.bool (decide (E = E2))) rfl ?_ ?_; rfl
      have g5 := of_decide_eq_true g5; have g9 := of_decide_eq_true g9
      exact ⟨congrArg Value.bool (by rw [decide_eq_decide]; exact ⟨fun h => ⟨by omega, g9, h⟩, fun h => h.2.2⟩), (hk02.trans hk8).trans hk12⟩
    · refine op_skip (g_no rfl rfl rfl g9) ?_
      refine op_skip (g_no rfl rfl rfl g9) ?_
      refine op_skip (g_no rfl rfl rfl g9) ?_
      refine op_skip (g_no rfl rfl rfl g9) ?_
      refine op_skip (g_no rfl rfl rfl g9) ?_
      refine o_pkFc rfl g9 rfl ?_
      refine o_ast rfl ?_
      refine ops_nil ?_
      refine W_ret ?_
      refine ret1 (.bool false) rfl ?_ ?_; rfl
      have g9 := of_decide_eq_false g9
      exact ⟨congrArg Value.bool (by symm; exact decide_eq_false fun h => g9 h.2.1), hk02.trans hk8⟩
  · refine op_skip (g_no rfl rfl rfl g5) ?_
    refine op_skip (g_no rfl rfl rfl g5) ?_
    refine op_skip (g_no rfl rfl rfl g5) ?_
    refine op_skip (g_no rfl rfl rfl g5) ?_
    refine op_skip (g_no rfl rfl rfl g5) ?_
    refine o_pkFc rfl g5 rfl ?_
    refine o_mvt rfl ?_
    refine op_skip (g_no rfl rfl rfl rfl) ?_
    refine op_skip (g_no rfl rfl rfl rfl) ?_
    refine op_skip (g_no rfl rfl rfl rfl) ?_
    refine op_skip (g_no rfl rfl rfl rfl) ?_
    refine op_skip (g_no rfl rfl rfl rfl) ?_
    refine o_pkFc rfl rfl rfl ?_
    refine o_ast rfl ?_
    refine ops_nil ?_
    refine W_ret ?_
    refine ret1 (.bool false) rfl ?_ ?_; rfl
    have g5 := of_decide_eq_false g5
    exact ⟨congrArg Value.bool (by symm; exact decide_eq_false fun h => g5 (by rw [h.1])), hk02⟩
theorem told17 (w : World) (n : Nat) (hn : n < 2 ^ 64) (root : Dig) (v : Value) (vks : List Value) (xs : List (List UInt8)) (hv : RowsV w v vks xs) (h40 : xs.length ≤ 40) (hl : ∀ x ∈ xs, x.length ≤ 3000) :
    Ret Try.prog 32 [.int .u64 n, .agg (dgR root).toArray, v].toArray w fun r w' => ∃ m u ev eks S E B, r = .tuple #[.agg (stV m u ev).toArray, .bool B] ∧ one u = true ∧ one ev = true ∧ (B = true ↔ tellsA n root xs) ∧ StoryIn w' u ev eks S E ∧
      (B = true → m = n ∧ S = storyS xs ∧ E = storyE xs) ∧ Keep All w w' := by
  obtain ⟨a0, c0, rfl, hc0, hcm0⟩ := hv.2.1.form
  refine enter (fn := Try.f32) (n := 26) Try.func32 rfl rfl (by simp) ?_
  refine W_seq ?_
  refine W_region ?_
  refine o_box rfl rfl rfl ?_; intro w1 b1 e1 hB1 hk1 hs1
  have hB1 : Blk w1 b1 (dgR root) 29 := hB1
  refine o_alloc rfl rfl rfl ?_; intro w2 b2 e2 hB2 hk2 hs2
  refine o_asc rfl ?_
  refine ops_nil ?_
  refine W_seq ?_
  refine W_region ?_
  refine o_mvt rfl ?_
  refine op_run (r_loadA (dgR root) rfl rfl rfl (by first | rfl | (rw [binV_len]; rfl) | (rw [dgR_len]; rfl) | (rw [refR_len]; rfl) | (rw [secR_len]; rfl) | (rw [List.length_map, tagF_len]; rfl) | rfl) ((hk2.blk' hB1 trivial).all)) rfl ?_
  refine o_mvt rfl ?_
  refine op_call rfl rfl rfl (rf17_Check xs.length xs rfl w2 n hn root _ vks (hv.k (hk1.trans hk2)) h40 hl) ?_; rintro v4 w4 ⟨us, ue, uks, S, E, B, rfl, hB4, ⟨hO4, hin4, hS4⟩, ⟨hR4, hG4, hE4⟩, hSE, hk4⟩
  obtain ⟨au, cu, rfl, hcu, hcmu⟩ := hO4.form
  obtain ⟨ae, ce, rfl, hce, hcme⟩ := hR4.2.1.form
  have hz1 := hk1.size
  have hk04 := (hk1.trans hk2).trans hk4
  refine o_mvt rfl ?_
  refine op_run (r_extract rfl rfl) rfl ?_
  refine op_run (r_extract rfl rfl) rfl ?_
  refine op_run (r_extract rfl rfl) rfl ?_
  refine o_ast rfl ?_
  refine o_ast rfl ?_
  refine o_ast rfl ?_
  refine ops_nil ?_
  refine W_seq ?_
  refine W_seq ?_
  refine W_region ?_
  refine o_mvt rfl ?_
  refine op_run (r_not rfl) rfl ?_
  refine ops_nil ?_
  refine W_cond rfl (fun h5 => ?_) (fun h5 => ?_)
  · refine W_seq ?_
    refine W_region ?_
    refine op_run (r_build ((stV 0 nilV nilV)) (_) ([]) rfl rfl rfl rfl rfl (rfl)) rfl ?_
    refine o_storeA (cs := stV 0 nilV nilV) rfl rfl (by first | rfl | exact binV_one _ | exact dgR_one _ | exact refR_one _ | exact secR_one _ | exact all_c8 _ | rfl) (by first | rfl | (rw [binV_len]; rfl) | (rw [dgR_len]; rfl) | (rw [refR_len]; rfl) | (rw [secR_len]; rfl) | (rw [List.length_map, tagF_len]; rfl) | rfl) (hk4.blk' hB2 trivial) (by exact Nat.le_refl _) rfl ?_; intro w7 hB7 hk7 hs7
    have hB7 : Blk w7 b2 (stV 0 nilV nilV) 71 := hB7
    refine o_asc rfl ?_
    refine ops_nil ?_
    refine W_ret ?_
    refine retAT (stV 0 nilV nilV) ((.bool false)) rfl rfl rfl rfl rfl (by first | rfl | (rw [binV_len]; rfl) | (rw [dgR_len]; rfl) | (rw [refR_len]; rfl) | (rw [secR_len]; rfl) | (rw [List.length_map, tagF_len]; rfl) | rfl) (hB7.all) ?_
    have hBf : B = false := by simpa using h5
    exact ⟨_, _, _, _, [], [], false, rfl, rfl, rfl, by rw [← hB4, hBf], storyIn_nil _, (fun h => by cases h), hk04.new hk7 (by omega)⟩
  · refine W_skip ?_
    refine W_seq ?_
    refine W_region ?_
    refine o_mvt rfl ?_
    refine o_mvt rfl ?_
    refine o_mvt rfl ?_
    refine op_run (r_build ((stV n (.slice au S.length cu) (.slice ae E.length ce))) (_) ([(0, .int .u64 n), (1, .slice au S.length cu), (2, .slice ae E.length ce)]) rfl rfl rfl rfl rfl (rfl)) rfl ?_
    refine o_storeA (cs := stV n (.slice au S.length cu) (.slice ae E.length ce)) rfl rfl (by first | rfl | exact binV_one _ | exact dgR_one _ | exact refR_one _ | exact secR_one _ | exact all_c8 _ | rfl) (by first | rfl | (rw [binV_len]; rfl) | (rw [dgR_len]; rfl) | (rw [refR_len]; rfl) | (rw [secR_len]; rfl) | (rw [List.length_map, tagF_len]; rfl) | rfl) (hk4.blk' hB2 trivial) (by exact Nat.le_refl _) rfl ?_; intro w10 hB10 hk10 hs10
    have hB10 : Blk w10 b2 (stV n (.slice au S.length cu) (.slice ae E.length ce)) 71 := hB10
    refine o_asc rfl ?_
    refine ops_nil ?_
    refine W_ret ?_
    refine retAT (stV n (.slice au S.length cu) (.slice ae E.length ce)) ((.bool true)) rfl rfl rfl rfl rfl (by first | rfl | (rw [binV_len]; rfl) | (rw [dgR_len]; rfl) | (rw [refR_len]; rfl) | (rw [secR_len]; rfl) | (rw [List.length_map, tagF_len]; rfl) | rfl) (hB10.all) ?_
    have hBf : B = true := by simpa using h5
    subst hBf
    have hne : ∀ z, w2.heap.size ≤ z → z ≠ b2 := fun z h e => by omega
    exact ⟨_, _, _, uks, S, E, true, rfl, rfl, rfl, hB4, ⟨(hO4.keep hk10 (fun z hz => hne z (hin4 z hz))).sl, hR4.keepN hk10 (hG4.1.mono fun z h => hne z h.1) (fun y hy => (hG4.2 y hy).mono fun z h => hne z h.1)⟩, fun h => ⟨rfl, hSE h⟩, hk04.new hk10 (by omega)⟩
end Go.Proofs.Ytigehkfdfecfoaa.B
