/-
  A disk: New, Write, Clone, Image.
-/
import Derived.Test.YtcbbodjcgjbfaaaDisk
import Derived.Test.YtcbbodjcgjbfaaaGate
namespace Go.Proofs.Ytcbbodjcgjbfaaa.B
open Go
set_option linter.unusedVariables false
set_option maxHeartbeats 2000000
set_option maxRecDepth 100000
attribute [local irreducible] W OpsW OpsQ retP
theorem rows_rep (n : Nat) : rows secR (List.replicate n Sec.zero) = List.replicate (n * 64) (c8 0) := by
  induction n with
  | zero => rfl
  | succ n ih =>
    rw [List.replicate_succ, rows_cons, ih, Nat.add_mul, Nat.one_mul, Nat.add_comm, ← List.replicate_append_replicate]
    congr 1
theorem ti_sec : tinfo Try.prog 28 = some (some (.agg (List.replicate 64 (c8 0)).toArray), 64, 64) := by kernel_rfl
theorem ti_wr : ∃ z, tinfo Try.prog 53 = some (some z, 65, 72) ∧ z.cells.size = 65 := ⟨.agg (.int .i64 0 :: List.replicate 64 (c8 0)).toArray, by kernel_rfl, rfl⟩

theorem secR_inj {s t : Sec} : secR s = secR t ↔ s = t := by
  refine ⟨fun h => Subtype.ext ?_, fun h => by rw [h]⟩
  have hi : Function.Injective c8 := fun a b h => by
    unfold c8 at h
    injection h with h1 h2
    exact UInt8.toNat_inj.1 (by omega)
  unfold secR at h
  exact List.map_inj_right hi |>.1 h
theorem okC_sec (s : Sec) : okC Try.prog 2 28 (secR s) := okC_bytes rfl rfl rfl s.val s.2

theorem ti_secR (s : Sec) : tinfo Try.prog 28 = some (some (.agg (List.replicate 64 (c8 0)).toArray), (secR s).length, 64) := by rw [secR_len]; exact ti_sec

theorem dk_New (w : World) (sz : Int) :
    Ret Try.prog 6 [.int .i64 sz].toArray w fun r w' => ∃ (a : Option Addr) (e : Int), r = .tuple #[.pointer a, .int .i64 e] ∧
      (((sz < 1 ∨ 65536 < sz) ∧ a = none ∧ e = 2 ∧ w' = w) ∨ (¬ (sz < 1 ∨ 65536 < sz) ∧ ∃ b, a = some ⟨b, 0, none⟩ ∧ e = 0 ∧ w.heap.size ≤ b ∧ DkC w' b (fun k => w.heap.size ≤ k) sz.toNat (List.replicate sz.toNat Sec.zero) [] 0 ∧ Keep All w w')) := by
  refine enter (fn := Try.f6) (n := 14) Try.func6 rfl rfl (by simp) ?_
  refine W_seq ?_
  refine W_region ?_
  refine o_asc rfl ?_
  refine o_asc rfl ?_
  refine ops_nil ?_
  refine W_seq ?_
  refine W_cut [9] [4, 5, 6, 7, 8, 9] (fun vs w1 => vs = [.bool (decide (sz < 1 ∨ 65536 < sz))] ∧ w1 = w) ?_ ?_
  · refine W_region ?_
    refine o_mvt rfl ?_
    refine op_run (r_lss rfl rfl) rfl ?_
    refine o_mvt rfl ?_
    refine g_split rfl rfl rfl (fun g2 => ?_) (fun g2 => ?_)
    · refine o_mvt (g_yes rfl rfl rfl g2) ?_
      refine op_run (r_gtr rfl rfl) (g_yes rfl rfl rfl g2) ?_
      refine o_pkFt rfl g2 rfl ?_
      refine ops_nil ?_
      exact ⟨by (repeat (first | with_reducible exact offM_refl _ _ | refine offM_updc rfl ?_ | refine offM_upd rfl ?_ | refine offM_updo rfl ?_ | refine offM_updo_none ?_ | refine offM_head rfl rfl ?_)), congrArg (fun b => [Value.bool b]) (by have := of_decide_eq_false g2; rw [decide_eq_decide]; constructor <;> intro hh <;> omega), rfl⟩
    · refine op_skip (g_no rfl rfl rfl g2) ?_
      refine op_skip (g_no rfl rfl rfl g2) ?_
      refine o_pkTc rfl g2 rfl ?_
      refine ops_nil ?_
      exact ⟨by (repeat (first | with_reducible exact offM_refl _ _ | refine offM_updc rfl ?_ | refine offM_upd rfl ?_ | refine offM_updo rfl ?_ | refine offM_updo_none ?_ | refine offM_head rfl rfl ?_)), congrArg (fun b => [Value.bool b]) (by have := of_decide_eq_true g2; symm; apply decide_eq_true; omega), rfl⟩
  · rintro J5 vs w5 ⟨rfl, rfl⟩ -
    refine W_cond_p rfl (fun h6 => ?_) (fun h6 => ?_)
    · refine W_seq ?_
      refine W_region ?_
      refine o_asc rfl ?_
      refine o_asc rfl ?_
      refine ops_nil ?_
      refine W_ret ?_
      refine ret2 (.pointer none) (.int .i64 2) rfl rfl rfl ?_
      exact ⟨none, 2, rfl, .inl ⟨h6, rfl, rfl, rfl⟩⟩
    · refine W_skip ?_
      refine W_seq ?_
      refine W_region ?_
      refine o_mvt rfl ?_
      obtain ⟨N, rfl⟩ := Int.eq_ofNat_of_zero_le (show 0 ≤ sz by omega)
      refine o_makeN (l := N) (c := N) (u := c8 0) rfl rfl rfl ti_sec rfl rfl (Nat.le_refl _) (by omega) (by omega) rfl ?_; intro w8 b8 e8 hB8 hk8 hs8
      refine op_run (r_build ([.slice (some ⟨b8, 0, none⟩) N N, .slice none 0 0, .int .i64 0]) (_) ([(0, .slice (some ⟨b8, 0, none⟩) N N)]) rfl rfl rfl rfl rfl (rfl)) rfl ?_
      refine o_box (cs := [.slice (some ⟨b8, 0, none⟩) N N, .slice none 0 0, .int .i64 0]) rfl rfl rfl ?_; intro w10 b10 e10 hB10 hk10 hs10
      refine o_ast rfl ?_
      refine o_asc rfl ?_
      refine ops_nil ?_
      refine W_ret ?_
      refine ret2 (.pointer (some ⟨b10, 0, none⟩)) (.int .i64 0) rfl rfl rfl ?_
      refine ⟨_, 0, rfl, .inr ⟨h6, b10, rfl, rfl, by omega, ?_, hk8.trans hk10⟩⟩
      rw [Int.toNat_natCast]
      refine ⟨b8, N, [], .slice none 0 0, hB10, ?_, own_nil _ _ _, InB.nil, by omega, by show w5.heap.size ≤ b10; omega, by show w5.heap.size ≤ b8; omega, Nat.le_refl _, by unfold maxLen; omega, List.length_replicate, (fun x hx => absurd hx (by simp)), by omega, by omega, by omega⟩
      rw [rows_rep, List.append_nil]
      exact hk10.blk' hB8 trivial

theorem dk_Write (w : World) (b : Nat) (A : Nat → Prop) (N : Nat) (L : List Sec) (T : List (Nat × Sec)) (f : Nat) (at_ : Int) (s : Sec) (h : DkC w b A N L T f) (hA : ∀ k, A k → k < w.heap.size) (hTl : T.length < 1000000) :
    Ret Try.prog 7 [.pointer (some ⟨b, 0, none⟩), .int .i64 at_, .agg (secR s).toArray].toArray w fun r w' => r = .int .i64 (if 0 ≤ at_ ∧ at_ < N then 0 else 2) ∧
      DkC w' b (fun k => A k ∨ w.heap.size ≤ k) N L (if (0 ≤ at_ ∧ at_ < N) ∧ f ≠ 1 then T ++ [(at_.toNat, s)] else T) (if (0 ≤ at_ ∧ at_ < N) ∧ f ≠ 1 then f - 1 else f) ∧ Keep (fun k => ¬ A k) w w' := by
  refine enter (fn := Try.f7) (n := 30) Try.func7 rfl rfl (by simp) ?_
  refine W_seq ?_
  refine W_region ?_
  refine o_box (cs := secR s) rfl rfl rfl ?_; intro w1 b1 e1 hB1 hk1 hs1
  have hD1 := h.keep hk1 (fun _ _ => trivial)
  refine o_asc rfl ?_
  refine ops_nil ?_
  refine W_seq ?_
  refine W_region ?_
  refine o_mvt rfl ?_
  refine o_mvt rfl ?_
  refine op_call rfl rfl rfl (dk_there w1 b A N L T f at_ hD1) ?_; rintro v2 w2 ⟨rfl, rfl⟩
  refine o_ast rfl ?_
  refine ops_nil ?_
  refine W_seq ?_
  refine W_cut [16] [11, 12, 13, 14, 15, 16] (fun vs w3 => vs = [.bool (decide ((0 ≤ at_ ∧ at_ < N) ∧ f ≠ 1))] ∧ DkC w3 b A N L T (if (0 ≤ at_ ∧ at_ < N) ∧ f ≠ 1 then f - 1 else f) ∧ Keep (fun k => ¬ A k) w2 w3) ?_ ?_
  · refine W_region ?_
    refine o_mvt rfl ?_
    refine op_run (r_eql rfl rfl) rfl ?_
    refine o_mvt rfl ?_
    refine g_split rfl rfl rfl (fun g4 => ?_) (fun g4 => ?_)
    · refine o_mvt (g_yes rfl rfl rfl g4) ?_
      have hin : 0 ≤ at_ ∧ at_ < N := by
        by_cases hc : 0 ≤ at_ ∧ at_ < N
        · exact hc
        · rw [if_neg hc] at g4; cases g4
      refine op_call rfl rfl (g_yes rfl rfl rfl g4) (dk_burn w2 b A N L T f hD1) ?_; rintro v5 w5 ⟨rfl, hD5, hk5⟩
      have hAb : A b := by obtain ⟨_, _, _, _, _, _, _, _, _, h, _⟩ := hD1; exact h
      refine o_pkTt rfl g4 rfl ?_
      refine ops_nil ?_
      refine ⟨by (repeat (first | with_reducible exact offM_refl _ _ | refine offM_updc rfl ?_ | refine offM_upd rfl ?_ | refine offM_updo rfl ?_ | refine offM_updo_none ?_ | refine offM_head rfl rfl ?_)), congrArg (fun b => [Value.bool b]) (by rw [decide_eq_decide]; exact ⟨fun h => ⟨hin, h⟩, fun h => h.2⟩), ?_, hk5.mono fun k _ hk e => hk (e ▸ hAb)⟩
      by_cases hf1 : f = 1
      · rw [if_pos hf1] at hD5; rw [if_neg (fun h => h.2 hf1)]; exact hD5
      · rw [if_neg hf1] at hD5; rw [if_pos ⟨hin, hf1⟩]; exact hD5
    · refine op_skip (g_no rfl rfl rfl g4) ?_
      refine op_skip (g_no rfl rfl rfl g4) ?_
      refine o_pkFc rfl g4 rfl ?_
      refine ops_nil ?_
      have hin : ¬ (0 ≤ at_ ∧ at_ < N) := fun hc => by rw [if_pos hc] at g4; exact absurd (of_decide_eq_false g4) (by simp)
      refine ⟨by (repeat (first | with_reducible exact offM_refl _ _ | refine offM_updc rfl ?_ | refine offM_upd rfl ?_ | refine offM_updo rfl ?_ | refine offM_updo_none ?_ | refine offM_head rfl rfl ?_)), congrArg (fun b => [Value.bool b]) (decide_eq_false (fun h => hin h.1)).symm, ?_, Keep.refl _⟩
      rw [if_neg (fun h => hin h.1)]; exact hD1
  · rintro J8 vs w8 ⟨rfl, hD8, hk8⟩ -
    refine W_cond_p rfl (fun h9 => ?_) (fun h9 => ?_)
    · obtain ⟨p, rfl⟩ := Int.eq_ofNat_of_zero_le h9.1.1
      rw [if_pos h9] at hD8
      have hb1A : ¬ A b1 := fun h => by have := hA _ h; omega
      have hB8 := hk8.blk' hB1 hb1A
      obtain ⟨g, c, ex, vl, hB, hG, hT, hin, hgb, hAb, hAg, hNc, hcm, hL, hTn, hN1, hN2, hf⟩ := hD8
      obtain ⟨z, hz, hzs⟩ := ti_wr
      refine W_gate 12 (fun w' => Blk w' b [.slice (some ⟨g, 0, none⟩) N c, vl, .int .i64 ((f - 1 : Nat) : Int)] 50 ∧ Blk w' b1 (secR s) 28) (by kernel_rfl) (⟨hB, hB8⟩) (fun hS => ?_)
      refine gt_mvt 0 rfl (by kernel_rfl) (by kernel_rfl) (by kernel_rfl) (by kernel_rfl) rfl hS ?_
      refine gt_mvt 1 rfl (by kernel_rfl) (by kernel_rfl) (by kernel_rfl) (by kernel_rfl) rfl hS ?_
      refine gt_run 2 (fun w' hS' => (r_nilCheck rfl)) rfl (by kernel_rfl) (by kernel_rfl) (by kernel_rfl) (by kernel_rfl) rfl hS ?_
      refine gt_run 3 (fun w' hS' => (r_fieldAddr rfl rfl rfl rfl rfl)) rfl (by kernel_rfl) (by kernel_rfl) (by kernel_rfl) (by kernel_rfl) rfl hS ?_
      refine gt_run 4 (fun w' hS' => (r_load rfl rfl rfl (hS'.1.cell rfl))) rfl (by kernel_rfl) (by kernel_rfl) (by kernel_rfl) (by kernel_rfl) rfl hS ?_
      refine gt_mvt 5 rfl (by kernel_rfl) (by kernel_rfl) (by kernel_rfl) (by kernel_rfl) rfl hS ?_
      refine gt_run 6 (fun w' hS' => (r_loadA (secR s) rfl rfl rfl (by rw [secR_len]; rfl) hS'.2.all)) rfl (by kernel_rfl) (by kernel_rfl) (by kernel_rfl) (by kernel_rfl) rfl hS ?_
      refine gt_run 7 (fun w' hS' => (r_build (wrR (p, s)) (_) ([(0, .int .i64 (p : Int)), (1, .agg (secR s).toArray)]) rfl rfl rfl rfl rfl (fill_two (by kernel_rfl) rfl rfl (secR_len s)))) rfl (by kernel_rfl) (by kernel_rfl) (by kernel_rfl) (by kernel_rfl) rfl hS ?_
      refine gt_one 8 (by kernel_rfl) (one_of rfl ?_)
      refine o_bsA1 (wrR (p, s)) rfl rfl (by rw [wrR_len]; exact hz) (by rw [wrR_len]; rfl) (by rw [wrR_len]; exact Nat.le_of_ble_eq_true rfl) rfl ?_; intro w14 b14 e14 hB14 hk14 hs14
      refine ops_nil ⟨⟨hk14.blk' hS.1 trivial, hk14.blk' hS.2 trivial⟩, fun hS => ?_⟩
      refine gt_one 9 (by kernel_rfl) (one_of rfl ?_)
      refine o_app (c := 1) (wrR (p, s)) rfl rfl rfl hz hzs (by decide) ((hT.keep (Keep.drawn w8) (fun _ _ => trivial)).keep hk14 (fun _ _ => trivial)) (by rw [wrR_len]) hB14.all (wrR_one _) (by unfold maxLen; omega) (by omega) rfl ?_; intro v16 w16 hown16 hk16 hb16
      obtain ⟨a16, c16, rfl, _, _⟩ := hown16.form
      have hGw := hk16.blk' (hk14.blk' ((Keep.drawn w8).blk' hG trivial) trivial) (show some g ≠ vl.ownBlock from fun e => (hin g e.symm).2.2 rfl)
      have h14 : w8.heap.size ≤ w14.heap.size := hk14.size
      have hlt8 : ∀ k, A k → k < w14.heap.size := fun k hk => by have := hA k hk; have := hk8.size; omega
      have hin16 : InB (fun k => (A k ∨ w.heap.size ≤ k) ∧ k ≠ b ∧ k ≠ g) (.slice a16 (T.length + 1) c16) := fun k hk => by
        rcases hb16 k hk with h | h
        · exact ⟨.inl (hin k h).1, (hin k h).2⟩
        · refine ⟨.inr ?_, fun e => ?_, fun e => ?_⟩
          · have := hk8.size; omega
          · subst e; have := hlt8 _ hAb; omega
          · subst e; have := hlt8 _ hAg; omega
      refine ops_nil ⟨⟨hk16.blk' hS.1 (show some b ≠ vl.ownBlock from fun e => (hin b e.symm).2.1 rfl), hk16.blk' hS.2 (show some b1 ≠ vl.ownBlock from fun e => hb1A (hin b1 e.symm).1)⟩, fun hS => ?_⟩
      refine gt_run 10 (fun w' hS' => (r_nilCheck rfl)) rfl (by kernel_rfl) (by kernel_rfl) (by kernel_rfl) (by kernel_rfl) rfl hS ?_
      refine gt_run 11 (fun w' hS' => (r_fieldAddr rfl rfl rfl rfl rfl)) rfl (by kernel_rfl) (by kernel_rfl) (by kernel_rfl) (by kernel_rfl) rfl hS ?_
      refine gt_past 12 (by kernel_rfl) (by kernel_rfl) (one_of rfl ?_)
      refine o_store (v := (.slice a16 (T.length + 1) c16)) rfl rfl rfl rfl hS.1 (by exact Nat.lt_of_sub_eq_succ rfl) rfl ?_; intro w18 hB18 hk18 hs18
      refine ops_nil ?_
      refine gt_done (by kernel_rfl) ?_
      refine W_seq ?_
      refine W_region ?_
      refine o_mvt rfl ?_
      refine o_ast rfl ?_
      refine ops_nil ?_
      refine W_ret ?_
      refine ret1 (.int .i64 (if 0 ≤ (p : Int) ∧ (p : Int) < N then 0 else 2)) rfl ?_ ?_; rfl
      refine ⟨rfl, ?_, ?_⟩
      · rw [if_pos h9, if_pos h9, Int.toNat_natCast]
        refine ⟨g, c, ex, _, hB18, hk18.blk' hGw hgb, ?_, hin16, hgb, .inl hAb, .inl hAg, hNc, hcm, hL, fun x hx => ?_, hN1, hN2, hf⟩
        · rw [List.length_append, rows_app]
          have : rows wrR [(p, s)] = wrR (p, s) := by rw [rows_cons, rows_nil, List.append_nil]
          rw [this]
          exact hown16.keep hk18 (fun k hk => (hin16 k hk).2.1)
        · rw [List.mem_append, List.mem_singleton] at hx
          rcases hx with hx | rfl
          · exact hTn x hx
          · show p < N; omega
      · have h1 : Keep (fun k => ¬ A k) w w14 := (((hk1.all).trans hk8).trans (Keep.drawn w8).all).trans hk14.all
        refine (h1.trans (hk16.mono fun k _ hk e => hk (hin k e.symm).1)).trans (hk18.mono fun k _ hk e => hk (e ▸ hAb))
    · refine W_skip ?_
      refine W_seq ?_
      refine W_region ?_
      refine o_mvt rfl ?_
      refine o_ast rfl ?_
      refine ops_nil ?_
      refine W_ret ?_
      refine ret1 (.int .i64 (if 0 ≤ at_ ∧ at_ < N then 0 else 2)) rfl ?_ ?_; rfl
      rw [if_neg h9] at hD8
      exact ⟨rfl, by rw [if_neg h9, if_neg h9]; exact hD8.mono fun k hk => .inl hk, hk1.all.trans hk8⟩
end Go.Proofs.Ytcbbodjcgjbfaaa.B
