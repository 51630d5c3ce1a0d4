/-
  The document's slots: what a sector tells.
-/
import Derived.Test.YtcbbodjcgjbfaaaRef14
namespace Go.Proofs.Ytcbbodjcgjbfaaa.B
open Go
set_option linter.unusedVariables false
set_option maxHeartbeats 2000000
set_option maxRecDepth 100000
attribute [local irreducible] W OpsW OpsQ retP

theorem rf14_number (w : World) (s : Sec) (pos : Nat) (hp : pos ≤ 64) : Ret Try.prog 17 [.agg (secR s).toArray, .int .i64 pos].toArray w fun u w' =>
    (∃ e : Nat, e ≤ 64 ∧ ((∃ v, numS 4 true pos 0 1 (s.val.drop pos) = some (v, e) ∧ u = .tuple #[.int .i64 v, .int .i64 e]) ∨ (numS 4 true pos 0 1 (s.val.drop pos) = none ∧ u = .tuple #[.int .i64 (-1), .int .i64 e]))) ∧ Keep All w w' := by
  have hl := s.2
  generalize hG : numS 4 true pos 0 1 (s.val.drop pos) = G
  refine enter (fn := Try.f17) (n := 49) Try.func17 rfl rfl (by simp) ?_
  refine W_seq ?_
  refine W_region ?_
  refine o_box rfl rfl rfl ?_; intro w1 b1 e1 hB1 hk1 hs1
  refine o_asc rfl ?_
  refine o_asc rfl ?_
  refine ops_nil ?_
  refine W_seq ?_
  refine W_region ?_
  refine o_asc rfl ?_
  refine o_asc rfl ?_
  refine ops_nil ?_
  refine W_seq ?_
  refine W_seq ?_
  refine W_region ?_
  refine o_mvt rfl ?_
  refine o_ast rfl ?_
  refine ops_nil ?_
  refine W_block ?_
  refine W_loop [6, 7, 8] [4, 5, 6, 7, 8, 10, 11, 12, 13, 14, 15, 16, 17, 18, 19, 20, 21, 22, 23, 24, 25, 26, 27, 28, 29, 30, 31, 32, 33, 34, 35, 36, 37, 38, 39, 40, 41, 42, 43, 44, 45, 46, 47] (fun vs w' => ∃ n wt i : Nat, vs = [.int .i64 n, .int .i64 wt, .int .i64 i] ∧ pos ≤ i ∧ i ≤ 64 ∧ i ≤ pos + 4 ∧ wt = 128 ^ (i - pos) ∧ n < 128 ^ (i - pos) ∧ G = numS (pos + 4 - i) (decide (i = pos)) i n wt (s.val.drop i) ∧ w' = w1) (fun vs _ => match vs with | [_, _, .int _ k] => 64 - k.toNat | _ => 0) ⟨0, 1, pos, rfl, by omega, by omega, by omega, by simp, by simp, by rw [show pos + 4 - pos = 4 by omega, ← hG]; simp, rfl⟩ ?_
  rintro J2 vs w2 ⟨n, wt, i, rfl, hi1, hi2, hi3, hwt, hn, hN, rfl⟩ -
  refine W_seq ?_
  refine W_cut [17] [10, 11, 12, 13, 14, 15, 16, 17] (fun vs w3 => vs = [.bool (decide (i < 64 ∧ i < pos + 4))] ∧ w3 = w2) ?_ ?_
  · refine W_region ?_
    refine o_mvt rfl ?_
    refine op_run (r_lss rfl rfl) rfl ?_
    refine o_mvt rfl ?_
    refine g_split rfl rfl rfl (fun g4 => ?_) (fun g4 => ?_)
    · refine o_mvt (g_yes rfl rfl rfl g4) ?_
      refine o_mvt (g_yes rfl rfl rfl g4) ?_
      refine op_run ((r_add rfl rfl).val (congrArg (Value.int .i64) (show IntKind.i64.wrap ((pos : Int) + 4) = ((pos + 4 : Nat) : Int) from (wrap_i64 (by omega) (by omega)).trans (by omega)))) (g_yes rfl rfl rfl g4) ?_
      refine op_run (r_lss rfl rfl) (g_yes rfl rfl rfl g4) ?_
      refine o_pkTt rfl g4 rfl ?_
      refine ops_nil ?_
      exact ⟨by (repeat (first | with_reducible exact offM_refl _ _ | refine offM_updc rfl ?_ | refine offM_upd rfl ?_ | refine offM_updo rfl ?_ | refine offM_updo_none ?_ | refine offM_head rfl rfl ?_)), congrArg (fun b => [Value.bool b]) (by have g4 := of_decide_eq_true g4; rw [decide_eq_decide]; omega), rfl⟩
    · refine op_skip (g_no rfl rfl rfl g4) ?_
      refine op_skip (g_no rfl rfl rfl g4) ?_
      refine op_skip (g_no rfl rfl rfl g4) ?_
      refine op_skip (g_no rfl rfl rfl g4) ?_
      refine o_pkFc rfl g4 rfl ?_
      refine ops_nil ?_
      exact ⟨by (repeat (first | with_reducible exact offM_refl _ _ | refine offM_updc rfl ?_ | refine offM_upd rfl ?_ | refine offM_updo rfl ?_ | refine offM_updo_none ?_ | refine offM_head rfl rfl ?_)), congrArg (fun b => [Value.bool b]) (by have g4 := of_decide_eq_false g4; symm; apply decide_eq_false; omega), rfl⟩
  · rintro J7 vs w7 ⟨rfl, rfl⟩ -
    refine W_cond_p rfl (fun h8 => ?_) (fun h8 => ?_)
    · refine W_skip ?_
      refine W_seq ?_
      refine W_block ?_
      refine W_seq ?_
      refine W_region ?_
      refine o_mvt rfl ?_
      refine o_mvt rfl ?_
      obtain ⟨hi64, hi4⟩ := h8
      obtain ⟨x, hx⟩ : ∃ x, s.val[i]? = some x := ⟨_, List.getElem?_eq_getElem (by omega)⟩
      have hdr : s.val.drop i = x :: s.val.drop (i + 1) := by
        obtain ⟨h1, h2⟩ := List.getElem?_eq_some_iff.1 hx
        rw [List.drop_eq_getElem_cons h1, h2]
      have hxl := x.toNat_lt
      have hkk : i - pos ≤ 3 := by omega
      have hw3 : wt ≤ 128 ^ 3 := hwt ▸ Nat.pow_le_pow_right (by decide) hkk
      have hw0 : 0 < wt := hwt ▸ Nat.pow_pos (by decide)
      have hn3 : n < 128 ^ 3 := Nat.lt_of_lt_of_le hn (Nat.pow_le_pow_right (by decide) hkk)
      have hmul : x.toNat % 128 * wt ≤ 127 * 128 ^ 3 := Nat.mul_le_mul (by omega) hw3
      have hcx : w7.cell? ⟨b1, i, none⟩ = some (c8 x) := hB1.cell (by unfold secR; rw [List.getElem?_map, hx]; rfl)
      rw [hdr, show pos + 4 - i = (pos + 4 - (i + 1)) + 1 by omega] at hN
      rw [numS_cons] at hN
      refine op_run (r_idxA1 rfl rfl rfl rfl (by omega) (by omega)) rfl ?_
      refine op_run (r_load rfl rfl rfl (by rw [Int.toNat_natCast, Nat.zero_add]; exact hcx)) rfl ?_
      refine op_run ((r_rem rfl rfl (by decide)).val (congrArg (Value.int .u8) (show Int.tmod (x.toNat : Int) 128 = ((x.toNat % 128 : Nat) : Int) from rfl))) rfl ?_
      refine op_run ((r_conv rfl rfl rfl).val (congrArg (Value.int .i64) (show IntKind.i64.wrap ((x.toNat % 128 : Nat) : Int) = ((x.toNat % 128 : Nat) : Int) from wrap_i64 (by omega) (by omega)))) rfl ?_
      refine o_mvt rfl ?_
      refine op_run ((r_mul rfl rfl).val (congrArg (Value.int .i64) (show IntKind.i64.wrap (((x.toNat % 128 : Nat) : Int) * (wt : Int)) = ((x.toNat % 128 * wt : Nat) : Int) from (by rw [← Int.natCast_mul]; exact wrap_i64 (by omega) (by omega))))) rfl ?_
      refine op_run ((r_add rfl rfl).val (congrArg (Value.int .i64) (show IntKind.i64.wrap ((n : Int) + ((x.toNat % 128 * wt : Nat) : Int)) = ((n + x.toNat % 128 * wt : Nat) : Int) from (wrap_i64 (by omega) (by omega)).trans (by omega)))) rfl ?_
      refine o_ast rfl ?_
      refine ops_nil ?_
      refine W_seq ?_
      refine W_region ?_
      refine o_mvt rfl ?_
      refine op_run ((r_mul rfl rfl).val (congrArg (Value.int .i64) (show IntKind.i64.wrap (128 * (wt : Int)) = ((128 * wt : Nat) : Int) from (wrap_i64 (by omega) (by omega)).trans (by omega)))) rfl ?_
      refine o_ast rfl ?_
      refine ops_nil ?_
      refine W_seq ?_
      refine W_region ?_
      refine o_mvt rfl ?_
      refine op_run (r_idxA1 rfl rfl rfl rfl (by omega) (by omega)) rfl ?_
      refine op_run (r_load rfl rfl rfl (by rw [Int.toNat_natCast, Nat.zero_add]; exact hcx)) rfl ?_
      refine op_run (r_lss rfl rfl) rfl ?_
      refine ops_nil ?_
      refine W_cond_p rfl (fun h13 => ?_) (fun h13 => ?_)
      · refine W_seq ?_
        refine W_cut [43] [35, 36, 37, 38, 39, 40, 41, 42, 43] (fun vs w14 => vs = [.bool (decide (pos < i ∧ x.toNat = 0))] ∧ w14 = w7) ?_ ?_
        · refine W_region ?_
          refine o_mvt rfl ?_
          refine o_mvt rfl ?_
          refine op_run (r_gtr rfl rfl) rfl ?_
          refine o_mvt rfl ?_
          refine g_split rfl rfl rfl (fun g15 => ?_) (fun g15 => ?_)
          · refine o_mvt (g_yes rfl rfl rfl g15) ?_
            refine op_run (r_idxA1 rfl rfl rfl rfl (by omega) (by omega)) (g_yes rfl rfl rfl g15) ?_
            refine op_run (r_load rfl rfl rfl (by rw [Int.toNat_natCast, Nat.zero_add]; exact hcx)) (g_yes rfl rfl rfl g15) ?_
            refine op_run (r_eql rfl rfl) (g_yes rfl rfl rfl g15) ?_
            refine o_pkTt rfl g15 rfl ?_
            refine ops_nil ?_
            exact ⟨by (repeat (first | with_reducible exact offM_refl _ _ | refine offM_updc rfl ?_ | refine offM_upd rfl ?_ | refine offM_updo rfl ?_ | refine offM_updo_none ?_ | refine offM_head rfl rfl ?_)), congrArg (fun b => [Value.bool b]) (by have g15 := of_decide_eq_true g15; rw [decide_eq_decide]; omega), rfl⟩
          · refine op_skip (g_no rfl rfl rfl g15) ?_
            refine op_skip (g_no rfl rfl rfl g15) ?_
            refine op_skip (g_no rfl rfl rfl g15) ?_
            refine op_skip (g_no rfl rfl rfl g15) ?_
            refine o_pkFc rfl g15 rfl ?_
            refine ops_nil ?_
            exact ⟨by (repeat (first | with_reducible exact offM_refl _ _ | refine offM_updc rfl ?_ | refine offM_upd rfl ?_ | refine offM_updo rfl ?_ | refine offM_updo_none ?_ | refine offM_head rfl rfl ?_)), congrArg (fun b => [Value.bool b]) (by have g15 := of_decide_eq_false g15; symm; apply decide_eq_false; omega), rfl⟩
        · rintro J20 vs w20 ⟨rfl, rfl⟩ -
          refine W_cond_p rfl (fun h21 => ?_) (fun h21 => ?_)
          · refine W_seq ?_
            refine W_region ?_
            refine o_mvt rfl ?_
            refine o_asc rfl ?_
            refine o_ast rfl ?_
            refine ops_nil ?_
            refine W_ret ?_
            refine ret2 (.int .i64 (-1)) (.int .i64 i) rfl ?_ ?_ ?_; rfl; rfl
            obtain ⟨h1, h2⟩ := h21
            refine ⟨⟨i, by omega, .inr ⟨?_, rfl⟩⟩, hk1⟩
            rw [hN, if_pos (by omega), if_pos ⟨decide_eq_false (by omega), UInt8.toNat_inj.1 h2⟩]
          · refine W_skip ?_
            refine W_seq ?_
            refine W_region ?_
            refine o_mvt rfl ?_
            refine o_mvt rfl ?_
            refine op_run ((r_add rfl rfl).val (congrArg (Value.int .i64) (inc64' i (by omega)))) rfl ?_
            refine o_ast rfl ?_
            refine o_ast rfl ?_
            refine ops_nil ?_
            refine W_ret ?_
            refine ret2 (.int .i64 ((n + x.toNat % 128 * wt : Nat) : Int)) (.int .i64 ((i + 1 : Nat) : Int)) rfl ?_ ?_ ?_; rfl; rfl
            refine ⟨⟨i + 1, by omega, .inl ⟨n + x.toNat * wt, ?_, by rw [Nat.mod_eq_of_lt (show x.toNat < 128 by omega)]⟩⟩, hk1⟩
            rw [hN, if_pos (by omega), if_neg]
            rintro ⟨h1, h2⟩
            have h1 := of_decide_eq_false h1
            exact h21 ⟨by omega, by rw [h2]; rfl⟩
      · refine W_skip ?_
        refine W_region ?_
        refine o_mvt rfl ?_
        refine op_run ((r_add rfl rfl).val (congrArg (Value.int .i64) (inc64' i (by omega)))) rfl ?_
        refine o_ast rfl ?_
        refine ops_nil ?_
        refine ⟨by (repeat (first | with_reducible exact offM_refl _ _ | refine offM_updc rfl ?_ | refine offM_upd rfl ?_ | refine offM_updo rfl ?_ | refine offM_updo_none ?_ | refine offM_head rfl rfl ?_)), ⟨n + x.toNat % 128 * wt, 128 * wt, i + 1, rfl, by omega, by omega, by omega, ?_, ?_, ?_, rfl⟩, ?_⟩
        · rw [hwt, show i + 1 - pos = (i - pos) + 1 by omega, Nat.pow_succ, Nat.mul_comm]
        · rw [show i + 1 - pos = (i - pos) + 1 by omega, Nat.pow_succ, ← hwt]
          rw [← hwt] at hn
          have h1 : x.toNat % 128 * wt ≤ 127 * wt := Nat.mul_le_mul_right _ (by omega)
          omega
        · rw [hN, if_neg (by omega), show decide (i + 1 = pos) = false from decide_eq_false (by omega)]
        · show 64 - (((i + 1 : Nat) : Int)).toNat < 64 - (i : Int).toNat
          omega
    · refine W_exit ?_
      refine W_seq ?_
      refine W_region ?_
      refine o_mvt rfl ?_
      refine o_asc rfl ?_
      refine o_ast rfl ?_
      refine ops_nil ?_
      refine W_ret ?_
      refine ret2 (.int .i64 (-1)) (.int .i64 pos) rfl ?_ ?_ ?_; rfl; rfl
      refine ⟨⟨pos, hp, .inr ⟨?_, rfl⟩⟩, hk1⟩
      rw [hN]
      rcases Nat.lt_or_ge i 64 with h1 | h1
      · rw [show pos + 4 - i = 0 by omega, numS_0]
      · rw [List.drop_eq_nil_of_le (by omega), numS_nil]
end Go.Proofs.Ytcbbodjcgjbfaaa.B
