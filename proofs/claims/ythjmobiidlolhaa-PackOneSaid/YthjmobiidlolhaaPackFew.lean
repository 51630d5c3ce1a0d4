/-
  PackFew's walk, and the plain laws behind it: how many bytes a number has.
-/
import Derived.Test.YthjmobiidlolhaaPackN
namespace Go.Proofs.Ythjmobiidlolhaa.B
open Go
set_option linter.unusedVariables false
attribute [local irreducible] W OpsW OpsQ retP
theorem encN_mono : ∀ (w v : Nat), v ≤ w → (encN v).length ≤ (encN w).length := by
  intro w
  induction w using Nat.strongRecOn with
  | ind w ih =>
    intro v hv
    by_cases h1 : v < 128
    · rw [encN_last h1]; have := encN_pos w; simp; omega
    · rw [encN_more (by omega), encN_more (show 128 ≤ w by omega)]
      have := ih (w / 128) (by omega) (v / 128) (Nat.div_le_div_right hv)
      simp; omega
theorem encN_get : ∀ (v i : Nat) (h : i < (encN v).length), ((encN v)[i].toNat < 128 ↔ i + 1 = (encN v).length) := by
  intro v
  induction v using Nat.strongRecOn with
  | ind v ih =>
    intro i h
    by_cases h1 : v < 128
    · have e := encN_last h1
      simp only [e] at h ⊢
      simp at h; subst h
      simp; omega
    · have e := encN_more (show 128 ≤ v by omega)
      have hp := encN_pos (v / 128)
      simp only [e] at h ⊢
      cases i with
      | zero =>
        have e3 : (v % 128 + 128).toUInt8.toNat = v % 128 + 128 := by simp; omega
        simp only [List.getElem_cons_zero, List.length_cons, e3]; omega
      | succ i =>
        simp only [List.length_cons] at h
        have := ih (v / 128) (by omega) i (by omega)
        simp only [List.getElem_cons_succ, List.length_cons]
        rw [this]; omega
theorem encN_big : ∀ v : Nat, 1 < (encN v).length → 128 ^ ((encN v).length - 1) ≤ v := by
  intro v
  induction v using Nat.strongRecOn with
  | ind v ih =>
    intro h
    by_cases h1 : v < 128
    · rw [encN_last h1] at h; simp at h
    · have e := encN_more (show 128 ≤ v by omega)
      have hp := encN_pos (v / 128)
      rw [e]; simp only [List.length_cons, Nat.add_sub_cancel]
      by_cases h2 : 1 < (encN (v / 128)).length
      · have := ih (v / 128) (by omega) h2
        have e2 : (encN (v / 128)).length = ((encN (v / 128)).length - 1) + 1 := by omega
        rw [e2, Nat.pow_succ]; omega
      · have e2 : (encN (v / 128)).length = 1 := by omega
        rw [e2]; omega
theorem enc300 : encN 300 = [172, 2] := by
  rw [encN_more (by omega), encN_last (by omega)]; rfl

theorem speaks01 (w : World) : Ret Try.prog 7 [].toArray w fun r w' => r = .bool true ∧ Keep All w w' := by
  refine enter (fn := Try.f7) (n := 4) Try.func7 rfl rfl (by simp) ?_
  refine W_seq ?_
  refine W_region ?_
  refine o_asc rfl ?_
  refine ops_nil ?_
  refine W_seq ?_
  refine W_region ?_
  refine op_call rfl rfl rfl (pack_Number w (.slice none 0 0) [] 300 (by omega) (own_nil _ _ _) (by simp)) ?_; rintro v1 w1 ⟨ho1, hk1, hb1⟩
  simp only [List.nil_append, enc300] at ho1
  have hk1' : Keep All w w1 := hk1.mono (fun _ _ _ h => by cases h)
  refine o_bs2 (v := c8 172) (u := c8 2) rfl rfl rfl rfl rfl rfl rfl rfl ?_; intro w2 b2 e2 hB2 hk2 hs2
  refine op_call rfl rfl rfl (ref01_Same w2 _ _ [172, 2] [172, 2] (ho1.by_.keep hk2 (fun _ _ => trivial)) (OwnB.by_ (e := 5) (Own.blk hB2 rfl (by decide)))) ?_; rintro v3 w3 ⟨rfl, hk3⟩
  refine o_ast rfl ?_
  refine ops_nil ?_
  refine W_ret ?_
  refine ret1 (.bool true) rfl ?_ ?_; rfl
  exact ⟨rfl, (hk1'.trans hk2).trans hk3⟩

theorem walk_PackFew (w : World) (x y : Nat) (hx : x < 2 ^ 64) (hy : y < 2 ^ 64) : Ret Try.prog 3 [.int .u64 x, .int .u64 y].toArray w fun r w' => r = .bool true ∧ Keep All w w' := by
  refine enter (fn := Try.f3) (n := 63) Try.func3 rfl rfl (by simp) ?_
  refine W_seq ?_
  refine W_region ?_
  refine o_asc rfl ?_
  refine ops_nil ?_
  refine W_seq ?_
  refine W_seq ?_
  refine W_region ?_
  refine op_call rfl rfl rfl (speaks01 w) ?_; rintro v1 w1 ⟨rfl, hk1⟩
  refine op_run (r_not rfl) rfl ?_
  refine ops_nil ?_
  refine W_no rfl (rfl) ?_
  refine W_skip ?_
  refine W_seq ?_
  refine W_region ?_
  refine o_mvt rfl ?_
  refine op_call rfl rfl rfl (pack_Number w1 (.slice none 0 0) [] x hx (own_nil _ _ _) (by simp)) ?_; rintro v4 w4 ⟨ho4, hk4, hb4⟩
  simp only [List.nil_append] at ho4
  replace hk4 : Keep All w1 w4 := hk4.mono (fun _ _ _ h => by cases h)
  refine o_mvt rfl ?_
  refine op_call rfl rfl rfl (pack_Number w4 (.slice none 0 0) [] y hy (own_nil _ _ _) (by simp)) ?_; rintro v5 w5 ⟨ho5, hk5, hb5⟩
  simp only [List.nil_append] at ho5
  replace hk5 : Keep All w4 w5 := hk5.mono (fun _ _ _ h => by cases h)
  obtain ⟨ax, cx, rfl, _, _⟩ := ho4.by_.form
  obtain ⟨ay, cy, rfl, _, _⟩ := ho5.by_.form
  have hx1 := encN_pos x
  have hx2 := encN_len10 hx
  have hy2 := encN_len10 hy
  have hmono := encN_mono y x
  have hby := ho4.by_.keep hk5 (fun _ _ => trivial)
  refine o_ast rfl ?_
  refine o_ast rfl ?_
  refine ops_nil ?_
  refine W_seq ?_
  refine W_cut [34] [15, 16, 17, 18, 19, 20, 21, 22, 23, 24, 25, 26, 27, 28, 29, 30, 31, 32, 33, 34] (fun vs w6 => vs = [.bool false] ∧ w5 = w6) ?_ ?_
  · refine W_region ?_
    refine o_mvt rfl ?_
    refine o_mvt rfl ?_
    refine op_run (r_leq rfl rfl) rfl ?_
    refine o_mvt rfl ?_
    refine g_split rfl rfl rfl (fun g7 => ?_) (fun g7 => ?_)
    · refine o_mvt (g_yes rfl rfl rfl g7) ?_
      refine op_run (r_len rfl rfl rfl) (g_yes rfl rfl rfl g7) ?_
      refine o_mvt (g_yes rfl rfl rfl g7) ?_
      refine op_run (r_len rfl rfl rfl) (g_yes rfl rfl rfl g7) ?_
      refine op_run (r_gtr rfl rfl) (g_yes rfl rfl rfl g7) ?_
      refine o_pkTt rfl g7 rfl ?_
      refine o_mvt rfl ?_
      refine g_split rfl rfl rfl (fun g8 => ?_) (fun g8 => ?_)
      · refine o_mvt (g_yes rfl rfl rfl g8) ?_
        refine op_run (r_len rfl rfl rfl) (g_yes rfl rfl rfl g8) ?_
        refine op_run (r_lss rfl rfl) (g_yes rfl rfl rfl g8) ?_
        refine o_pkFt rfl g8 rfl ?_
        refine o_mvt rfl ?_
        refine g_split rfl rfl rfl (fun g9 => ?_) (fun g9 => ?_)
        · refine o_mvt (g_yes rfl rfl rfl g9) ?_
          refine op_run (r_len rfl rfl rfl) (g_yes rfl rfl rfl g9) ?_
          refine op_run (r_gtr rfl rfl) (g_yes rfl rfl rfl g9) ?_
          refine o_pkFt rfl g9 rfl ?_
          refine ops_nil ?_
          exact ⟨by (repeat (first | with_reducible exact offM_refl _ _ | refine offM_updc rfl ?_ | refine offM_upd rfl ?_ | refine offM_updo rfl ?_ | refine offM_updo_none ?_ | refine offM_head rfl rfl ?_)), congrArg (fun b => [Value.bool b]) (decide_eq_false (by omega)), rfl⟩
        · refine op_skip (g_no rfl rfl rfl g9) ?_
          refine op_skip (g_no rfl rfl rfl g9) ?_
          refine op_skip (g_no rfl rfl rfl g9) ?_
          refine o_pkTc rfl g9 rfl ?_
          refine ops_nil ?_
          exact absurd (of_decide_eq_true g9) (by omega)
      · refine op_skip (g_no rfl rfl rfl g8) ?_
        refine op_skip (g_no rfl rfl rfl g8) ?_
        refine op_skip (g_no rfl rfl rfl g8) ?_
        refine o_pkTc rfl g8 rfl ?_
        refine o_mvt rfl ?_
        refine op_skip (g_no rfl rfl rfl rfl) ?_
        refine op_skip (g_no rfl rfl rfl rfl) ?_
        refine op_skip (g_no rfl rfl rfl rfl) ?_
        refine o_pkTc rfl rfl rfl ?_
        refine ops_nil ?_
        exact absurd (of_decide_eq_true g8) (by have := of_decide_eq_true g7; omega)
    · refine op_skip (g_no rfl rfl rfl g7) ?_
      refine op_skip (g_no rfl rfl rfl g7) ?_
      refine op_skip (g_no rfl rfl rfl g7) ?_
      refine op_skip (g_no rfl rfl rfl g7) ?_
      refine op_skip (g_no rfl rfl rfl g7) ?_
      refine o_pkFc rfl g7 rfl ?_
      refine o_mvt rfl ?_
      refine o_mvt (g_yes rfl rfl rfl rfl) ?_
      refine op_run (r_len rfl rfl rfl) (g_yes rfl rfl rfl rfl) ?_
      refine op_run (r_lss rfl rfl) (g_yes rfl rfl rfl rfl) ?_
      refine o_pkFt rfl rfl rfl ?_
      refine o_mvt rfl ?_
      refine g_split rfl rfl rfl (fun g13 => ?_) (fun g13 => ?_)
      · refine o_mvt (g_yes rfl rfl rfl g13) ?_
        refine op_run (r_len rfl rfl rfl) (g_yes rfl rfl rfl g13) ?_
        refine op_run (r_gtr rfl rfl) (g_yes rfl rfl rfl g13) ?_
        refine o_pkFt rfl g13 rfl ?_
        refine ops_nil ?_
        exact ⟨by (repeat (first | with_reducible exact offM_refl _ _ | refine offM_updc rfl ?_ | refine offM_upd rfl ?_ | refine offM_updo rfl ?_ | refine offM_updo_none ?_ | refine offM_head rfl rfl ?_)), congrArg (fun b => [Value.bool b]) (decide_eq_false (by omega)), rfl⟩
      · refine op_skip (g_no rfl rfl rfl g13) ?_
        refine op_skip (g_no rfl rfl rfl g13) ?_
        refine op_skip (g_no rfl rfl rfl g13) ?_
        refine o_pkTc rfl g13 rfl ?_
        refine ops_nil ?_
        exact absurd (of_decide_eq_true g13) (by omega)
  · rintro J16 vs w16 ⟨rfl, rfl⟩ -
    refine W_no rfl (rfl) ?_
    refine W_skip ?_
    refine W_seq ?_
    refine W_seq ?_
    refine W_region ?_
    refine o_mvt rfl ?_
    refine op_run (r_len rfl rfl rfl) rfl ?_
    refine o_mvc rfl ?_
    refine ops_nil ?_
    refine W_block ?_
    refine W_loop [37] [4, 7, 8, 37, 38, 39, 40, 41, 42, 43, 44, 45, 46, 47, 48, 49, 50] (fun vs w7 => ∃ k : Nat, vs = [.int .i64 k] ∧ k ≤ (encN x).length ∧ w5 = w7) (fun vs _ => match vs with | [.int _ k] => (encN x).length - k.toNat | _ => 0) ⟨0, rfl, by omega, rfl⟩ ?_
    rintro J vs w7 ⟨k, rfl, hk, rfl⟩ -
    refine W_seq ?_
    refine W_region ?_
    refine op_run (r_lss rfl rfl) rfl ?_
    refine ops_nil ?_
    refine W_seq ?_
    refine W_cond_p rfl (fun h20 => ?_) (fun h20 => ?_)
    · refine W_skip ?_
      refine W_seq ?_
      refine W_block ?_
      refine W_seq ?_
      refine W_region ?_
      refine o_mvt rfl ?_
      obtain ⟨b0, off0, c0, e0, _, _, hcell⟩ := hby.at (by omega)
      cases e0
      have hkx : k < (encN x).length := by omega
      have hget := encN_get x k hkx
      have hinc := inc64 k (by omega)
      refine op_run (r_idxS1 rfl rfl rfl rfl (by omega) (by omega)) rfl ?_
      refine op_run (r_load rfl rfl rfl (hcell k _ (get_c8 hkx))) rfl ?_
      refine o_ast rfl ?_
      refine o_ast rfl ?_
      refine ops_nil ?_
      refine W_seq ?_
      refine W_region ?_
      refine o_mvt rfl ?_
      refine op_run (r_lss rfl rfl) rfl ?_
      refine o_mvt rfl ?_
      refine o_mvt rfl ?_
      refine op_run (r_len rfl rfl rfl) rfl ?_
      refine op_run (r_sub rfl rfl) rfl ?_
      refine op_run (r_eql rfl rfl) rfl ?_
      refine op_run (r_neqB rfl rfl rfl) rfl ?_
      refine ops_nil ?_
      have hc : (decide (((encN x)[k].toNat : Int) < 128) != decide ((k : Int) = IntKind.i64.wrap (((encN x).length : Int) - 1))) = false := by
        rw [wrap_i64 (by omega) (by omega)]
        have e2 : decide (((encN x)[k].toNat : Int) < 128) = decide ((k : Int) = ((encN x).length : Int) - 1) := by rw [decide_eq_decide]; constructor <;> intro hh <;> omega
        rw [e2]; simp
      refine W_no rfl (hc) ?_
      refine W_skip ?_
      refine W_region ?_
      refine op_run (r_add rfl rfl) rfl ?_
      refine o_mvt rfl ?_
      refine ops_nil ?_
      refine ⟨by (repeat (first | with_reducible exact offM_refl _ _ | refine offM_updc rfl ?_ | refine offM_upd rfl ?_ | refine offM_updo rfl ?_ | refine offM_updo_none ?_ | refine offM_head rfl rfl ?_)), ⟨k + 1, ?_, by omega, rfl⟩, ?_⟩
      · rw [← hinc]; rfl
      · show (encN x).length - (IntKind.i64.wrap ((k : Int) + 1)).toNat < (encN x).length - (k : Int).toNat
        rw [hinc]; omega
    · refine W_exit ?_
      refine W_seq ?_
      refine W_region ?_
      refine o_mvt rfl ?_
      refine op_run (r_len rfl rfl rfl) rfl ?_
      refine op_run (r_eql rfl rfl) rfl ?_
      refine o_mvt rfl ?_
      refine g_split rfl rfl rfl (fun g26 => ?_) (fun g26 => ?_)
      · refine o_mvt (g_yes rfl rfl rfl g26) ?_
        refine o_mvt (g_yes rfl rfl rfl g26) ?_
        refine op_run (r_len rfl rfl rfl) (g_yes rfl rfl rfl g26) ?_
        refine op_run (r_sub rfl rfl) (g_yes rfl rfl rfl g26) ?_
        refine op_run (r_mul rfl rfl) (g_yes rfl rfl rfl g26) ?_
        have e1 : IntKind.i64.wrap (((encN x).length : Int) - 1) = ((encN x).length : Int) - 1 := wrap_i64 (by omega) (by omega)
        have e2 : IntKind.i64.wrap (7 * (((encN x).length : Int) - 1)) = ((7 * ((encN x).length - 1) : Nat) : Int) := by rw [wrap_i64 (by omega) (by omega)]; omega
        refine op_run (r_shr rfl rfl (by rw [e1, e2]; omega)) (g_yes rfl rfl rfl g26) ?_
        refine op_run (r_gtr rfl rfl) (g_yes rfl rfl rfl g26) ?_
        refine o_pkFt rfl g26 rfl ?_
        refine o_ast rfl ?_
        refine ops_nil ?_
        refine W_ret ?_
        refine ret1 _ rfl rfl ?_
        refine ⟨congrArg Value.bool (decide_eq_true ?_), ((hk1.trans hk4).trans hk5)⟩
        have hne := of_decide_eq_false g26
        have hbig := encN_big x (by omega)
        rw [e1, e2, fdiv_nat]
        have e3 : min (7 * ((encN x).length - 1)) IntKind.u64.bits = 7 * ((encN x).length - 1) := by simp [IntKind.bits]; omega
        rw [e3, Nat.pow_mul]
        have : 0 < x / (2 ^ 7) ^ ((encN x).length - 1) := Nat.div_pos hbig (Nat.pow_pos (by omega))
        omega
      · refine op_skip (g_no rfl rfl rfl g26) ?_
        refine op_skip (g_no rfl rfl rfl g26) ?_
        refine op_skip (g_no rfl rfl rfl g26) ?_
        refine op_skip (g_no rfl rfl rfl g26) ?_
        refine op_skip (g_no rfl rfl rfl g26) ?_
        refine op_skip (g_no rfl rfl rfl g26) ?_
        refine op_skip (g_no rfl rfl rfl g26) ?_
        refine o_pkTc rfl g26 rfl ?_
        refine o_ast rfl ?_
        refine ops_nil ?_
        refine W_ret ?_
        refine ret1 _ rfl rfl ?_
        exact ⟨rfl, ((hk1.trans hk4).trans hk5)⟩
end Go.Proofs.Ythjmobiidlolhaa.B
