/-
  The reference's space: a truth for each sector.
-/
import Derived.Test.YtcmkfembphakiaaSpaceApart
namespace Go.Proofs.Ytcmkfembphakiaa.B
open Go
set_option linter.unusedVariables false
attribute [local irreducible] W OpsW OpsQ retP
def fl (f : Nat → Bool) (n : Nat) : List Value := (List.range n).map fun i => Value.bool (f i)
theorem fl_len (f : Nat → Bool) (n : Nat) : (fl f n).length = n := by simp [fl]
theorem fl_get {f : Nat → Bool} {n k : Nat} (h : k < n) : (fl f n)[k]? = some (.bool (f k)) := by simp [fl, h]
theorem fl_congr {f g : Nat → Bool} {n : Nat} (h : ∀ i, i < n → f i = g i) : fl f n = fl g n := by
  unfold fl
  refine List.map_congr_left fun i hi => ?_
  rw [h i (List.mem_range.1 hi)]
theorem fl_set (f : Nat → Bool) (n k : Nat) (b : Bool) : (fl f n).set k (.bool b) = fl (fun i => if i = k then b else f i) n := by
  apply List.ext_getElem?
  intro i
  by_cases hi : i < n
  · rw [fl_get hi]
    by_cases e : k = i
    · subst e; rw [List.getElem?_set_self (by rw [fl_len]; exact hi), if_pos rfl]
    · rw [List.getElem?_set_ne e, fl_get hi, if_neg (fun h => e h.symm)]
  · rw [List.getElem?_eq_none (by rw [List.length_set, fl_len]; omega), List.getElem?_eq_none (by rw [fl_len]; omega)]
/-- A slice of truths, whole in its block. -/
abbrev FlC (w : World) (g n : Nat) (f : Nat → Bool) : Prop := Blk w g (fl f n) 4

theorem ref06_Free (w : World) (g n : Nat) (f : Nat → Bool) (hn : n ≤ 65536) (h : FlC w g n f) :
    Ret Try.prog 16 [.slice (some ⟨g, 0, none⟩) n n].toArray w fun r w' => r = .int .i64 ((n : Int) - (cnt f n : Int)) ∧ w' = w := by
  refine enter (fn := Try.f16) (n := 19) Try.func16 rfl rfl (by simp) ?_
  refine W_seq ?_
  refine W_region ?_
  refine o_asc rfl ?_
  refine ops_nil ?_
  refine W_seq ?_
  refine W_region ?_
  refine o_asc rfl ?_
  refine ops_nil ?_
  refine W_seq ?_
  refine W_seq ?_
  refine W_region ?_
  refine o_asc rfl ?_
  refine ops_nil ?_
  refine W_block ?_
  refine W_loop [3, 4] [3, 4, 5, 6, 7, 8, 9, 10, 11, 12, 13, 14, 15, 16, 17] (fun vs w' => ∃ k : Nat, vs = [.int .i64 ((k : Int) - (cnt f k : Int)), .int .i64 k] ∧ k ≤ n ∧ w = w') (fun vs _ => match vs with | [_, .int _ k] => n - k.toNat | _ => 0) ⟨0, rfl, by omega, rfl⟩ ?_
  rintro J vs w2 ⟨k, rfl, hk, rfl⟩ -
  refine W_seq ?_
  refine W_seq ?_
  refine W_region ?_
  refine o_mvt rfl ?_
  refine o_mvt rfl ?_
  refine op_run (r_len rfl rfl rfl) rfl ?_
  refine op_run (r_lss rfl rfl) rfl ?_
  refine ops_nil ?_
  refine W_cond_p rfl (fun h2 => ?_) (fun h2 => ?_)
  · refine W_skip ?_
    refine W_seq ?_
    refine W_block ?_
    refine W_seq ?_
    refine W_region ?_
    refine o_mvt rfl ?_
    refine o_mvt rfl ?_
    have hkn : k < n := by omega
    have hinc := inc64' k (by omega)
    have hc := cnt_le f k
    have hcs := cnt_s f k
    refine op_run (r_idxS1 rfl rfl rfl rfl (by omega) (by omega)) rfl ?_
    refine op_run (r_load rfl rfl rfl (h.cell (by rw [Int.toNat_natCast, Nat.zero_add]; exact fl_get hkn))) rfl ?_
    refine op_run (r_not rfl) rfl ?_
    refine ops_nil ?_
    refine W_cond rfl (fun h5 => ?_) (fun h5 => ?_)
    · refine W_region ?_
      refine o_mvt rfl ?_
      refine op_run (r_add rfl rfl) rfl ?_
      refine o_ast rfl ?_
      refine ops_nil ?_
      refine W_region ?_
      refine o_mvt rfl ?_
      refine op_run (r_add rfl rfl) rfl ?_
      refine o_ast rfl ?_
      refine ops_nil ?_
      have hf : f k = false := by simpa using h5
      rw [if_neg (by rw [hf]; simp)] at hcs
      have hinc3 : IntKind.i64.wrap (((k : Int) - (cnt f k : Int)) + 1) = ((k + 1 : Nat) : Int) - (cnt f (k + 1) : Int) := by rw [wrap_i64 (by omega) (by omega), hcs]; omega
      refine ⟨by (repeat (first | with_reducible exact offM_refl _ _ | refine offM_updc rfl ?_ | refine offM_upd rfl ?_ | refine offM_updo rfl ?_ | refine offM_updo_none ?_ | refine offM_head rfl rfl ?_)), ⟨k + 1, ?_, by omega, rfl⟩, ?_⟩
      · rw [← hinc3, ← hinc]; rfl
      · show n - (IntKind.i64.wrap ((k : Int) + 1)).toNat < n - (k : Int).toNat
        rw [hinc]; omega
    · refine W_skip ?_
      refine W_region ?_
      refine o_mvt rfl ?_
      refine op_run (r_add rfl rfl) rfl ?_
      refine o_ast rfl ?_
      refine ops_nil ?_
      have hf : f k = true := by simpa using h5
      rw [if_pos hf] at hcs
      have hinc3 : ((k : Int) - (cnt f k : Int)) = ((k + 1 : Nat) : Int) - (cnt f (k + 1) : Int) := by rw [hcs]; omega
      refine ⟨by (repeat (first | with_reducible exact offM_refl _ _ | refine offM_updc rfl ?_ | refine offM_upd rfl ?_ | refine offM_updo rfl ?_ | refine offM_updo_none ?_ | refine offM_head rfl rfl ?_)), ⟨k + 1, ?_, by omega, rfl⟩, ?_⟩
      · rw [← hinc3, ← hinc]; rfl
      · show n - (IntKind.i64.wrap ((k : Int) + 1)).toNat < n - (k : Int).toNat
        rw [hinc]; omega
  · refine W_exit ?_
    refine W_seq ?_
    refine W_region ?_
    refine o_mvt rfl ?_
    refine o_ast rfl ?_
    refine ops_nil ?_
    refine W_ret ?_
    refine ret1 (.int .i64 ((k : Int) - (cnt f k : Int))) rfl ?_ ?_; rfl
    have e : k = n := by omega
    subst e
    exact ⟨rfl, rfl⟩

theorem ref06_Turn (w : World) (g n : Nat) (f : Nat → Bool) (at_ m : Int) (tk : Bool) (hn : n ≤ 65536) (h : FlC w g n f) :
    Ret Try.prog 12 [.slice (some ⟨g, 0, none⟩) n n, .int .i64 at_, .int .i64 m, .bool tk].toArray w fun r w' =>
      if m < 0 ∨ at_ < 0 ∨ (n : Int) < at_ ∨ (n : Int) - at_ < m then r = .int .i64 2 ∧ w' = w
      else r = .int .i64 0 ∧ FlC w' g n (turnF f at_.toNat m.toNat tk) ∧ Keep (· ≠ g) w w' := by
  refine enter (fn := Try.f12) (n := 41) Try.func12 rfl rfl (by simp) ?_
  refine W_seq ?_
  refine W_region ?_
  refine o_asc rfl ?_
  refine ops_nil ?_
  refine W_seq ?_
  refine W_cut [29] [10, 11, 12, 13, 14, 15, 16, 17, 18, 19, 20, 21, 22, 23, 24, 25, 26, 27, 28, 29] (fun vs w1 => vs = [.bool (decide (m < 0 ∨ at_ < 0 ∨ (n : Int) < at_ ∨ (n : Int) - at_ < m))] ∧ w1 = w) ?_ ?_
  · refine W_region ?_
    refine o_mvt rfl ?_
    refine op_run (r_lss rfl rfl) rfl ?_
    refine o_mvt rfl ?_
    refine g_split rfl rfl rfl (fun g2 => ?_) (fun g2 => ?_)
    · refine o_mvt (g_yes rfl rfl rfl g2) ?_
      refine op_run (r_lss rfl rfl) (g_yes rfl rfl rfl g2) ?_
      refine o_pkFt rfl g2 rfl ?_
      refine o_mvt rfl ?_
      refine g_split rfl rfl rfl (fun g3 => ?_) (fun g3 => ?_)
      · refine o_mvt (g_yes rfl rfl rfl g3) ?_
        refine o_mvt (g_yes rfl rfl rfl g3) ?_
        refine op_run (r_len rfl rfl rfl) (g_yes rfl rfl rfl g3) ?_
        refine op_run (r_gtr rfl rfl) (g_yes rfl rfl rfl g3) ?_
        refine o_pkFt rfl g3 rfl ?_
        refine o_mvt rfl ?_
        refine g_split rfl rfl rfl (fun g4 => ?_) (fun g4 => ?_)
        · refine o_mvt (g_yes rfl rfl rfl g4) ?_
          refine o_mvt (g_yes rfl rfl rfl g4) ?_
          refine op_run (r_len rfl rfl rfl) (g_yes rfl rfl rfl g4) ?_
          refine o_mvt (g_yes rfl rfl rfl g4) ?_
          refine op_run ((r_sub rfl rfl).val (congrArg (Value.int .i64) (wrap_i64 (by have := of_decide_eq_false g3; have := of_decide_eq_false g4; omega) (by have := of_decide_eq_false g3; have := of_decide_eq_false g4; omega)))) (g_yes rfl rfl rfl g4) ?_
          refine op_run (r_gtr rfl rfl) (g_yes rfl rfl rfl g4) ?_
          refine o_pkFt rfl g4 rfl ?_
          refine ops_nil ?_
          exact ⟨by (repeat (first | with_reducible exact offM_refl _ _ | refine offM_updc rfl ?_ | refine offM_upd rfl ?_ | refine offM_updo rfl ?_ | refine offM_updo_none ?_ | refine offM_head rfl rfl ?_)), congrArg (fun b => [Value.bool b]) (by have := of_decide_eq_false g2; have := of_decide_eq_false g3; have := of_decide_eq_false g4; rw [decide_eq_decide]; constructor <;> intro hh <;> omega), rfl⟩
        · refine op_skip (g_no rfl rfl rfl g4) ?_
          refine op_skip (g_no rfl rfl rfl g4) ?_
          refine op_skip (g_no rfl rfl rfl g4) ?_
          refine op_skip (g_no rfl rfl rfl g4) ?_
          refine op_skip (g_no rfl rfl rfl g4) ?_
          refine op_skip (g_no rfl rfl rfl g4) ?_
          refine o_pkTc rfl g4 rfl ?_
          refine ops_nil ?_
          exact ⟨by (repeat (first | with_reducible exact offM_refl _ _ | refine offM_updc rfl ?_ | refine offM_upd rfl ?_ | refine offM_updo rfl ?_ | refine offM_updo_none ?_ | refine offM_head rfl rfl ?_)), congrArg (fun b => [Value.bool b]) (by have := of_decide_eq_true g4; symm; apply decide_eq_true; omega), rfl⟩
      · refine op_skip (g_no rfl rfl rfl g3) ?_
        refine op_skip (g_no rfl rfl rfl g3) ?_
        refine op_skip (g_no rfl rfl rfl g3) ?_
        refine op_skip (g_no rfl rfl rfl g3) ?_
        refine o_pkTc rfl g3 rfl ?_
        refine o_mvt rfl ?_
        refine op_skip (g_no rfl rfl rfl rfl) ?_
        refine op_skip (g_no rfl rfl rfl rfl) ?_
        refine op_skip (g_no rfl rfl rfl rfl) ?_
        refine op_skip (g_no rfl rfl rfl rfl) ?_
        refine op_skip (g_no rfl rfl rfl rfl) ?_
        refine op_skip (g_no rfl rfl rfl rfl) ?_
        refine o_pkTc rfl rfl rfl ?_
        refine ops_nil ?_
        exact ⟨by (repeat (first | with_reducible exact offM_refl _ _ | refine offM_updc rfl ?_ | refine offM_upd rfl ?_ | refine offM_updo rfl ?_ | refine offM_updo_none ?_ | refine offM_head rfl rfl ?_)), congrArg (fun b => [Value.bool b]) (by have := of_decide_eq_true g3; symm; apply decide_eq_true; omega), rfl⟩
    · refine op_skip (g_no rfl rfl rfl g2) ?_
      refine op_skip (g_no rfl rfl rfl g2) ?_
      refine o_pkTc rfl g2 rfl ?_
      refine o_mvt rfl ?_
      refine op_skip (g_no rfl rfl rfl rfl) ?_
      refine op_skip (g_no rfl rfl rfl rfl) ?_
      refine op_skip (g_no rfl rfl rfl rfl) ?_
      refine op_skip (g_no rfl rfl rfl rfl) ?_
      refine o_pkTc rfl rfl rfl ?_
      refine o_mvt rfl ?_
      refine op_skip (g_no rfl rfl rfl rfl) ?_
      refine op_skip (g_no rfl rfl rfl rfl) ?_
      refine op_skip (g_no rfl rfl rfl rfl) ?_
      refine op_skip (g_no rfl rfl rfl rfl) ?_
      refine op_skip (g_no rfl rfl rfl rfl) ?_
      refine op_skip (g_no rfl rfl rfl rfl) ?_
      refine o_pkTc rfl rfl rfl ?_
      refine ops_nil ?_
      exact ⟨by (repeat (first | with_reducible exact offM_refl _ _ | refine offM_updc rfl ?_ | refine offM_upd rfl ?_ | refine offM_updo rfl ?_ | refine offM_updo_none ?_ | refine offM_head rfl rfl ?_)), congrArg (fun b => [Value.bool b]) (by have := of_decide_eq_true g2; symm; apply decide_eq_true; omega), rfl⟩
  · rintro J9 vs w9 ⟨rfl, rfl⟩ -
    refine W_cond_p rfl (fun h10 => ?_) (fun h10 => ?_)
    · refine W_seq ?_
      refine W_region ?_
      refine o_asc rfl ?_
      refine ops_nil ?_
      refine W_ret ?_
      refine ret1 (.int .i64 2) rfl ?_ ?_; rfl
      rw [if_pos h10]; exact ⟨rfl, rfl⟩
    · refine W_skip ?_
      refine W_seq ?_
      refine W_seq ?_
      refine W_region ?_
      refine o_asc rfl ?_
      refine ops_nil ?_
      refine W_block ?_
      obtain ⟨a, rfl⟩ := Int.eq_ofNat_of_zero_le (show 0 ≤ at_ by omega)
      obtain ⟨q, rfl⟩ := Int.eq_ofNat_of_zero_le (show 0 ≤ m by omega)
      refine W_loop [9] [9, 30, 31, 32, 33, 34, 35, 36, 37, 38, 39, 40] (fun vs w' => ∃ i : Nat, vs = [.int .i64 i] ∧ i ≤ q ∧ FlC w' g n (turnF f a i tk) ∧ Keep (· ≠ g) w9 w') (fun vs _ => match vs with | [.int _ i] => q - i.toNat | _ => 0) ⟨0, rfl, by omega, by unfold FlC; rw [fl_congr (g := f) (fun i _ => by unfold turnF; rw [if_neg (by omega)])]; exact h, Keep.refl _⟩ ?_
      rintro J vs w2 ⟨i, rfl, hi, hF, hk2⟩ -
      have hadd : IntKind.i64.wrap ((a : Int) + (i : Int)) = ((a + i : Nat) : Int) := by rw [wrap_i64 (by omega) (by omega)]; omega
      refine W_seq ?_
      refine W_seq ?_
      refine W_region ?_
      refine o_mvt rfl ?_
      refine o_mvt rfl ?_
      refine op_run (r_lss rfl rfl) rfl ?_
      refine ops_nil ?_
      refine W_cond_p rfl (fun h13 => ?_) (fun h13 => ?_)
      · refine W_skip ?_
        refine W_seq ?_
        refine W_block ?_
        refine W_region ?_
        refine o_mvt rfl ?_
        refine o_mvt rfl ?_
        refine o_mvt rfl ?_
        refine op_run ((r_add rfl rfl).val (congrArg (Value.int .i64) hadd)) rfl ?_
        refine o_mvt rfl ?_
        have hinc := inc64' i (by omega)
        refine op_run (r_idxS1 rfl rfl rfl rfl (by omega) (by omega)) rfl ?_
        refine o_store (v := .bool tk) rfl rfl rfl rfl hF (by rw [fl_len]; omega) rfl ?_; intro w15 hB15 hk15 hs15
        refine ops_nil ?_
        refine W_region ?_
        refine o_mvt rfl ?_
        refine op_run (r_add rfl rfl) rfl ?_
        refine o_ast rfl ?_
        refine ops_nil ?_
        rw [show 0 + ((a + i : Nat) : Int).toNat = a + i by omega, fl_set] at hB15
        refine ⟨by (repeat (first | with_reducible exact offM_refl _ _ | refine offM_updc rfl ?_ | refine offM_upd rfl ?_ | refine offM_updo rfl ?_ | refine offM_updo_none ?_ | refine offM_head rfl rfl ?_)), ⟨i + 1, ?_, by omega, ?_, hk2.trans hk15⟩, ?_⟩
        · rw [← hinc]; rfl
        · unfold FlC
          rw [fl_congr (g := fun x => if x = a + i then tk else turnF f a i tk x) (fun x _ => ?_)]
          · exact hB15
          · unfold turnF
            by_cases h1 : x = a + i
            · rw [if_pos h1, if_pos (by omega)]
            · rw [if_neg h1]
              by_cases h2 : a ≤ x ∧ x < a + i
              · rw [if_pos h2, if_pos (by omega)]
              · rw [if_neg h2, if_neg (by omega)]
        · show q - (IntKind.i64.wrap ((i : Int) + 1)).toNat < q - (i : Int).toNat
          rw [hinc]; omega
      · refine W_exit ?_
        refine W_seq ?_
        refine W_region ?_
        refine o_asc rfl ?_
        refine ops_nil ?_
        refine W_ret ?_
        refine ret1 (.int .i64 0) rfl ?_ ?_; rfl
        rw [if_neg h10]
        have e : i = q := by omega
        subst e
        exact ⟨rfl, hF, hk2⟩

theorem ref06_Take (w : World) (g n : Nat) (f : Nat → Bool) (m : Int) (hn : n ≤ 65536) (h : FlC w g n f) :
    Ret Try.prog 15 [.slice (some ⟨g, 0, none⟩) n n, .int .i64 m].toArray w fun r w' =>
      if m < 1 then r = .tuple #[.int .i64 0, .int .i64 1] ∧ w' = w
      else (∃ p : Nat, p + m.toNat ≤ n ∧ win f p m.toNat ∧ (∀ q, q < p → ¬ win f q m.toNat) ∧ r = .tuple #[.int .i64 p, .int .i64 0] ∧ w' = w) ∨
        ((∀ q, q + m.toNat ≤ n → ¬ win f q m.toNat) ∧ r = .tuple #[.int .i64 0, .int .i64 4] ∧ w' = w) := by
  refine enter (fn := Try.f15) (n := 42) Try.func15 rfl rfl (by simp) ?_
  refine W_seq ?_
  refine W_region ?_
  refine o_asc rfl ?_
  refine o_asc rfl ?_
  refine ops_nil ?_
  refine W_seq ?_
  refine W_seq ?_
  refine W_region ?_
  refine o_mvt rfl ?_
  refine op_run (r_lss rfl rfl) rfl ?_
  refine ops_nil ?_
  refine W_cond_p rfl (fun h1 => ?_) (fun h1 => ?_)
  · refine W_seq ?_
    refine W_region ?_
    refine o_asc rfl ?_
    refine o_asc rfl ?_
    refine ops_nil ?_
    refine W_ret ?_
    refine ret2 (.int .i64 0) (.int .i64 1) rfl rfl rfl ?_
    rw [if_pos h1]; exact ⟨rfl, rfl⟩
  · refine W_skip ?_
    refine W_seq ?_
    refine W_seq ?_
    refine W_region ?_
    refine o_asc rfl ?_
    refine ops_nil ?_
    refine W_block ?_
    refine W_loop [6] [4, 5, 6, 7, 8, 11, 12, 13, 14, 15, 16, 17, 18, 19, 20, 21, 22, 23, 24, 25, 26, 27, 28, 29, 30, 31, 32, 33, 34, 35, 36, 37, 38, 39, 40, 41] (fun vs w' => ∃ k : Nat, vs = [.int .i64 k] ∧ k ≤ n ∧ (∀ q, q < k → ¬ win f q m.toNat) ∧ w = w') (fun vs _ => match vs with | [.int _ k] => n - k.toNat | _ => 0) ⟨0, rfl, by omega, (fun q hq => by omega), rfl⟩ ?_
    rintro J vs w3 ⟨k, rfl, hk, hno, rfl⟩ -
    have hinc := inc64' k (by omega)
    refine W_seq ?_
    refine W_cut [22] [11, 12, 13, 14, 15, 16, 17, 18, 19, 20, 21, 22] (fun vs w4 => vs = [.bool (decide ((k : Int) < n ∧ m ≤ (n : Int) - k))] ∧ w4 = w) ?_ ?_
    · refine W_region ?_
      refine o_mvt rfl ?_
      refine o_mvt rfl ?_
      refine op_run (r_len rfl rfl rfl) rfl ?_
      refine op_run (r_lss rfl rfl) rfl ?_
      refine o_mvt rfl ?_
      refine g_split rfl rfl rfl (fun g5 => ?_) (fun g5 => ?_)
      · refine o_mvt (g_yes rfl rfl rfl g5) ?_
        refine o_mvt (g_yes rfl rfl rfl g5) ?_
        refine op_run (r_len rfl rfl rfl) (g_yes rfl rfl rfl g5) ?_
        refine o_mvt (g_yes rfl rfl rfl g5) ?_
        refine op_run ((r_sub rfl rfl).val (congrArg (Value.int .i64) (wrap_i64 (by omega) (by omega)))) (g_yes rfl rfl rfl g5) ?_
        refine op_run (r_leq rfl rfl) (g_yes rfl rfl rfl g5) ?_
        refine o_pkTt rfl g5 rfl ?_
        refine ops_nil ?_
        exact ⟨by (repeat (first | with_reducible exact offM_refl _ _ | refine offM_updc rfl ?_ | refine offM_upd rfl ?_ | refine offM_updo rfl ?_ | refine offM_updo_none ?_ | refine offM_head rfl rfl ?_)), congrArg (fun b => [Value.bool b]) (by have := of_decide_eq_true g5; rw [decide_eq_decide]; constructor <;> intro hh <;> omega), rfl⟩
      · refine op_skip (g_no rfl rfl rfl g5) ?_
        refine op_skip (g_no rfl rfl rfl g5) ?_
        refine op_skip (g_no rfl rfl rfl g5) ?_
        refine op_skip (g_no rfl rfl rfl g5) ?_
        refine op_skip (g_no rfl rfl rfl g5) ?_
        refine op_skip (g_no rfl rfl rfl g5) ?_
        refine o_pkFc rfl g5 rfl ?_
        refine ops_nil ?_
        exact ⟨by (repeat (first | with_reducible exact offM_refl _ _ | refine offM_updc rfl ?_ | refine offM_upd rfl ?_ | refine offM_updo rfl ?_ | refine offM_updo_none ?_ | refine offM_head rfl rfl ?_)), congrArg (fun b => [Value.bool b]) (by have := of_decide_eq_false g5; symm; apply decide_eq_false; omega), rfl⟩
    · rintro J8 vs w8 ⟨rfl, rfl⟩ -
      refine W_cond_p rfl (fun h9 => ?_) (fun h9 => ?_)
      · refine W_skip ?_
        refine W_seq ?_
        refine W_block ?_
        refine W_seq ?_
        refine W_region ?_
        refine o_asc rfl ?_
        refine ops_nil ?_
        refine W_seq ?_
        refine W_seq ?_
        refine W_region ?_
        refine o_asc rfl ?_
        refine ops_nil ?_
        refine W_block ?_
        refine W_loop [7, 8] [7, 8, 25, 26, 27, 28, 29, 30, 31, 32, 33, 34, 35, 36, 37, 38, 39] (fun vs w' => ∃ (ok : Bool) (i : Nat), vs = [.bool ok, .int .i64 i] ∧ (i : Int) ≤ m ∧ (ok = true ↔ ∀ j, j < i → f (k + j) = false) ∧ w8 = w') (fun vs _ => match vs with | [_, .int _ i] => m.toNat - i.toNat | _ => 0) ⟨true, 0, rfl, by omega, ⟨fun _ j hj => by omega, fun _ => rfl⟩, rfl⟩ ?_
        rintro J2 vs w10 ⟨ok, i, rfl, hi, hok, rfl⟩ -
        have hadd : IntKind.i64.wrap ((k : Int) + (i : Int)) = ((k + i : Nat) : Int) := by rw [wrap_i64 (by omega) (by omega)]; omega
        have hinc2 := inc64' i (by omega)
        refine W_seq ?_
        refine W_seq ?_
        refine W_region ?_
        refine o_mvt rfl ?_
        refine o_mvt rfl ?_
        refine op_run (r_lss rfl rfl) rfl ?_
        refine ops_nil ?_
        refine W_cond_p rfl (fun h11 => ?_) (fun h11 => ?_)
        · refine W_skip ?_
          refine W_seq ?_
          refine W_block ?_
          refine W_region ?_
          refine o_mvt rfl ?_
          refine o_mvt rfl ?_
          refine g_split rfl rfl rfl (fun g12 => ?_) (fun g12 => ?_)
          · refine o_mvt (g_yes rfl rfl rfl g12) ?_
            refine o_mvt (g_yes rfl rfl rfl g12) ?_
            refine o_mvt (g_yes rfl rfl rfl g12) ?_
            refine op_run ((r_add rfl rfl).val (congrArg (Value.int .i64) hadd)) (g_yes rfl rfl rfl g12) ?_
            refine op_run (r_idxS1 rfl rfl rfl rfl (by omega) (by omega)) (g_yes rfl rfl rfl g12) ?_
            refine op_run (r_load rfl rfl rfl (h.cell (by rw [Int.toNat_natCast, Nat.zero_add]; exact fl_get (by omega)))) (g_yes rfl rfl rfl g12) ?_
            refine op_run (r_not rfl) (g_yes rfl rfl rfl g12) ?_
            refine o_pkTt rfl g12 rfl ?_
            refine o_ast rfl ?_
            refine ops_nil ?_
            refine W_region ?_
            refine o_mvt rfl ?_
            refine op_run (r_add rfl rfl) rfl ?_
            refine o_ast rfl ?_
            refine ops_nil ?_
            refine ⟨by (repeat (first | with_reducible exact offM_refl _ _ | refine offM_updc rfl ?_ | refine offM_upd rfl ?_ | refine offM_updo rfl ?_ | refine offM_updo_none ?_ | refine offM_head rfl rfl ?_)), ⟨!f (k + i), i + 1, ?_, by omega, ?_, rfl⟩, ?_⟩
            · rw [← hinc2]; rfl
            · constructor
              · intro h2 j hj
                by_cases e : j = i
                · subst e; simpa using h2
                · exact hok.1 g12 j (by omega)
              · intro h2; simpa using h2 i (by omega)
            · show m.toNat - (IntKind.i64.wrap ((i : Int) + 1)).toNat < m.toNat - (i : Int).toNat
              rw [hinc2]; omega
          · refine op_skip (g_no rfl rfl rfl g12) ?_
            refine op_skip (g_no rfl rfl rfl g12) ?_
            refine op_skip (g_no rfl rfl rfl g12) ?_
            refine op_skip (g_no rfl rfl rfl g12) ?_
            refine op_skip (g_no rfl rfl rfl g12) ?_
            refine op_skip (g_no rfl rfl rfl g12) ?_
            refine op_skip (g_no rfl rfl rfl g12) ?_
            refine o_pkFc rfl g12 rfl ?_
            refine o_ast rfl ?_
            refine ops_nil ?_
            refine W_region ?_
            refine o_mvt rfl ?_
            refine op_run (r_add rfl rfl) rfl ?_
            refine o_ast rfl ?_
            refine ops_nil ?_
            refine ⟨by (repeat (first | with_reducible exact offM_refl _ _ | refine offM_updc rfl ?_ | refine offM_upd rfl ?_ | refine offM_updo rfl ?_ | refine offM_updo_none ?_ | refine offM_head rfl rfl ?_)), ⟨false, i + 1, ?_, by omega, ?_, rfl⟩, ?_⟩
            · rw [← hinc2]; rfl
            · constructor
              · intro h2; cases h2
              · intro h2
                have := hok.2 (fun j hj => h2 j (by omega))
                rw [this] at g12; simp at g12
            · show m.toNat - (IntKind.i64.wrap ((i : Int) + 1)).toNat < m.toNat - (i : Int).toNat
              rw [hinc2]; omega
        · refine W_exit ?_
          refine W_seq ?_
          refine W_region ?_
          refine o_mvt rfl ?_
          refine ops_nil ?_
          refine W_cond rfl (fun h17 => ?_) (fun h17 => ?_)
          · refine W_seq ?_
            refine W_region ?_
            refine o_mvt rfl ?_
            refine o_ast rfl ?_
            refine o_asc rfl ?_
            refine ops_nil ?_
            refine W_ret ?_
            refine ret2 (.int .i64 k) (.int .i64 0) rfl rfl rfl ?_
            rw [if_neg h1]
            refine .inl ⟨k, by omega, ?_, hno, rfl, rfl⟩
            intro j h2 h3
            have := hok.1 h17 (j - k) (by omega)
            rwa [show k + (j - k) = j by omega] at this
          · refine W_skip ?_
            refine W_region ?_
            refine o_mvt rfl ?_
            refine op_run (r_add rfl rfl) rfl ?_
            refine o_ast rfl ?_
            refine ops_nil ?_
            refine ⟨by (repeat (first | with_reducible exact offM_refl _ _ | refine offM_updc rfl ?_ | refine offM_upd rfl ?_ | refine offM_updo rfl ?_ | refine offM_updo_none ?_ | refine offM_head rfl rfl ?_)), ⟨k + 1, ?_, by omega, ?_, rfl⟩, ?_⟩
            · rw [← hinc]; rfl
            · intro q hq hw
              by_cases e : q = k
              · subst e
                have := hok.2 (fun j hj => hw (q + j) (by omega) (by omega))
                rw [this] at h17; cases h17
              · exact hno q (by omega) hw
            · show n - (IntKind.i64.wrap ((k : Int) + 1)).toNat < n - (k : Int).toNat
              rw [hinc]; omega
      · refine W_exit ?_
        refine W_seq ?_
        refine W_region ?_
        refine o_asc rfl ?_
        refine o_asc rfl ?_
        refine ops_nil ?_
        refine W_ret ?_
        refine ret2 (.int .i64 0) (.int .i64 4) rfl rfl rfl ?_
        rw [if_neg h1]
        exact .inr ⟨fun q hq => hno q (by omega), rfl, rfl⟩
end Go.Proofs.Ytcmkfembphakiaa.B
