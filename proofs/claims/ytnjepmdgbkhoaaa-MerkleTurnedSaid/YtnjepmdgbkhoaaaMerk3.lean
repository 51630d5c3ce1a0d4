/-
  Rows of one's own are turned about.
-/
import Derived.Test.YtnjepmdgbkhoaaaMerk2
namespace Go.Proofs.Ytnjepmdgbkhoaaa.B
open Go
set_option linter.unusedVariables false
set_option maxHeartbeats 2000000
set_option maxRecDepth 100000
attribute [local irreducible] W OpsW OpsQ retP
section
variable {α : Type}
/-- The first i and the last i have changed places. -/
def revI (xs : List α) : Nat → List α
  | 0 => xs
  | i + 1 => match xs[i]?, xs[xs.length - 1 - i]? with
    | some x, some y => ((revI xs i).set i y).set (xs.length - 1 - i) x
    | _, _ => revI xs i
theorem revI_len (xs : List α) : ∀ i, (revI xs i).length = xs.length
  | 0 => rfl
  | i + 1 => by unfold revI; split <;> simp [revI_len xs i]
theorem revI_s {xs : List α} {i : Nat} {x y : α} (hx : xs[i]? = some x) (hy : xs[xs.length - 1 - i]? = some y) : revI xs (i + 1) = ((revI xs i).set i y).set (xs.length - 1 - i) x := by
  rw [revI, hx, hy]
theorem revI_get (xs : List α) : ∀ (i k : Nat), 2 * i ≤ xs.length → k < xs.length → (revI xs i)[k]? = if k < i ∨ xs.length ≤ k + i then xs[xs.length - 1 - k]? else xs[k]?
  | 0, k, h, hk => by rw [if_neg (by omega)]; rfl
  | i + 1, k, h, hk => by
    obtain ⟨x, hx⟩ : ∃ x, xs[i]? = some x := ⟨_, List.getElem?_eq_getElem (by omega)⟩
    obtain ⟨y, hy⟩ : ∃ y, xs[xs.length - 1 - i]? = some y := ⟨_, List.getElem?_eq_getElem (by omega)⟩
    rw [revI_s hx hy]
    have hl := revI_len xs i
    by_cases h1 : k = xs.length - 1 - i
    · subst h1
      rw [List.getElem?_set_self (by rw [List.length_set, hl]; omega), if_pos (by omega), show xs.length - 1 - (xs.length - 1 - i) = i by omega, hx]
    · rw [List.getElem?_set_ne (fun e => h1 e.symm)]
      by_cases h2 : k = i
      · subst h2
        rw [List.getElem?_set_self (by rw [hl]; omega), if_pos (by omega), hy]
      · rw [List.getElem?_set_ne (fun e => h2 e.symm), revI_get xs i k (by omega) hk]
        by_cases h3 : k < i ∨ xs.length ≤ k + i
        · rw [if_pos h3, if_pos (by omega)]
        · rw [if_neg h3, if_neg (by omega)]
theorem revI_end {xs : List α} {i : Nat} (h1 : 2 * i ≤ xs.length) (h2 : xs.length ≤ 2 * i + 1) : revI xs i = xs.reverse := by
  apply List.ext_getElem?
  intro k
  by_cases hk : k < xs.length
  · rw [revI_get xs i k h1 hk, List.getElem?_reverse hk]
    split
    · rfl
    · rw [show k = xs.length - 1 - k by omega]; congr 1; omega
  · rw [List.getElem?_eq_none (by rw [revI_len]; omega), List.getElem?_eq_none (by rw [List.length_reverse]; omega)]
/-- Not yet swapped. -/
theorem revI_mid {xs : List α} {i : Nat} (h : 2 * i + 2 ≤ xs.length) : (revI xs i)[i]? = xs[i]? ∧ (revI xs i)[xs.length - 1 - i]? = xs[xs.length - 1 - i]? := by
  rw [revI_get xs i i (by omega) (by omega), revI_get xs i (xs.length - 1 - i) (by omega) (by omega), if_neg (by omega), if_neg (by omega)]
  exact ⟨rfl, rfl⟩
end

theorem sl_RevB (w : World) (v : Value) (xs : List Bool) (h : Own w 4 1 v xs.length (xs.map .bool)) :
    Ret Try.prog 29 [v].toArray w fun _ w' => Own w' 4 1 v xs.length (xs.reverse.map .bool) ∧ Keep (fun b => some b ≠ v.ownBlock) w w' := by
  obtain ⟨a0, c0, rfl, hc0, hcm0⟩ := h.form
  have hm : c0 ≤ 9223372036854775807 := by unfold maxLen at hcm0; omega
  refine enter (fn := Try.f29) (n := 28) Try.func29 rfl rfl (by simp) ?_
  refine W_seq ?_
  refine W_region ?_
  refine o_mvt rfl ?_
  refine op_run (r_len rfl rfl rfl) rfl ?_
  refine op_run ((r_sub rfl rfl).val (congrArg (Value.int .i64) (show IntKind.i64.wrap ((xs.length : Int) - 1) = (xs.length : Int) - 1 from wrap_i64 (by omega) (by omega)))) rfl ?_
  refine o_asc rfl ?_
  refine o_ast rfl ?_
  refine ops_nil ?_
  refine W_block ?_
  refine W_loop [2, 3] [2, 3, 7, 8, 9, 10, 11, 12, 13, 14, 15, 16, 17, 18, 19, 20, 21, 22, 23, 24, 25, 26, 27] (fun vs w' => ∃ i : Nat, vs = [.int .i64 i, .int .i64 ((xs.length : Int) - 1 - i)] ∧ 2 * i ≤ xs.length ∧ Own w' 4 1 (.slice a0 xs.length c0) xs.length ((revI xs i).map .bool) ∧ Keep (fun b => some b ≠ (Value.slice a0 xs.length c0).ownBlock) w w') (fun vs _ => match vs with | [.int _ k, _] => xs.length - k.toNat | _ => 0) ⟨0, congrArg (fun z : Int => [Value.int .i64 0, Value.int .i64 z]) (show (xs.length : Int) - 1 = (xs.length : Int) - 1 - ((0 : Nat) : Int) by omega), by omega, h, Keep.refl _⟩ ?_
  rintro J1 vs w1 ⟨i, rfl, hi, hO, hk1⟩ -
  refine W_seq ?_
  refine W_seq ?_
  refine W_region ?_
  refine o_mvt rfl ?_
  refine o_mvt rfl ?_
  refine op_run (r_lss rfl rfl) rfl ?_
  refine ops_nil ?_
  refine W_cond_p rfl (fun h2 => ?_) (fun h2 => ?_)
  · refine W_skip ?_
    refine W_seq ?_
    refine W_block ?_
    have hin : (i : Int) < (xs.length : Int) - 1 - i := h2
    have hinck := inc64' i (by omega)
    obtain ⟨x, hx⟩ : ∃ x, xs[i]? = some x := ⟨_, List.getElem?_eq_getElem (by omega)⟩
    obtain ⟨y, hy⟩ : ∃ y, xs[xs.length - 1 - i]? = some y := ⟨_, List.getElem?_eq_getElem (by omega)⟩
    obtain ⟨hm1, hm2⟩ := revI_mid (xs := xs) (i := i) (by omega)
    obtain ⟨g, c, ex, ev1, hgc, hgm, hB, hre⟩ := hO.open (by omega)
    injection ev1 with ev1 ev2 ev3
    subst ev1; subst ev3
    have hrl := revI_len xs i
    have hcx : ((revI xs i).map Value.bool ++ ex)[i]? = some (.bool x) := by rw [List.getElem?_append_left (by rw [List.length_map, hrl]; omega), List.getElem?_map, hm1, hx]; rfl
    have hcy : ((revI xs i).map Value.bool ++ ex)[xs.length - 1 - i]? = some (.bool y) := by rw [List.getElem?_append_left (by rw [List.length_map, hrl]; omega), List.getElem?_map, hm2, hy]; rfl
    have hji : ((xs.length : Int) - 1 - i).toNat = xs.length - 1 - i := by omega
    refine W_gate 13 (fun w' => Keep All w1 w') (by kernel_rfl) (Keep.drawn w1) (fun hS => ?_)
    refine gt_mvt 0 rfl (by kernel_rfl) (by kernel_rfl) (by kernel_rfl) (by kernel_rfl) rfl hS ?_
    refine gt_mvt 1 rfl (by kernel_rfl) (by kernel_rfl) (by kernel_rfl) (by kernel_rfl) rfl hS ?_
    refine gt_mvt 4 rfl (by kernel_rfl) (by kernel_rfl) (by kernel_rfl) (by kernel_rfl) rfl hS ?_
    refine gt_mvt 5 rfl (by kernel_rfl) (by kernel_rfl) (by kernel_rfl) (by kernel_rfl) rfl hS ?_
    refine gt_run 6 (fun w' hS' => (r_idxS1 rfl rfl rfl rfl (by omega) (by omega))) rfl (by kernel_rfl) (by kernel_rfl) (by kernel_rfl) (by kernel_rfl) rfl hS ?_
    refine gt_run 7 (fun w' hS' => (r_load rfl rfl rfl ((by rw [hji, Nat.zero_add]; exact (hS'.blk' hB trivial).cell hcy)))) rfl (by kernel_rfl) (by kernel_rfl) (by kernel_rfl) (by kernel_rfl) rfl hS ?_
    refine gt_mvt 8 rfl (by kernel_rfl) (by kernel_rfl) (by kernel_rfl) (by kernel_rfl) rfl hS ?_
    refine gt_mvt 9 rfl (by kernel_rfl) (by kernel_rfl) (by kernel_rfl) (by kernel_rfl) rfl hS ?_
    refine gt_run 10 (fun w' hS' => (r_idxS1 rfl rfl rfl rfl (by omega) (by omega))) rfl (by kernel_rfl) (by kernel_rfl) (by kernel_rfl) (by kernel_rfl) rfl hS ?_
    refine gt_run 11 (fun w' hS' => (r_load rfl rfl rfl ((by rw [Int.toNat_natCast, Nat.zero_add]; exact (hS'.blk' hB trivial).cell hcx)))) rfl (by kernel_rfl) (by kernel_rfl) (by kernel_rfl) (by kernel_rfl) rfl hS ?_
    refine gt_run 12 (fun w' hS' => (r_idxS1 rfl rfl rfl rfl (by omega) (by omega))) rfl (by kernel_rfl) (by kernel_rfl) (by kernel_rfl) (by kernel_rfl) rfl hS ?_
    refine gp_mvt 2 rfl (by kernel_rfl) (by kernel_rfl) (by kernel_rfl) (by kernel_rfl) rfl hS ?_
    refine gp_mvt 3 rfl (by kernel_rfl) (by kernel_rfl) (by kernel_rfl) (by kernel_rfl) rfl hS ?_
    refine gt_past 13 (by kernel_rfl) (by kernel_rfl) (one_of rfl ?_)
    refine o_store (v := .bool y) rfl rfl rfl rfl ((Keep.drawn w1).blk' hB trivial) (by rw [List.length_append, List.length_map, hrl]; omega) rfl ?_; intro w9 hB9 hk9 hs9
    refine ops_nil ?_
    refine gt_past 14 (by kernel_rfl) (by kernel_rfl) (one_of rfl ?_)
    refine op_run (r_idxS1 rfl rfl rfl rfl (by omega) (by omega)) rfl ?_
    refine ops_nil ?_
    refine gt_past 15 (by kernel_rfl) (by kernel_rfl) (one_of rfl ?_)
    refine o_store (v := .bool x) rfl rfl rfl rfl hB9 (by rw [List.length_set, List.length_append, List.length_map, hrl]; omega) rfl ?_; intro w11 hB11 hk11 hs11
    have hB11' : Blk w11 g ((revI xs (i + 1)).map Value.bool ++ ex) 4 := by
      have h : Blk w11 g ((((revI xs i).map Value.bool ++ ex).set (0 + (i : Int).toNat) (.bool y)).set (0 + ((xs.length : Int) - 1 - i).toNat) (.bool x)) 4 := hB11
      rw [hji, Int.toNat_natCast, Nat.zero_add, Nat.zero_add] at h
      rw [revI_s hx hy, List.map_set, List.map_set, ← List.set_append_left _ _ (by rw [List.length_set, List.length_map, hrl]; omega), ← List.set_append_left _ _ (by rw [List.length_map, hrl]; omega)]
      exact h
    refine ops_nil ?_
    refine gt_done (by kernel_rfl) ?_
    refine W_region ?_
    refine o_mvt rfl ?_
    refine op_run (r_add rfl rfl) rfl ?_
    refine o_mvt rfl ?_
    refine op_run (r_sub rfl rfl) rfl ?_
    refine o_ast rfl ?_
    refine o_ast rfl ?_
    refine ops_nil ?_
    refine ⟨by (repeat (first | with_reducible exact offM_refl _ _ | refine offM_updc rfl ?_ | refine offM_upd rfl ?_ | refine offM_updo rfl ?_ | refine offM_updo_none ?_ | refine offM_head rfl rfl ?_)), ⟨i + 1, ?_, by omega, hre _ _ hB11' (by rw [List.length_map, List.length_map, revI_len, revI_len]), ?_⟩, ?_⟩
    · exact congr (congrArg (fun (a b : Int) => [Value.int .i64 a, Value.int .i64 b]) hinck) ((wrap_i64 (n := (xs.length : Int) - 1 - i - 1) (by omega) (by omega)).trans (by omega))
    · exact hk1.trans ((((Keep.drawn w1).all).trans (hk9.mono fun b _ h e => h (by rw [e]; rfl))).trans (hk11.mono fun b _ h e => h (by rw [e]; rfl)))
    · show xs.length - (IntKind.i64.wrap ((i : Int) + 1)).toNat < xs.length - (i : Int).toNat
      rw [hinck]; omega
  · refine W_exit ?_
    refine ret0 rfl ?_
    have hend : ¬ ((i : Int) < (xs.length : Int) - 1 - i) := h2
    rw [← revI_end (xs := xs) (i := i) hi (by omega)]
    exact ⟨hO, hk1⟩
end Go.Proofs.Ytnjepmdgbkhoaaa.B
