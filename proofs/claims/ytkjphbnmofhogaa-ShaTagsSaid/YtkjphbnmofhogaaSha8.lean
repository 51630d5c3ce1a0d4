/-
  sha: the document's example.
-/
import Derived.Test.YtkjphbnmofhogaaSha7
import Derived.Test.YtkjphbnmofhogaaStr
namespace Go.Proofs.Ytkjphbnmofhogaa.B
open Go
set_option linter.unusedVariables false
set_option maxHeartbeats 2000000
set_option maxRecDepth 100000
attribute [local irreducible] W OpsW OpsQ retP
/-- A block of bytes, read whole. -/
theorem By.of_cells {w : World} {b c : Nat} {bs : List UInt8} (h : ∀ (j : Nat) (v : Value), (bs.map c8)[j]? = some v → w.cell? ⟨b, j, none⟩ = some v) (hc : bs.length ≤ c) (hm : c ≤ maxLen) : By w (.slice (some ⟨b, 0, none⟩) bs.length c) bs :=
  ⟨_, c, rfl, hc, hm, by simp, (fun e => by cases e), fun x hx i u hu => by injection hx with hx; subst hx; exact ⟨rfl, (by rw [Nat.zero_add]; exact h i u hu)⟩⟩

theorem take_s {α : Type} {l : List α} {k : Nat} {x : α} (h : l[k]? = some x) : l.take (k + 1) = l.take k ++ [x] := by
  obtain ⟨hk, rfl⟩ := List.getElem?_eq_some_iff.1 h
  rw [List.take_succ_eq_append_getElem hk]

/-- A row among rows: one cell, a slice of bytes. -/
def RowB (w : World) (cs : List Value) (p : List UInt8) : Prop := ∃ v, cs = [v] ∧ By w v p
theorem flat_le {n : Nat} : ∀ {l : List (List UInt8)}, (∀ p ∈ l, p.length ≤ n) → l.flatten.length ≤ n * l.length
  | [], _ => by simp
  | p :: l, h => by
    have h1 := flat_le (l := l) fun q hq => h q (List.mem_cons_of_mem _ hq)
    have h2 := h p (List.mem_cons_self ..)
    rw [List.flatten_cons, List.length_append, List.length_cons, Nat.mul_succ]; omega
theorem okC_dig (d : List UInt8) (h : d.length = 32) : okC Try.prog 2 26 (d.map c8) := okC_bytes rfl rfl rfl d h


theorem speaks02 (w : World) : Ret Try.prog 6 #[] w fun r w' => r = .bool true ∧ Keep All w w' := by
  refine enter (fn := Try.f6) (n := 13) Try.func6 rfl rfl (by simp) ?_
  refine W_seq ?_
  refine W_region ?_
  refine o_asc rfl ?_
  refine ops_nil ?_
  refine W_seq ?_
  refine W_region ?_
  refine o_bsL (([97, 98, 99].map c8)) rfl rfl rfl rfl rfl rfl rfl rfl rfl ?_; intro w1 b1 e1 hB1 hk1 hs1
  refine o_convB rfl (hB1) rfl rfl rfl ?_; intro w2 hc2 hk2 hs2
  have hby2 : By w2 (.slice (some ⟨b1, 0, none⟩) 3 3) [97, 98, 99] := By.of_cells (bs := [97, 98, 99]) hc2 (Nat.le_refl _) (by unfold maxLen; decide)
  refine op_call rfl rfl rfl (sh_Sum w2 _ [97, 98, 99] hby2 (by decide)) ?_; rintro v3 w3 ⟨rfl, hk3⟩
  have h0 := abc_0
  have h1 := abc_1
  have hl := sumF_len [97, 98, 99]
  generalize sumF [97, 98, 99] = d at h0 h1 hl
  refine o_alloc rfl rfl rfl ?_; intro w4 b4 e4 hB4 hk4 hs4
  refine o_storeA (cs := d.map c8) rfl rfl (all_c8 d) (by rw [List.length_map, hl]; rfl) hB4 (by rw [List.length_map, hl]; exact Nat.le_refl _) rfl ?_; intro w5 hB5 hk5 hs5
  rw [splice_all (by rw [List.length_map, hl]; rfl)] at hB5
  refine ops_nil ?_
  refine W_seq ?_
  refine W_region ?_
  refine op_run (r_idxA1 rfl rfl rfl rfl (by omega) (by omega)) rfl ?_
  refine op_run (r_load rfl rfl rfl (hB5.cell (o := 0) (v := c8 0xba) (by rw [List.getElem?_map, h0]; rfl))) rfl ?_
  refine op_run (r_eql rfl rfl) rfl ?_
  refine o_mvt rfl ?_
  refine g_split rfl rfl rfl (fun g8 => ?_) (fun g8 => ?_)
  · refine op_run (r_idxA1 rfl rfl rfl rfl (by omega) (by omega)) (g_yes rfl rfl rfl g8) ?_
    refine op_run (r_load rfl rfl rfl (hB5.cell (o := 1) (v := c8 0x78) (by rw [List.getElem?_map, h1]; rfl))) (g_yes rfl rfl rfl g8) ?_
    refine op_run (r_eql rfl rfl) (g_yes rfl rfl rfl g8) ?_
    refine o_pkTt rfl g8 rfl ?_
    refine o_ast rfl ?_
    refine ops_nil ?_
    refine W_ret ?_
    refine ret1 (.bool true) rfl ?_ ?_; rfl
    exact ⟨rfl, (((hk1.new hk2 (by omega)).trans hk3).trans hk4).new hk5 (by have := hk1.size; have := hk3.size; omega)⟩
  · refine op_skip (g_no rfl rfl rfl g8) ?_
    refine op_skip (g_no rfl rfl rfl g8) ?_
    refine op_skip (g_no rfl rfl rfl g8) ?_
    refine o_pkFc rfl g8 rfl ?_
    refine o_ast rfl ?_
    refine ops_nil ?_
    refine W_ret ?_
    exact absurd g8 (by decide)
end Go.Proofs.Ytkjphbnmofhogaa.B
