/-
  A disk: what lasts, what was written later, the fuse; its small functions.
-/
import Derived.Test.YtcbbodjcgjbfaaaGrid
import Derived.Test.YtcbbodjcgjbfaaaRange
namespace Go.Proofs.Ytcbbodjcgjbfaaa.B
open Go
set_option linter.unusedVariables false
set_option maxHeartbeats 2000000
set_option maxRecDepth 100000
attribute [local irreducible] W OpsW OpsQ retP
/-- What stands in a sector. -/
abbrev Sec := { l : List UInt8 // l.length = 64 }
def Sec.zero : Sec := ⟨List.replicate 64 0, by simp⟩
def secR (s : Sec) : List Value := s.val.map c8
theorem secR_len (s : Sec) : (secR s).length = 64 := by rw [secR, List.length_map]; exact s.2
theorem secR_one (s : Sec) : (secR s).all one = true := all_c8 s.val
def wrR (x : Nat × Sec) : List Value := .int .i64 x.1 :: secR x.2
theorem wrR_len (x : Nat × Sec) : (wrR x).length = 65 := by rw [wrR, List.length_cons, secR_len]
theorem wrR_one (x : Nat × Sec) : (wrR x).all one = true := by rw [wrR, List.all_cons, secR_one]; rfl
/-- A disk in memory: N sectors L that last, writes T that came later, the fuse f. -/
def DkC (w : World) (b : Nat) (A : Nat → Prop) (N : Nat) (L : List Sec) (T : List (Nat × Sec)) (f : Nat) : Prop :=
  ∃ (g c : Nat) (ex : List Value) (vl : Value), Blk w b [.slice (some ⟨g, 0, none⟩) N c, vl, .int .i64 f] 50 ∧ Blk w g (rows secR L ++ ex) 28 ∧ Own w 53 65 vl T.length (rows wrR T) ∧
    InB (fun k => A k ∧ k ≠ b ∧ k ≠ g) vl ∧ g ≠ b ∧ A b ∧ A g ∧ N ≤ c ∧ c ≤ maxLen ∧ L.length = N ∧ (∀ x ∈ T, x.1 < N) ∧ 1 ≤ N ∧ N ≤ 65536 ∧ f ≤ 9223372036854775807
theorem DkC.keep {w w' : World} {b : Nat} {A C : Nat → Prop} {N : Nat} {L : List Sec} {T : List (Nat × Sec)} {f : Nat} (h : DkC w b A N L T f) (hk : Keep C w w') (hA : ∀ k, A k → C k) : DkC w' b A N L T f := by
  obtain ⟨g, c, ex, vl, hB, hG, hT, hin, hgb, hAb, hAg, hrest⟩ := h
  exact ⟨g, c, ex, vl, hk.blk' hB (hA _ hAb), hk.blk' hG (hA _ hAg), hT.keep hk (fun k hk' => hA _ (hin k hk').1), hin, hgb, hAb, hAg, hrest⟩
theorem DkC.shrink {w : World} {b : Nat} {A : Nat → Prop} {N : Nat} {L : List Sec} {T : List (Nat × Sec)} {f : Nat} (h : DkC w b A N L T f) : ∃ A' : Nat → Prop, DkC w b A' N L T f ∧ ∀ k, A' k → A k ∧ k < w.heap.size := by
  obtain ⟨g, c, ex, vl, hB, hG, hT, hin, hgb, hAb, hAg, hrest⟩ := h
  refine ⟨fun k => A k ∧ k < w.heap.size, ⟨g, c, ex, vl, hB, hG, hT, fun k hk => ⟨⟨(hin k hk).1, hT.lt k hk⟩, (hin k hk).2⟩, hgb, ⟨hAb, hB.lt⟩, ⟨hAg, hG.lt⟩, hrest⟩, fun k hk => hk⟩
theorem DkC.mono {w : World} {b : Nat} {A A' : Nat → Prop} {N : Nat} {L : List Sec} {T : List (Nat × Sec)} {f : Nat} (h : DkC w b A N L T f) (hA : ∀ k, A k → A' k) : DkC w b A' N L T f := by
  obtain ⟨g, c, ex, vl, hB, hG, hT, hin, hgb, hAb, hAg, hrest⟩ := h
  exact ⟨g, c, ex, vl, hB, hG, hT, fun k hk => ⟨hA _ (hin k hk).1, (hin k hk).2⟩, hgb, hA _ hAb, hA _ hAg, hrest⟩

theorem dk_Len (w : World) (b : Nat) (A : Nat → Prop) (N : Nat) (L : List Sec) (T : List (Nat × Sec)) (f : Nat) (h : DkC w b A N L T f) :
    Ret Try.prog 22 [.pointer (some ⟨b, 0, none⟩)].toArray w fun r w' => r = .int .i64 N ∧ w' = w := by
  obtain ⟨g, c, ex, vl, hB, hG, hT, hin, hgb, hAb, hAg, hNc, hcm, hL, hTn, hN1, hN2, hf⟩ := h
  refine enter (fn := Try.f22) (n := 8) Try.func22 rfl rfl (by simp) ?_
  refine W_seq ?_
  refine W_region ?_
  refine o_asc rfl ?_
  refine ops_nil ?_
  refine W_seq ?_
  refine W_region ?_
  refine o_mvt rfl ?_
  refine op_run (r_nilCheck rfl) rfl ?_
  refine op_run (r_fieldAddr rfl rfl rfl rfl rfl) rfl ?_
  refine op_run (r_load rfl rfl rfl (hB.cell rfl)) rfl ?_
  refine op_run (r_len rfl rfl rfl) rfl ?_
  refine o_ast rfl ?_
  refine ops_nil ?_
  refine W_ret ?_
  refine ret1 (.int .i64 N) rfl ?_ ?_; rfl
  exact ⟨rfl, rfl⟩

theorem dk_there (w : World) (b : Nat) (A : Nat → Prop) (N : Nat) (L : List Sec) (T : List (Nat × Sec)) (f : Nat) (at_ : Int) (h : DkC w b A N L T f) :
    Ret Try.prog 15 [.pointer (some ⟨b, 0, none⟩), .int .i64 at_].toArray w fun r w' => r = .int .i64 (if 0 ≤ at_ ∧ at_ < N then 0 else 2) ∧ w' = w := by
  refine enter (fn := Try.f15) (n := 13) Try.func15 rfl rfl (by simp) ?_
  refine W_seq ?_
  refine W_region ?_
  refine o_asc rfl ?_
  refine ops_nil ?_
  refine W_seq ?_
  refine W_cut [12] [5, 6, 7, 8, 9, 10, 11, 12] (fun vs w1 => vs = [.bool (decide (¬ (0 ≤ at_ ∧ at_ < N)))] ∧ w1 = w) ?_ ?_
  · refine W_region ?_
    refine o_mvt rfl ?_
    refine op_run (r_lss rfl rfl) rfl ?_
    refine o_mvt rfl ?_
    refine g_split rfl rfl rfl (fun g2 => ?_) (fun g2 => ?_)
    · refine o_mvt (g_yes rfl rfl rfl g2) ?_
      refine o_mvt (g_yes rfl rfl rfl g2) ?_
      refine op_call rfl rfl (g_yes rfl rfl rfl g2) (dk_Len w b A N L T f h) ?_; rintro v3 w3 ⟨rfl, rfl⟩
      refine op_run (r_geq rfl rfl) (g_yes rfl rfl rfl g2) ?_
      refine o_pkFt rfl g2 rfl ?_
      refine ops_nil ?_
      exact ⟨by (repeat (first | with_reducible exact offM_refl _ _ | refine offM_updc rfl ?_ | refine offM_upd rfl ?_ | refine offM_updo rfl ?_ | refine offM_updo_none ?_ | refine offM_head rfl rfl ?_)), congrArg (fun b => [Value.bool b]) (by have := of_decide_eq_false g2; rw [decide_eq_decide]; omega), rfl⟩
    · refine op_skip (g_no rfl rfl rfl g2) ?_
      refine op_skip (g_no rfl rfl rfl g2) ?_
      refine op_skip (g_no rfl rfl rfl g2) ?_
      refine op_skip (g_no rfl rfl rfl g2) ?_
      refine o_pkTc rfl g2 rfl ?_
      refine ops_nil ?_
      exact ⟨by (repeat (first | with_reducible exact offM_refl _ _ | refine offM_updc rfl ?_ | refine offM_upd rfl ?_ | refine offM_updo rfl ?_ | refine offM_updo_none ?_ | refine offM_head rfl rfl ?_)), congrArg (fun b => [Value.bool b]) (by have := of_decide_eq_true g2; symm; apply decide_eq_true; omega), rfl⟩
  · rintro J6 vs w6 ⟨rfl, rfl⟩ -
    refine W_cond_p rfl (fun h7 => ?_) (fun h7 => ?_)
    · refine W_seq ?_
      refine W_region ?_
      refine o_asc rfl ?_
      refine ops_nil ?_
      refine W_ret ?_
      refine ret1 (.int .i64 2) rfl ?_ ?_; rfl
      exact ⟨by rw [if_neg h7], rfl⟩
    · refine W_skip ?_
      refine W_seq ?_
      refine W_region ?_
      refine o_asc rfl ?_
      refine ops_nil ?_
      refine W_ret ?_
      refine ret1 (.int .i64 0) rfl ?_ ?_; rfl
      exact ⟨by rw [if_pos (Decidable.not_not.1 h7)], rfl⟩

theorem dk_Dead (w : World) (b : Nat) (A : Nat → Prop) (N : Nat) (L : List Sec) (T : List (Nat × Sec)) (f : Nat) (h : DkC w b A N L T f) :
    Ret Try.prog 23 [.pointer (some ⟨b, 0, none⟩)].toArray w fun r w' => r = .bool (decide (f = 1)) ∧ w' = w := by
  obtain ⟨g, c, ex, vl, hB, hG, hT, hin, hgb, hAb, hAg, hNc, hcm, hL, hTn, hN1, hN2, hf⟩ := h
  refine enter (fn := Try.f23) (n := 8) Try.func23 rfl rfl (by simp) ?_
  refine W_seq ?_
  refine W_region ?_
  refine o_asc rfl ?_
  refine ops_nil ?_
  refine W_seq ?_
  refine W_region ?_
  refine o_mvt rfl ?_
  refine op_run (r_nilCheck rfl) rfl ?_
  refine op_run (r_fieldAddr rfl rfl rfl rfl rfl) rfl ?_
  refine op_run (r_load rfl rfl rfl (hB.cell rfl)) rfl ?_
  refine op_run (r_eql rfl rfl) rfl ?_
  refine o_ast rfl ?_
  refine ops_nil ?_
  refine W_ret ?_
  refine ret1 (.bool (decide ((f : Int) = 1))) rfl ?_ ?_; rfl
  exact ⟨congrArg Value.bool (by rw [decide_eq_decide]; omega), rfl⟩

theorem dk_burn (w : World) (b : Nat) (A : Nat → Prop) (N : Nat) (L : List Sec) (T : List (Nat × Sec)) (f : Nat) (h : DkC w b A N L T f) :
    Ret Try.prog 16 [.pointer (some ⟨b, 0, none⟩)].toArray w fun r w' => r = .bool (decide (f ≠ 1)) ∧ DkC w' b A N L T (if f = 1 then f else f - 1) ∧ Keep (· ≠ b) w w' := by
  have h' := h
  obtain ⟨g, c, ex, vl, hB, hG, hT, hin, hgb, hAb, hAg, hNc, hcm, hL, hTn, hN1, hN2, hf⟩ := h'
  refine enter (fn := Try.f16) (n := 14) Try.func16 rfl rfl (by simp) ?_
  refine W_seq ?_
  refine W_region ?_
  refine o_asc rfl ?_
  refine ops_nil ?_
  refine W_seq ?_
  refine W_seq ?_
  refine W_region ?_
  refine o_mvt rfl ?_
  refine op_call rfl rfl rfl (dk_Dead w b A N L T f h) ?_; rintro v1 w1 ⟨rfl, rfl⟩
  refine ops_nil ?_
  refine W_cond_p rfl (fun h2 => ?_) (fun h2 => ?_)
  · refine W_seq ?_
    refine W_region ?_
    refine o_asc rfl ?_
    refine ops_nil ?_
    refine W_ret ?_
    refine ret1 (.bool false) rfl ?_ ?_; rfl
    exact ⟨congrArg Value.bool (by rw [h2]; rfl), by rw [if_pos h2]; exact h, Keep.refl _⟩
  · refine W_skip ?_
    refine W_seq ?_
    refine W_region ?_
    refine o_mvt rfl ?_
    refine o_mvt rfl ?_
    refine op_run (r_nilCheck rfl) rfl ?_
    refine op_run (r_fieldAddr rfl rfl rfl rfl rfl) rfl ?_
    refine op_run (r_load rfl rfl rfl (hB.cell rfl)) rfl ?_
    refine op_run ((r_sub rfl rfl).val (congrArg (Value.int .i64) (show IntKind.i64.wrap ((f : Int) - 1) = (f : Int) - 1 from wrap_i64 (by omega) (by omega)))) rfl ?_
    refine op_run ((r_max rfl rfl).val (congrArg (Value.int .i64) (show (if (0 : Int) > (f : Int) - 1 then (0 : Int) else (f : Int) - 1) = ((f - 1 : Nat) : Int) by split <;> omega))) rfl ?_
    refine op_run (r_nilCheck rfl) rfl ?_
    refine op_run (r_fieldAddr rfl rfl rfl rfl rfl) rfl ?_
    refine o_store (v := (.int .i64 ((f - 1 : Nat) : Int))) rfl rfl rfl rfl hB (by exact Nat.le_refl _) rfl ?_; intro w5 hB5 hk5 hs5
    refine ops_nil ?_
    refine W_seq ?_
    refine W_region ?_
    refine o_asc rfl ?_
    refine ops_nil ?_
    refine W_ret ?_
    refine ret1 (.bool true) rfl ?_ ?_; rfl
    rw [if_neg h2]
    refine ⟨congrArg Value.bool (decide_eq_true h2).symm, ⟨g, c, ex, vl, hB5, hk5.blk' hG hgb, hT.keep hk5 (fun k hk => (hin k hk).2.1), hin, hgb, hAb, hAg, hNc, hcm, hL, hTn, hN1, hN2, by omega⟩, hk5⟩

end Go.Proofs.Ytcbbodjcgjbfaaa.B
