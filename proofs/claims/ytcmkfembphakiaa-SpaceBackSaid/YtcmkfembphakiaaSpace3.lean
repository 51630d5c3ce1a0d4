/-
  space: Take, Twin, New.
-/
import Derived.Test.YtcmkfembphakiaaSpace2
namespace Go.Proofs.Ytcmkfembphakiaa.B
open Go
set_option linter.unusedVariables false
attribute [local irreducible] W OpsW OpsQ retP
/-- n sectors from q on are free. -/
def win (f : Nat → Bool) (q n : Nat) : Prop := ∀ i, q ≤ i → i < q + n → f i = false

theorem sp_Take (w : World) (b : Nat) (A : Nat → Prop) (sz : Nat) (f : Nat → Bool) (n : Int) (h : SpC w b A sz f) :
    Ret Try.prog 8 [.pointer (some ⟨b, 0, none⟩), .int .i64 n].toArray w fun r w' =>
      if n < 1 then r = .tuple #[.int .i64 0, .int .i64 1] ∧ w' = w
      else (∃ p : Nat, p + n.toNat ≤ sz ∧ win f p n.toNat ∧ (∀ q, q < p → ¬ win f q n.toNat) ∧ r = .tuple #[.int .i64 p, .int .i64 0] ∧ SpC w' b A sz (turnF f p n.toNat true) ∧ Keep (fun k => ¬ A k) w w') ∨
        ((∀ q, q + n.toNat ≤ sz → ¬ win f q n.toNat) ∧ r = .tuple #[.int .i64 0, .int .i64 4] ∧ w' = w) := by
  obtain ⟨g, c, ws, ex, hB, hrest⟩ := h
  have h : SpC w b A sz f := ⟨g, c, ws, ex, hB, hrest⟩
  have hs2 : sz ≤ 65536 := hrest.2.2.2.2.2.2.2.2.1
  refine enter (fn := Try.f8) (n := 34) Try.func8 rfl rfl (by simp) ?_
  refine W_seq ?_
  refine W_region ?_
  refine o_asc rfl ?_
  refine o_asc rfl ?_
  refine ops_nil ?_
  refine W_seq ?_
  refine W_seq ?_
  refine W_region ?_
  refine o_mvt rfl ?_
  refine op_run (r_lss rfl rfl) rfl ?_
  refine ops_nil ?_
  refine W_cond_p rfl (fun h1 => ?_) (fun h1 => ?_)
  · refine W_seq ?_
    refine W_region ?_
    refine o_asc rfl ?_
    refine o_asc rfl ?_
    refine ops_nil ?_
    refine W_ret ?_
    refine ret2 (.int .i64 0) (.int .i64 1) rfl rfl rfl ?_
    rw [if_pos h1]; exact ⟨rfl, rfl⟩
  · refine W_skip ?_
    refine W_seq ?_
    refine W_region ?_
    refine o_asc rfl ?_
    refine ops_nil ?_
    refine W_seq ?_
    refine W_seq ?_
    refine W_region ?_
    refine o_mvt rfl ?_
    refine op_run (r_nilCheck rfl) rfl ?_
    refine op_run (r_fieldAddr rfl rfl rfl rfl rfl) rfl ?_
    refine op_run (r_load rfl rfl rfl (hB.cell rfl)) rfl ?_
    refine o_mvc rfl ?_
    refine ops_nil ?_
    refine W_block ?_
    refine W_loop [6, 14] [4, 5, 6, 7, 14, 15, 16, 17, 18, 19, 20, 21, 22, 23, 24, 25, 26, 27, 28, 29, 30, 31, 32, 33] (fun vs w' => ∃ (fr k : Nat), vs = [.int .i64 fr, .int .i64 k] ∧ fr ≤ k ∧ k ≤ sz ∧ (∀ i, fr ≤ i → i < k → f i = false) ∧ (fr = 0 ∨ f (fr - 1) = true) ∧ (∀ q, q + n.toNat ≤ k → ¬ win f q n.toNat) ∧ w = w') (fun vs _ => match vs with | [_, .int _ k] => sz - k.toNat | _ => 0) ⟨0, 0, rfl, by omega, by omega, (fun i _ hi => by omega), .inl rfl, (fun q hq => by omega), rfl⟩ ?_
    rintro J vs w2 ⟨fr, k, rfl, hfk, hks, hfree, hfr, hno, rfl⟩ -
    have hinc := inc64' k (by omega)
    have hsub : IntKind.i64.wrap ((k : Int) - (fr : Int)) = ((k - fr : Nat) : Int) := by rw [wrap_i64 (by omega) (by omega)]; omega
    have hinc2 : IntKind.i64.wrap (((k - fr : Nat) : Int) + 1) = ((k - fr + 1 : Nat) : Int) := inc64' _ (by omega)
    refine W_seq ?_
    refine W_region ?_
    refine op_run (r_lss rfl rfl) rfl ?_
    refine ops_nil ?_
    refine W_seq ?_
    refine W_cond_p rfl (fun h5 => ?_) (fun h5 => ?_)
    · refine W_skip ?_
      refine W_seq ?_
      refine W_block ?_
      refine W_seq ?_
      refine W_region ?_
      refine o_mvt rfl ?_
      refine o_ast rfl ?_
      refine ops_nil ?_
      refine W_seq ?_
      refine W_seq ?_
      refine W_region ?_
      refine o_mvt rfl ?_
      refine o_mvt rfl ?_
      refine op_call rfl rfl rfl (sp_Taken w b A sz f k h) ?_; rintro v6 w6 ⟨rfl, rfl⟩
      refine ops_nil ?_
      refine W_cond rfl (fun h7 => ?_) (fun h7 => ?_)
      · refine W_seq ?_
        refine W_region ?_
        refine o_mvt rfl ?_
        refine op_run ((r_add rfl rfl).val (congrArg (Value.int .i64) hinc)) rfl ?_
        refine o_ast rfl ?_
        refine ops_nil ?_
        refine W_exit ?_
        refine W_region ?_
        refine op_run (r_add rfl rfl) rfl ?_
        refine o_mvt rfl ?_
        refine ops_nil ?_
        have hk : k < sz := by omega
        have hfk1 : f k = true := by simpa using h7
        refine ⟨by (repeat (first | with_reducible exact offM_refl _ _ | refine offM_updc rfl ?_ | refine offM_upd rfl ?_ | refine offM_updo rfl ?_ | refine offM_updo_none ?_ | refine offM_head rfl rfl ?_)), ⟨k + 1, k + 1, ?_, by omega, by omega, (fun i h1 h2 => by omega), .inr hfk1, ?_, rfl⟩, ?_⟩
        · rw [← hinc]; rfl
        · intro q hq hw
          by_cases e : q + n.toNat ≤ k
          · exact hno q e hw
          · have := hw k (by omega) (by omega)
            rw [hfk1] at this; cases this
        · show sz - (IntKind.i64.wrap ((k : Int) + 1)).toNat < sz - (k : Int).toNat
          rw [hinc]; omega
      · refine W_skip ?_
        refine W_seq ?_
        refine W_region ?_
        refine o_mvt rfl ?_
        refine o_mvt rfl ?_
        refine op_run ((r_sub rfl rfl).val (congrArg (Value.int .i64) hsub)) rfl ?_
        refine op_run ((r_add rfl rfl).val (congrArg (Value.int .i64) hinc2)) rfl ?_
        refine o_mvt rfl ?_
        refine op_run (r_eql rfl rfl) rfl ?_
        refine ops_nil ?_
        have hk : k < sz := by omega
        have hfk0 : f k = false := by simpa using h7
        refine W_cond_p rfl (fun h9 => ?_) (fun h9 => ?_)
        · refine W_seq ?_
          refine W_region ?_
          refine o_mvt rfl ?_
          refine o_mvt rfl ?_
          refine o_mvt rfl ?_
          refine o_mvt rfl ?_
          refine op_call rfl rfl rfl (sp_Mark _ b A sz f fr n h) ?_; rintro v10 w10 h10
          rw [if_neg (by omega)] at h10
          obtain ⟨rfl, h10, hk10⟩ := h10
          refine o_ast rfl ?_
          refine o_ast rfl ?_
          refine ops_nil ?_
          refine W_ret ?_
          refine ret2 (.int .i64 fr) (.int .i64 0) rfl rfl rfl ?_
          rw [if_neg h1]
          refine .inl ⟨fr, by omega, ?_, ?_, rfl, h10, hk10⟩
          · intro i h2 h3
            by_cases e : i = k
            · subst e; exact hfk0
            · exact hfree i h2 (by omega)
          · intro q hq
            exact hno q (by omega)
        · refine W_skip ?_
          refine W_region ?_
          refine op_run (r_add rfl rfl) rfl ?_
          refine o_mvt rfl ?_
          refine ops_nil ?_
          refine ⟨by (repeat (first | with_reducible exact offM_refl _ _ | refine offM_updc rfl ?_ | refine offM_upd rfl ?_ | refine offM_updo rfl ?_ | refine offM_updo_none ?_ | refine offM_head rfl rfl ?_)), ⟨fr, k + 1, ?_, by omega, by omega, ?_, hfr, ?_, rfl⟩, ?_⟩
          · rw [← hinc]; rfl
          · intro i h2 h3
            by_cases e : i = k
            · subst e; exact hfk0
            · exact hfree i h2 (by omega)
          · intro q hq hw
            by_cases e : q + n.toNat ≤ k
            · exact hno q e hw
            · rcases hfr with h0 | h0
              · subst h0
                exact hno 0 (by
                  rcases Nat.lt_or_ge k n.toNat with h4 | h4
                  · omega
                  · omega) (fun i _ hi => hfree i (by omega) (by omega))
              · rcases Nat.lt_or_ge q fr with h4 | h4
                · have := hw (fr - 1) (by omega) (by
                    rcases Nat.lt_or_ge (fr - 1) (q + n.toNat) with h5 | h5
                    · exact h5
                    · omega)
                  rw [h0] at this; cases this
                · exact hno fr (by omega) (fun i h5 h6 => hfree i h5 (by omega))
          · show sz - (IntKind.i64.wrap ((k : Int) + 1)).toNat < sz - (k : Int).toNat
            rw [hinc]; omega
    · refine W_exit ?_
      refine W_seq ?_
      refine W_region ?_
      refine o_asc rfl ?_
      refine o_asc rfl ?_
      refine ops_nil ?_
      refine W_ret ?_
      refine ret2 (.int .i64 0) (.int .i64 4) rfl rfl rfl ?_
      rw [if_neg h1]
      have e : k = sz := by omega
      subst e
      exact .inr ⟨hno, rfl, rfl⟩
end Go.Proofs.Ytcmkfembphakiaa.B
