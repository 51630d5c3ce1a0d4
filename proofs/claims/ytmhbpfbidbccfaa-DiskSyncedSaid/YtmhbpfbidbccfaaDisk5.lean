/-
  A disk: Sync, Crash.
-/
import Derived.Test.YtmhbpfbidbccfaaDisk4
namespace Go.Proofs.Ytmhbpfbidbccfaa.B
open Go
set_option linter.unusedVariables false
set_option maxHeartbeats 2000000
set_option maxRecDepth 100000
attribute [local irreducible] W OpsW OpsQ retP
theorem landL_64 (L : List Sec) (T : List (Nat × Sec)) : ∀ i, i ≤ T.length → landL (fun _ => 64) L T i = seen L (T.take i)
  | 0, _ => by simp [landL, seen]
  | i + 1, h => by rw [landL_s (by omega), landL_64 L T i (by omega), mix_64, take_snoc (by omega), seen_snoc]
theorem dk_S1 (w : World) (i : Nat) (x : Nat × Sec) : Ret Try.prog 18 [.int .i64 i, .agg (wrR x).toArray].toArray w fun r w' => r = .int .i64 64 ∧ Keep All w w' := by
  refine enter (fn := Try.f18) (n := 5) Try.func18 rfl rfl (by simp) ?_
  refine W_seq ?_
  refine W_region ?_
  refine o_box (cs := wrR x) rfl rfl rfl ?_; intro w1 b1 e1 hB1 hk1 hs1
  refine o_asc rfl ?_
  refine ops_nil ?_
  refine W_seq ?_
  refine W_region ?_
  refine o_asc rfl ?_
  refine ops_nil ?_
  refine W_ret ?_
  refine ret1 (.int .i64 64) rfl ?_ ?_; rfl
  exact ⟨rfl, hk1⟩

theorem dk_Sync (w : World) (b : Nat) (A : Nat → Prop) (N : Nat) (L : List Sec) (T : List (Nat × Sec)) (f : Nat) (h : DkC w b A N L T f) (hA : ∀ k, A k → k < w.heap.size) (hTl : T.length < 1000000) :
    Ret Try.prog 8 [.pointer (some ⟨b, 0, none⟩)].toArray w fun _ w' => DkC w' b A N (if f = 1 then L else seen L T) (if f = 1 then T else []) (if f = 1 then f else f - 1) ∧ Keep (fun k => ¬ A k) w w' := by
  have hAb : A b := by obtain ⟨_, _, _, _, _, _, _, _, _, h, _⟩ := h; exact h
  refine enter (fn := Try.f8) (n := 6) Try.func8 rfl rfl (by simp) ?_
  refine W_seq ?_
  refine W_region ?_
  refine o_mvt rfl ?_
  refine op_call rfl rfl rfl (dk_burn w b A N L T f h) ?_; rintro v1 w1 ⟨rfl, hD1, hk1⟩
  have hk1' : Keep (fun k => ¬ A k) w w1 := hk1.mono fun k _ hk e => hk (e ▸ hAb)
  refine ops_nil ?_
  refine W_cond_p rfl (fun h2 => ?_) (fun h2 => ?_)
  · refine W_region ?_
    refine o_mvt rfl ?_
    rw [if_neg h2] at hD1
    refine op_call rfl rfl rfl (dk_land w1 b A N L T (f - 1) 18 #[] #[] (fun _ => 64) (fun _ => Nat.le_refl _) rfl hD1 (fun k hk => Nat.lt_of_lt_of_le (hA k hk) hk1.size) hTl (fun i hi w' _ => by have h := dk_S1 w' i T[i]; simpa using h)) ?_; rintro v3 w3 ⟨hD3, hk3⟩
    refine ops_nil ?_
    refine ret0 rfl ?_
    rw [landL_64 _ _ _ (Nat.le_refl _), List.take_length] at hD3
    exact ⟨by rw [if_neg h2, if_neg h2, if_neg h2]; exact hD3, hk1'.trans hk3⟩
  · refine W_skip ?_
    refine ret0 rfl ?_
    have h2 := Decidable.not_not.1 h2
    rw [if_pos h2] at hD1
    exact ⟨by rw [if_pos h2, if_pos h2, if_pos h2]; exact hD1, hk1'⟩
/-- What becomes of the i-th write in a crash. -/
def fate (ps : List UInt8) (i : Nat) : Nat :=
  let p := (ps.getD (i % ps.length) 0).toNat
  if p % 3 = 0 then 0 else if p % 3 = 1 then 64 else p % 64
theorem fate_le (ps : List UInt8) (i : Nat) : fate ps i ≤ 64 := by
  unfold fate; simp only; split
  · omega
  · split <;> omega

theorem dk_C1 (w : World) (i : Nat) (hi : i < 1000000) (x : Nat × Sec) (b3 : Nat) (v : Value) (ps : List UInt8) (hB : Blk w b3 [v] 23) (hv : By w v ps) (h0 : 0 < ps.length) :
    Ret Try.prog 20 [.int .i64 i, .agg (wrR x).toArray, .pointer (some ⟨b3, 0, none⟩)].toArray w fun r w' => r = .int .i64 (fate ps i) ∧ Keep All w w' := by
  have him : i % ps.length < ps.length := Nat.mod_lt _ h0
  obtain ⟨b9, off9, c9, rfl, hc9, hcm9, hcell⟩ := hv.at (by omega)
  have hcell := hcell (i % ps.length) (c8 ps[i % ps.length]) (get_c8 him)
  obtain ⟨p, hp⟩ : ∃ p, ps[i % ps.length] = p := ⟨_, rfl⟩
  rw [hp] at hcell
  have hfp : fate ps i = if p.toNat % 3 = 0 then 0 else if p.toNat % 3 = 1 then 64 else p.toNat % 64 := by
    unfold fate
    have : ps.getD (i % ps.length) 0 = p := by rw [← hp]; simp [him]
    simp only [this]
  have hp256 : p.toNat < 256 := p.toNat_lt
  refine enter (fn := Try.f20) (n := 21) Try.func20 rfl rfl (by simp) ?_
  refine W_seq ?_
  refine W_region ?_
  refine o_box (cs := wrR x) rfl rfl rfl ?_; intro w1 b1 e1 hB1 hk1 hs1
  refine o_asc rfl ?_
  refine ops_nil ?_
  refine W_seq ?_
  refine W_quiet (Keep All w1) (by kernel_rfl) (by kernel_rfl) (Keep.drawn _) ?_
  refine q_run (fun _ hk => r_load rfl rfl rfl (hk.cell ((hk1.blk' hB trivial).cell rfl) trivial)) rfl ?_
  refine q_mvt rfl ?_
  refine q_run (fun _ hk => r_load rfl rfl rfl (hk.cell ((hk1.blk' hB trivial).cell rfl) trivial)) rfl ?_
  refine q_run (fun _ _ => (r_len rfl rfl rfl)) rfl ?_
  refine q_run (fun _ _ => ((r_rem rfl rfl (by omega)).val (congrArg (Value.int .i64) (show (i : Int).tmod (ps.length : Int) = ((i % ps.length : Nat) : Int) from (Int.ofNat_tmod i ps.length).symm)))) rfl ?_
  refine q_run (fun _ _ => r_idxS1 rfl rfl rfl rfl (by omega) (by omega)) rfl ?_
  refine q_run (fun _ hk => r_load rfl rfl rfl (hk.cell (by rw [Int.toNat_natCast]; exact hk1.cell hcell trivial) trivial)) rfl ?_
  refine q_ast rfl ?_
  refine q_nil ?_; intro w8 hk8
  refine W_seq ?_
  refine W_region ?_
  refine o_mvt rfl ?_
  refine op_run ((r_conv rfl rfl rfl).val (congrArg (Value.int .i64) (show IntKind.i64.wrap (p.toNat : Int) = (p.toNat : Int) from wrap_i64 (by omega) (by omega)))) rfl ?_
  refine op_run ((r_rem rfl rfl (by decide)).val (congrArg (Value.int .i64) (show (p.toNat : Int).tmod 64 = ((p.toNat % 64 : Nat) : Int) from (Int.ofNat_tmod p.toNat 64).symm))) rfl ?_
  have h3 : p.toNat % 3 = 0 ∨ p.toNat % 3 = 1 ∨ p.toNat % 3 = 2 := by omega
  have hv3 : [Value.int .i64 0, .int .i64 64, .int .i64 ((p.toNat % 64 : Nat) : Int)][((p.toNat % 3 : Nat) : Int).toNat]? = some (.int .i64 (fate ps i : Nat)) := by
    rw [Int.toNat_natCast, hfp]
    rcases h3 with h | h | h <;> rw [h] <;> rfl
  refine op_run (r_buildA ([.int .i64 0, .int .i64 64, .int .i64 ((p.toNat % 64 : Nat) : Int)]) (_) ([(0, .int .i64 0), (1, .int .i64 64), (2, .int .i64 ((p.toNat % 64 : Nat) : Int))]) rfl rfl rfl rfl rfl (rfl)) rfl ?_
  refine o_mvt rfl ?_
  refine op_run ((r_rem rfl rfl (by decide)).val (congrArg (Value.int .u8) (show (p.toNat : Int).tmod 3 = ((p.toNat % 3 : Nat) : Int) from (Int.ofNat_tmod p.toNat 3).symm))) rfl ?_
  refine op_run (r_index1 rfl rfl rfl rfl rfl rfl (by omega) (by omega) (hv3)) rfl ?_
  refine o_ast rfl ?_
  refine ops_nil ?_
  refine W_ret ?_
  refine ret1 (.int .i64 (fate ps i : Nat)) rfl ?_ ?_; rfl
  exact ⟨rfl, hk1.trans hk8⟩

/-- What picks are, where none were given. -/
def picks (ps : List UInt8) : List UInt8 := if ps = [] then [0] else ps
theorem dk_Crash (w : World) (b : Nat) (A : Nat → Prop) (N : Nat) (L : List Sec) (T : List (Nat × Sec)) (f : Nat) (v : Value) (ps : List UInt8) (h : DkC w b A N L T f) (hA : ∀ k, A k → k < w.heap.size) (hTl : T.length < 1000000) (hv : By w v ps) (hvA : 0 < ps.length → InB (fun k => ¬ A k) v) :
    Ret Try.prog 10 [.pointer (some ⟨b, 0, none⟩), v].toArray w fun _ w' => DkC w' b A N (landL (fate (picks ps)) L T T.length) [] 0 ∧ Keep (fun k => ¬ A k) w w' := by
  obtain ⟨a, c0, rfl, hac, hacm⟩ := hv.form
  refine enter (fn := Try.f10) (n := 14) Try.func10 rfl rfl (by simp) ?_
  refine W_seq ?_
  refine W_region ?_
  refine o_box (cs := [.slice a ps.length c0]) rfl rfl rfl ?_; intro w1 b1 e1 hB1 hk1 hs1
  refine ops_nil ?_
  refine W_seq ?_
  refine W_region ?_
  refine o_mvt rfl ?_
  refine op_run (r_nilCheck rfl) rfl ?_
  refine op_run (r_fieldAddr rfl rfl rfl rfl rfl) rfl ?_
  have hD1 := h.keep hk1 (fun _ _ => trivial)
  obtain ⟨g, c, ex, vl, hB, hG, hT, hin, hgb, hAb, hAg, hNc, hcm, hL, hTn, hN1, hN2, hf⟩ := hD1
  refine o_store (v := (.int .i64 0)) rfl rfl rfl rfl hB (by exact Nat.le_refl _) rfl ?_; intro w2 hB2 hk2 hs2
  have hk12 : Keep (fun k => ¬ A k) w w2 := hk1.all.trans (hk2.mono fun k _ hk e => hk (e ▸ hAb))
  have hb1A : ¬ A b1 := fun h => by have := hA _ h; omega
  have hB2 := hk2.blk' hB1 (show b1 ≠ b from fun e => hb1A (e ▸ hAb))
  have hD2 : DkC w2 b A N L T 0 := ⟨g, c, ex, vl, by assumption, hk2.blk' hG hgb, hT.keep hk2 (fun k hk => (hin k hk).2.1), hin, hgb, hAb, hAg, hNc, hcm, hL, hTn, hN1, hN2, by omega⟩
  have hA2 : ∀ k, A k → k < w2.heap.size := fun k hk => Nat.lt_of_lt_of_le (hA k hk) hk12.size
  refine ops_nil ?_
  refine W_seq ?_
  refine W_seq ?_
  refine W_region ?_
  refine op_run (r_load rfl rfl rfl (hB2.cell rfl)) rfl ?_
  refine op_run (r_len rfl rfl rfl) rfl ?_
  refine op_run (r_eql rfl rfl) rfl ?_
  refine ops_nil ?_
  refine W_cond_p rfl (fun h4 => ?_) (fun h4 => ?_)
  · refine W_region ?_
    refine o_bs1 (v := .int .u8 0) rfl rfl rfl rfl rfl rfl ?_; intro w5 b5 e5 hB5 hk5 hs5
    refine o_store (v := (.slice (some ⟨b5, 0, none⟩) 1 1)) rfl rfl rfl rfl (hk5.blk' hB2 trivial) (by exact Nat.le_refl _) rfl ?_; intro w6 hB6 hk6 hs6
    have hps : ps = [] := List.eq_nil_of_length_eq_zero (by omega)
    have hb5 : ¬ A b5 := fun h => by have := hA2 _ h; omega
    have hk6' : Keep (fun k => ¬ A k) w w6 := (hk12.trans hk5.all).new hk6 (by omega)
    have hD6 := (hD2.keep hk5 (fun _ _ => trivial)).keep hk6 (fun k hk e => hb1A (e ▸ hk))
    have hB6' : Blk w6 b1 [.slice (some ⟨b5, 0, none⟩) 1 1] 23 := hB6
    have hB5' := hk6.blk' hB5 (show b5 ≠ b1 by have := hB2.lt; omega)
    have hv6 : By w6 (.slice (some ⟨b5, 0, none⟩) 1 1) [0] := hB5'.sl rfl (by unfold maxLen; omega) (fun j hj => by rw [Nat.zero_add]; rfl)
    refine ops_nil ?_
    refine W_region ?_
    refine o_mvt rfl ?_
    refine op_run (r_makeFunc) rfl ?_
    refine op_call rfl rfl rfl (dk_land w6 b A N L T 0 20 #[] #[.pointer (some ⟨b1, 0, none⟩)] (fate [0]) (fate_le _) rfl hD6 (fun k hk => Nat.lt_of_lt_of_le (hA k hk) hk6'.size) hTl (fun i hi w' hk => by have h := dk_C1 w' i (by omega) T[i] b1 _ [0] (hk.blk' hB6' hb1A) (hv6.keep hk (fun j hj => by cases hj; exact hb5)) (by decide); simpa using h)) ?_; rintro v7 w7 ⟨hD7, hk7⟩
    refine ops_nil ?_
    refine ret0 rfl ?_
    exact ⟨by rw [picks, if_pos hps]; exact hD7, hk6'.trans hk7⟩
  · refine W_skip ?_
    refine W_region ?_
    refine o_mvt rfl ?_
    refine op_run (r_makeFunc) rfl ?_
    refine op_call rfl rfl rfl (dk_land w2 b A N L T 0 20 #[] #[.pointer (some ⟨b1, 0, none⟩)] (fate ps) (fate_le _) rfl hD2 hA2 hTl (fun i hi w' hk => by have h := dk_C1 w' i (by omega) T[i] b1 _ ps (hk.blk' hB2 hb1A) ((hv.keep hk12 (hvA (by omega))).keep hk (hvA (by omega))) (by omega); simpa using h)) ?_; rintro v9 w9 ⟨hD9, hk9⟩
    refine ops_nil ?_
    refine ret0 rfl ?_
    exact ⟨by rw [picks, if_neg (fun e => h4 (by rw [e]; rfl))]; exact hD9, hk12.trans hk9⟩
end Go.Proofs.Ytmhbpfbidbccfaa.B
