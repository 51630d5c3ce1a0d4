/-
  SpaceApart's walk.
-/
import Derived.Test.YtcmkfembphakiaaSpace4
namespace Go.Proofs.Ytcmkfembphakiaa.B
open Go
set_option linter.unusedVariables false
attribute [local irreducible] W OpsW OpsQ retP
theorem Keep.outA {A : Nat → Prop} {w w1 w2 : World} {B : Nat → Prop} (h : Keep A w w1) (h2 : Keep (fun k => ¬ B k) w1 w2) (hB : ∀ k, B k → w.heap.size ≤ k) : Keep A w w2 :=
  h.old (h2.mono fun k _ hk hb => hk (hB k hb))

/-- Take where one knows the least place. -/
theorem sp_Take_at {w : World} {b : Nat} {A : Nat → Prop} {sz : Nat} {f : Nat → Bool} {n : Int} {p : Nat} (h : SpC w b A sz f) (hn : 1 ≤ n) (hp : p + n.toNat ≤ sz) (hw : win f p n.toNat) (hq : ∀ q, q < p → ¬ win f q n.toNat) :
    Ret Try.prog 8 [.pointer (some ⟨b, 0, none⟩), .int .i64 n].toArray w fun r w' => r = .tuple #[.int .i64 p, .int .i64 0] ∧ SpC w' b A sz (turnF f p n.toNat true) ∧ Keep (fun k => ¬ A k) w w' := by
  refine Calls.mono (sp_Take w b A sz f n h) fun e w' ⟨u, he, hu⟩ => ⟨u, he, ?_⟩
  dsimp only at hu
  rw [if_neg (by omega)] at hu
  rcases hu with ⟨p', h1, h2, h3, h4, h5, h6⟩ | ⟨h1, _⟩
  · have e : p' = p := by
      rcases Nat.lt_trichotomy p' p with h7 | h7 | h7
      · exact absurd h2 (hq p' h7)
      · exact h7
      · exact absurd hw (h3 p h7)
    subst e
    exact ⟨h4, h5, h6⟩
  · exact absurd hw (h1 p hp)
theorem sp_Take_none {w : World} {b : Nat} {A : Nat → Prop} {sz : Nat} {f : Nat → Bool} {n : Int} (h : SpC w b A sz f) (hn : 1 ≤ n) (hq : ∀ q, q + n.toNat ≤ sz → ¬ win f q n.toNat) :
    Ret Try.prog 8 [.pointer (some ⟨b, 0, none⟩), .int .i64 n].toArray w fun r w' => r = .tuple #[.int .i64 0, .int .i64 4] ∧ w' = w := by
  refine Calls.mono (sp_Take w b A sz f n h) fun e w' ⟨u, he, hu⟩ => ⟨u, he, ?_⟩
  dsimp only at hu
  rw [if_neg (by omega)] at hu
  rcases hu with ⟨p', h1, h2, _⟩ | ⟨_, h2⟩
  · exact absurd h2 (hq p' h1)
  · exact h2
theorem sp_New_ok {w : World} {sz fs : Int} (h0 : 1 ≤ sz) (h1 : sz ≤ 65536) (h2 : 0 ≤ fs) (h3 : fs ≤ sz) :
    Ret Try.prog 7 [.int .i64 sz, .int .i64 fs].toArray w fun r w' =>
      ∃ b, r = .tuple #[.pointer (some ⟨b, 0, none⟩), .int .i64 0] ∧ w.heap.size ≤ b ∧ SpC w' b (fun k => w.heap.size ≤ k) sz.toNat (fun i => decide (i < fs.toNat)) ∧ Keep All w w' := by
  refine Calls.mono (sp_New w sz fs (by omega) (by omega)) fun e w' ⟨u, he, hu⟩ => ⟨u, he, ?_⟩
  dsimp only at hu
  rw [if_neg (by omega)] at hu
  exact hu

theorem Keep.outAt {w w1 w2 w3 : World} {A B : Nat → Prop} (h : Keep A w w2) (h2 : Keep (fun k => ¬ (w1.heap.size ≤ k)) w2 w3) (h1 : Keep B w w1) : Keep A w w3 :=
  h.outA h2 fun k hk => Nat.le_trans h1.size hk

theorem speaks06 (w : World) : Ret Try.prog 6 [].toArray w fun r w' => r = .bool true ∧ Keep All w w' := by
  refine enter (fn := Try.f6) (n := 31) Try.func6 rfl rfl (by simp) ?_
  refine W_seq ?_
  refine W_region ?_
  refine o_asc rfl ?_
  refine ops_nil ?_
  refine W_seq ?_
  refine W_region ?_
  refine op_call rfl rfl rfl (sp_New_ok (sz := 5) (fs := 2) (by omega) (by omega) (by omega) (by omega)) ?_; rintro v1 w1 ⟨b, rfl, hb, hS1, hk1⟩
  refine o_mvt rfl ?_
  refine op_run (r_extract rfl rfl) rfl ?_
  refine op_run (r_extract rfl rfl) rfl ?_
  refine o_ast rfl ?_
  refine o_ast rfl ?_
  refine ops_nil ?_
  refine W_seq ?_
  refine W_cut [14] [9, 10, 11, 12, 13, 14] (fun vs w2 => vs = [.bool false] ∧ w2 = w1) ?_ ?_
  · refine W_region ?_
    refine o_mvt rfl ?_
    refine op_run (r_neq rfl rfl) rfl ?_
    refine o_mvt rfl ?_
    refine g_split rfl rfl rfl (fun g3 => ?_) (fun g3 => ?_)
    · refine o_mvt (g_yes rfl rfl rfl g3) ?_
      refine op_run (r_isNilP rfl rfl) (g_yes rfl rfl rfl g3) ?_
      refine o_pkFt rfl g3 rfl ?_
      refine ops_nil ?_
      exact ⟨by (repeat (first | with_reducible exact offM_refl _ _ | refine offM_updc rfl ?_ | refine offM_upd rfl ?_ | refine offM_updo rfl ?_ | refine offM_updo_none ?_ | refine offM_head rfl rfl ?_)), rfl, rfl⟩
    · refine op_skip (g_no rfl rfl rfl g3) ?_
      refine op_skip (g_no rfl rfl rfl g3) ?_
      refine o_pkTc rfl g3 rfl ?_
      refine ops_nil ?_
      exact absurd (of_decide_eq_true g3) (by simp)
  · rintro J6 vs w6 ⟨rfl, rfl⟩ -
    refine W_no rfl (rfl) ?_
    refine W_skip ?_
    refine W_seq ?_
    refine W_region ?_
    refine o_mvt rfl ?_
    refine op_call rfl rfl rfl (sp_Take_at (n := 2) (p := 2) hS1 (by omega) (by decide) (fun i hi _ => decide_eq_false (by show ¬ i < 2; omega)) (fun q hq h => by have h1 := h q (Nat.le_refl _) (by show q < q + 2; omega); have h2 := of_decide_eq_false h1; exact h2 hq)) ?_; rintro v9 w9 ⟨rfl, hS9, hk9⟩
    refine o_mvt rfl ?_
    refine op_run (r_extract rfl rfl) rfl ?_
    refine op_run (r_extract rfl rfl) rfl ?_
    refine o_ast rfl ?_
    refine o_ast rfl ?_
    refine ops_nil ?_
    refine W_seq ?_
    refine W_region ?_
    refine o_mvt rfl ?_
    refine op_run (r_eql rfl rfl) rfl ?_
    refine o_mvt rfl ?_
    refine g_split rfl rfl rfl (fun g10 => ?_) (fun g10 => ?_)
    · refine o_mvt (g_yes rfl rfl rfl g10) ?_
      refine op_run (r_eql rfl rfl) (g_yes rfl rfl rfl g10) ?_
      refine o_pkTt rfl g10 rfl ?_
      refine o_mvt rfl ?_
      refine g_split rfl rfl rfl (fun g11 => ?_) (fun g11 => ?_)
      · refine o_mvt (g_yes rfl rfl rfl g11) ?_
        refine op_call rfl rfl (g_yes rfl rfl rfl g11) (sp_Free _ b _ _ _ hS9) ?_; rintro v12 w12 ⟨rfl, rfl⟩
        refine op_run (r_eql rfl rfl) (g_yes rfl rfl rfl g11) ?_
        refine o_pkTt rfl g11 rfl ?_
        refine o_ast rfl ?_
        refine ops_nil ?_
        refine W_ret ?_
        refine ret1 (.bool true) rfl ?_ ?_; rfl
        exact ⟨rfl, hk1.outA hk9 (fun _ h => h)⟩
      · refine op_skip (g_no rfl rfl rfl g11) ?_
        refine op_skip (g_no rfl rfl rfl g11) ?_
        refine op_skip (g_no rfl rfl rfl g11) ?_
        refine o_pkFc rfl g11 rfl ?_
        refine o_ast rfl ?_
        refine ops_nil ?_
        refine W_ret ?_
        exact absurd (of_decide_eq_false g11) (by simp)
    · refine op_skip (g_no rfl rfl rfl g10) ?_
      refine op_skip (g_no rfl rfl rfl g10) ?_
      refine o_pkFc rfl g10 rfl ?_
      refine o_mvt rfl ?_
      refine op_skip (g_no rfl rfl rfl rfl) ?_
      refine op_skip (g_no rfl rfl rfl rfl) ?_
      refine op_skip (g_no rfl rfl rfl rfl) ?_
      refine o_pkFc rfl rfl rfl ?_
      refine o_ast rfl ?_
      refine ops_nil ?_
      refine W_ret ?_
      exact absurd (of_decide_eq_false g10) (by simp)

abbrev Ints (w : World) (v : Value) (xs : List Int) : Prop := SlR w v 1 (fun cs x => cs = [.int .i64 x]) xs
theorem Ints.old {w w' : World} {A : Nat → Prop} {v : Value} {xs : List Int} (h : Ints w v xs) (hk : Keep A w w') (hA : ∀ k, k < w.heap.size → A k) : Ints w' v xs := by
  obtain ⟨a, c, h0, h1, h2, h3, h4⟩ := h
  refine ⟨a, c, h0, h1, h2, h3, fun x hx i y hy => ?_⟩
  obtain ⟨cs, h5, h6, h7⟩ := h4 x hx i y hy
  exact ⟨cs, h5, fun j u hu => hk.cell (h6 j u hu) (hA _ (World.block_lt_of_cell? w _ (h6 j u hu))), h7⟩
theorem and_15 (a : Int) : ∃ m : Nat, m ≤ 15 ∧ bitw .and .i64 a 15 = (m : Int) := by
  have h : (BitVec.ofInt IntKind.i64.bits a &&& BitVec.ofInt IntKind.i64.bits 15).toNat ≤ 15 := by
    rw [BitVec.toNat_and]
    exact Nat.and_le_right
  refine ⟨_, h, ?_⟩
  show IntKind.i64.wrap ((BitVec.ofInt IntKind.i64.bits a &&& BitVec.ofInt IntKind.i64.bits 15).toNat : Int) = _
  rw [wrap_i64 (by omega) (by omega)]
theorem turn_next (nx n : Nat) : turnF (fun i => decide (i < nx)) nx n true = (fun i => decide (i < nx + n)) := by
  funext i
  unfold turnF
  by_cases h : nx ≤ i ∧ i < nx + n
  · rw [if_pos h]; symm; exact decide_eq_true h.2
  · rw [if_neg h, decide_eq_decide]; omega
theorem sp_Take_next {w : World} {b : Nat} {A : Nat → Prop} {sz nx m : Nat} (h : SpC w b A sz (fun i => decide (i < nx))) :
    Ret Try.prog 8 [.pointer (some ⟨b, 0, none⟩), .int .i64 ((m + 1 : Nat) : Int)].toArray w fun r w' =>
      ∃ p e : Int, r = .tuple #[.int .i64 p, .int .i64 e] ∧ ((nx + (m + 1) ≤ sz ∧ p = nx ∧ e = 0) ∨ (¬ nx + (m + 1) ≤ sz ∧ p = 0 ∧ e = 4)) ∧ SpC w' b A sz (fun i => decide (i < if nx + (m + 1) ≤ sz then nx + (m + 1) else nx)) ∧ Keep (fun k => ¬ A k) w w' := by
  by_cases hf : nx + (m + 1) ≤ sz
  · refine Calls.mono (sp_Take_at (p := nx) (n := ((m + 1 : Nat) : Int)) h (by omega) (by rw [Int.toNat_natCast]; exact hf) (fun i hi _ => decide_eq_false (by omega)) (fun q hq hw => ?_)) fun e w' ⟨u, he, h1, h2, h3⟩ => ⟨u, he, nx, 0, h1, .inl ⟨hf, rfl, rfl⟩, ?_, h3⟩
    · exact of_decide_eq_false (hw q (Nat.le_refl _) (by rw [Int.toNat_natCast]; omega)) hq
    · rw [Int.toNat_natCast, turn_next] at h2
      rw [if_pos hf]; exact h2
  · refine Calls.mono (sp_Take_none (n := ((m + 1 : Nat) : Int)) h (by omega) (fun q hq hw => ?_)) fun e w' ⟨u, he, h1, h2⟩ => ⟨u, he, 0, 4, h1, .inr ⟨hf, rfl, rfl⟩, ?_, ?_⟩
    · have := of_decide_eq_false (hw q (Nat.le_refl _) (by rw [Int.toNat_natCast]; omega))
      rw [Int.toNat_natCast] at hq; omega
    · rw [if_neg hf]; subst h2; exact h
    · subst h2; exact Keep.refl _
theorem neq_self {a b : Bool} (h : a = b) : (a != b) = false := by subst h; simp
theorem cnt_next (nx : Nat) : ∀ sz, nx ≤ sz → cnt (fun i => decide (i < nx)) sz = nx := by
  intro sz h
  obtain ⟨d, rfl⟩ : ∃ d, sz = nx + d := ⟨sz - nx, by omega⟩
  rw [cnt_add, cnt_zero d (fun i _ => decide_eq_false (by omega))]
  have : ∀ n, n ≤ nx → cnt (fun i => decide (i < nx)) n = n := by
    intro n
    induction n with
    | zero => intro _; rfl
    | succ n ih => intro h; rw [cnt_s, ih (by omega), if_pos (decide_eq_true (by omega))]
  exact this nx (Nat.le_refl _)

theorem walk_SpaceApart (w : World) (S0 : Int) (v : Value) (xs : List Int) (hx : Ints w v xs) :
    Ret Try.prog 3 [.int .i64 S0, v].toArray w fun r w' => r = .bool true ∧ Keep All w w' := by
  have hxl := hx.len_le
  obtain ⟨a, c, rfl, _, _⟩ := hx.form
  refine enter (fn := Try.f3) (n := 88) Try.func3 rfl rfl (by simp) ?_
  refine W_seq ?_
  refine W_region ?_
  refine o_asc rfl ?_
  refine ops_nil ?_
  refine W_seq ?_
  refine W_seq ?_
  refine W_region ?_
  refine op_call rfl rfl rfl (speaks06 w) ?_; rintro v1 w1 ⟨rfl, hk1⟩
  refine op_run (r_not rfl) rfl ?_
  refine ops_nil ?_
  refine W_no rfl (rfl) ?_
  refine W_skip ?_
  refine W_seq ?_
  refine W_cut [24] [14, 15, 16, 17, 18, 19, 20, 21, 22, 23, 24] (fun vs w4 => vs = [.bool (decide (S0 < 1 ∨ 300 < S0 ∨ 60 < xs.length))] ∧ w4 = w1) ?_ ?_
  · refine W_region ?_
    refine o_mvt rfl ?_
    refine op_run (r_lss rfl rfl) rfl ?_
    refine o_mvt rfl ?_
    refine g_split rfl rfl rfl (fun g5 => ?_) (fun g5 => ?_)
    · refine o_mvt (g_yes rfl rfl rfl g5) ?_
      refine op_run (r_gtr rfl rfl) (g_yes rfl rfl rfl g5) ?_
      refine o_pkFt rfl g5 rfl ?_
      refine o_mvt rfl ?_
      refine g_split rfl rfl rfl (fun g6 => ?_) (fun g6 => ?_)
      · refine o_mvt (g_yes rfl rfl rfl g6) ?_
        refine op_run (r_len rfl rfl rfl) (g_yes rfl rfl rfl g6) ?_
        refine op_run (r_gtr rfl rfl) (g_yes rfl rfl rfl g6) ?_
        refine o_pkFt rfl g6 rfl ?_
        refine ops_nil ?_
        exact ⟨by (repeat (first | with_reducible exact offM_refl _ _ | refine offM_updc rfl ?_ | refine offM_upd rfl ?_ | refine offM_updo rfl ?_ | refine offM_updo_none ?_ | refine offM_head rfl rfl ?_)), congrArg (fun b => [Value.bool b]) (by have := of_decide_eq_false g5; have := of_decide_eq_false g6; rw [decide_eq_decide]; constructor <;> intro hh <;> omega), rfl⟩
      · refine op_skip (g_no rfl rfl rfl g6) ?_
        refine op_skip (g_no rfl rfl rfl g6) ?_
        refine op_skip (g_no rfl rfl rfl g6) ?_
        refine o_pkTc rfl g6 rfl ?_
        refine ops_nil ?_
        exact ⟨by (repeat (first | with_reducible exact offM_refl _ _ | refine offM_updc rfl ?_ | refine offM_upd rfl ?_ | refine offM_updo rfl ?_ | refine offM_updo_none ?_ | refine offM_head rfl rfl ?_)), congrArg (fun b => [Value.bool b]) (by have := of_decide_eq_true g6; symm; apply decide_eq_true; omega), rfl⟩
    · refine op_skip (g_no rfl rfl rfl g5) ?_
      refine op_skip (g_no rfl rfl rfl g5) ?_
      refine o_pkTc rfl g5 rfl ?_
      refine o_mvt rfl ?_
      refine op_skip (g_no rfl rfl rfl rfl) ?_
      refine op_skip (g_no rfl rfl rfl rfl) ?_
      refine op_skip (g_no rfl rfl rfl rfl) ?_
      refine o_pkTc rfl rfl rfl ?_
      refine ops_nil ?_
      exact ⟨by (repeat (first | with_reducible exact offM_refl _ _ | refine offM_updc rfl ?_ | refine offM_upd rfl ?_ | refine offM_updo rfl ?_ | refine offM_updo_none ?_ | refine offM_head rfl rfl ?_)), congrArg (fun b => [Value.bool b]) (by have := of_decide_eq_true g5; symm; apply decide_eq_true; omega), rfl⟩
  · rintro J10 vs w10 ⟨rfl, rfl⟩ -
    refine W_cond_p rfl (fun h11 => ?_) (fun h11 => ?_)
    · refine W_seq ?_
      refine W_region ?_
      refine o_asc rfl ?_
      refine ops_nil ?_
      refine W_ret ?_
      refine ret1 (.bool true) rfl ?_ ?_; rfl
      exact ⟨rfl, hk1⟩
    · refine W_skip ?_
      refine W_seq ?_
      refine W_region ?_
      refine o_mvt rfl ?_
      refine op_call rfl rfl rfl (sp_New_ok (sz := S0) (fs := 0) (by omega) (by omega) (by omega) (by omega)) ?_; rintro v13 w13 ⟨b, rfl, hb, hS13, hk13⟩
      refine o_mvt rfl ?_
      refine op_run (r_extract rfl rfl) rfl ?_
      refine op_run (r_extract rfl rfl) rfl ?_
      refine o_ast rfl ?_
      refine o_ast rfl ?_
      refine ops_nil ?_
      refine W_seq ?_
      refine W_cut [35] [30, 31, 32, 33, 34, 35] (fun vs w14 => vs = [.bool false] ∧ w14 = w13) ?_ ?_
      · refine W_region ?_
        refine o_mvt rfl ?_
        refine op_run (r_neq rfl rfl) rfl ?_
        refine o_mvt rfl ?_
        refine g_split rfl rfl rfl (fun g15 => ?_) (fun g15 => ?_)
        · refine o_mvt (g_yes rfl rfl rfl g15) ?_
          refine op_run (r_isNilP rfl rfl) (g_yes rfl rfl rfl g15) ?_
          refine o_pkFt rfl g15 rfl ?_
          refine ops_nil ?_
          exact ⟨by (repeat (first | with_reducible exact offM_refl _ _ | refine offM_updc rfl ?_ | refine offM_upd rfl ?_ | refine offM_updo rfl ?_ | refine offM_updo_none ?_ | refine offM_head rfl rfl ?_)), rfl, rfl⟩
        · refine op_skip (g_no rfl rfl rfl g15) ?_
          refine op_skip (g_no rfl rfl rfl g15) ?_
          refine o_pkTc rfl g15 rfl ?_
          refine ops_nil ?_
          exact absurd (of_decide_eq_true g15) (by simp)
      · rintro J18 vs w18 ⟨rfl, rfl⟩ -
        refine W_no rfl (rfl) ?_
        refine W_skip ?_
        refine W_seq ?_
        refine W_region ?_
        refine o_asc rfl ?_
        refine ops_nil ?_
        refine W_seq ?_
        refine W_seq ?_
        refine W_region ?_
        refine o_mvt rfl ?_
        refine op_run (r_len rfl rfl rfl) rfl ?_
        refine o_mvc rfl ?_
        refine ops_nil ?_
        refine W_block ?_
        refine W_loop [7, 38] [4, 7, 9, 10, 11, 38, 39, 40, 41, 42, 43, 44, 45, 46, 47, 48, 49, 50, 51, 52, 53, 54, 55, 56, 57, 58, 59, 60, 61, 62, 63, 64, 65, 66, 67, 68, 69, 70, 71, 72, 73, 74, 75, 76, 77, 78, 79, 80, 81, 82, 83, 84, 85, 86, 87] (fun vs w' => ∃ nx k : Nat, vs = [.int .i64 nx, .int .i64 k] ∧ nx ≤ S0.toNat ∧ k ≤ xs.length ∧ SpC w' b (fun k => w10.heap.size ≤ k) S0.toNat (fun i => decide (i < nx)) ∧ Keep All w w') (fun vs _ => match vs with | [_, .int _ k] => xs.length - k.toNat | _ => 0) ⟨0, 0, rfl, by omega, by omega, hS13, hk1.trans hk13⟩ ?_
        rintro J vs w2 ⟨nx, k, rfl, hnx, hk, hS2, hkw⟩ -
        refine W_seq ?_
        refine W_region ?_
        refine op_run (r_lss rfl rfl) rfl ?_
        refine ops_nil ?_
        refine W_seq ?_
        refine W_cond_p rfl (fun h22 => ?_) (fun h22 => ?_)
        · refine W_skip ?_
          refine W_seq ?_
          refine W_block ?_
          refine W_seq ?_
          refine W_region ?_
          have hkx : k < xs.length := by omega
          have hinc := inc64' k (by omega)
          obtain ⟨b0, off0, c0, e0, _, hcell⟩ := SlR.at hx (by omega) (by omega)
          cases e0
          obtain ⟨cs, hcl, hcs, rfl⟩ := hcell k xs[k] (by simp [hkx])
          have hcs0 := hkw.cell (hcs 0 _ rfl) trivial
          rw [Nat.mul_one, Nat.add_zero] at hcs0
          obtain ⟨m, hm15, hm⟩ := and_15 xs[k]
          have hm1 : IntKind.i64.wrap ((m : Int) + 1) = ((m + 1 : Nat) : Int) := inc64' m (by omega)
          refine op_run (r_idxS1 rfl rfl rfl rfl (by omega) (by omega)) rfl ?_
          refine op_run (r_load rfl rfl rfl hcs0) rfl ?_
          refine o_ast rfl ?_
          refine ops_nil ?_
          refine W_seq ?_
          refine W_region ?_
          refine o_mvt rfl ?_
          refine op_run ((r_and rfl rfl).val (congrArg (Value.int .i64) hm)) rfl ?_
          refine op_run ((r_add rfl rfl).val (congrArg (Value.int .i64) hm1)) rfl ?_
          refine o_ast rfl ?_
          refine ops_nil ?_
          refine W_seq ?_
          refine W_region ?_
          refine o_mvt rfl ?_
          refine o_mvt rfl ?_
          refine op_call rfl rfl rfl (sp_Take_next (m := m) hS2) ?_; rintro v25 w25 ⟨p, e, rfl, hcase, hS25, hk25⟩
          have hkw25 : Keep All w w25 := hkw.outAt hk25 hk1
          have hc58 : (decide (e = 0) != decide (((m + 1 : Nat) : Int) ≤ S0 - (nx : Int))) = false := by
            apply neq_self
            rw [decide_eq_decide]
            omega
          refine o_mvt rfl ?_
          refine op_run (r_extract rfl rfl) rfl ?_
          refine op_run (r_extract rfl rfl) rfl ?_
          refine o_ast rfl ?_
          refine o_ast rfl ?_
          refine ops_nil ?_
          refine W_seq ?_
          refine W_cut [75] [51, 52, 53, 54, 55, 56, 57, 58, 59, 60, 61, 62, 63, 64, 65, 66, 67, 68, 69, 70, 71, 72, 73, 74, 75] (fun vs w26 => vs = [.bool false] ∧ w26 = w25) ?_ ?_
          · refine W_region ?_
            refine o_mvt rfl ?_
            refine op_run (r_eql rfl rfl) rfl ?_
            refine o_mvt rfl ?_
            refine o_mvt rfl ?_
            refine o_mvt rfl ?_
            refine op_run ((r_sub rfl rfl).val (congrArg (Value.int .i64) (wrap_i64 (by omega) (by omega)))) rfl ?_
            refine op_run (r_leq rfl rfl) rfl ?_
            refine op_run (r_neqB rfl rfl rfl) rfl ?_
            refine o_mvt rfl ?_
            refine g_split rfl rfl rfl (fun g27 => ?_) (fun g27 => ?_)
            · refine o_mvt (g_yes rfl rfl rfl g27) ?_
              refine op_run (r_eql rfl rfl) (g_yes rfl rfl rfl g27) ?_
              refine o_mvt (g_yes rfl rfl rfl g27) ?_
              refine g_split rfl rfl rfl (fun g28 => ?_) (fun g28 => ?_)
              · refine o_mvt (g_yes rfl rfl rfl g28) ?_
                refine o_mvt (g_yes rfl rfl rfl g28) ?_
                refine op_run (r_neq rfl rfl) (g_yes rfl rfl rfl g28) ?_
                refine o_pkTt rfl g28 (g_yes rfl rfl rfl g27) ?_
                refine o_pkFt rfl g27 rfl ?_
                refine o_mvt rfl ?_
                refine g_split rfl rfl rfl (fun g29 => ?_) (fun g29 => ?_)
                · refine o_mvt (g_yes rfl rfl rfl g29) ?_
                  refine op_run (r_neq rfl rfl) (g_yes rfl rfl rfl g29) ?_
                  refine o_mvt (g_yes rfl rfl rfl g29) ?_
                  refine g_split rfl rfl rfl (fun g30 => ?_) (fun g30 => ?_)
                  · refine o_mvt (g_yes rfl rfl rfl g30) ?_
                    refine op_run (r_neq rfl rfl) (g_yes rfl rfl rfl g30) ?_
                    refine o_pkTt rfl g30 (g_yes rfl rfl rfl g29) ?_
                    refine o_pkFt rfl g29 rfl ?_
                    refine ops_nil ?_
                    exact absurd (of_decide_eq_true g30) (by have := of_decide_eq_true g28; omega)
                  · refine op_skip (g_no rfl rfl rfl g30) ?_
                    refine op_skip (g_no rfl rfl rfl g30) ?_
                    refine o_pkFc rfl g30 (g_yes rfl rfl rfl g29) ?_
                    refine o_pkFt rfl g29 rfl ?_
                    refine ops_nil ?_
                    exact ⟨by (repeat (first | with_reducible exact offM_refl _ _ | refine offM_updc rfl ?_ | refine offM_upd rfl ?_ | refine offM_updo rfl ?_ | refine offM_updo_none ?_ | refine offM_head rfl rfl ?_)), rfl, rfl⟩
                · refine op_skip (g_no rfl rfl rfl g29) ?_
                  refine op_skip (g_no rfl rfl rfl g29) ?_
                  refine op_skip (g_no rfl rfl rfl g29) ?_
                  refine op_skip (g_und rfl rfl rfl) ?_
                  refine op_skip (g_und rfl rfl rfl) ?_
                  refine op_skip (g_no rfl rfl rfl g29) ?_
                  refine o_pkTc rfl g29 rfl ?_
                  refine ops_nil ?_
                  exact absurd (of_decide_eq_true g29) (by have := of_decide_eq_true g28; omega)
              · refine op_skip (g_no rfl rfl rfl g28) ?_
                refine op_skip (g_no rfl rfl rfl g28) ?_
                refine op_skip (g_no rfl rfl rfl g28) ?_
                refine o_pkFc rfl g28 (g_yes rfl rfl rfl g27) ?_
                refine o_pkFt rfl g27 rfl ?_
                refine o_mvt rfl ?_
                refine o_mvt (g_yes rfl rfl rfl rfl) ?_
                refine op_run (r_neq rfl rfl) (g_yes rfl rfl rfl rfl) ?_
                refine o_mvt (g_yes rfl rfl rfl rfl) ?_
                refine g_split rfl rfl rfl (fun g34 => ?_) (fun g34 => ?_)
                · refine o_mvt (g_yes rfl rfl rfl g34) ?_
                  refine op_run (r_neq rfl rfl) (g_yes rfl rfl rfl g34) ?_
                  refine o_pkTt rfl g34 (g_yes rfl rfl rfl rfl) ?_
                  refine o_pkFt rfl rfl rfl ?_
                  refine ops_nil ?_
                  exact ⟨by (repeat (first | with_reducible exact offM_refl _ _ | refine offM_updc rfl ?_ | refine offM_upd rfl ?_ | refine offM_updo rfl ?_ | refine offM_updo_none ?_ | refine offM_head rfl rfl ?_)), congrArg (fun b => [Value.bool b]) (decide_eq_false (by have := of_decide_eq_true g34; omega)), rfl⟩
                · refine op_skip (g_no rfl rfl rfl g34) ?_
                  refine op_skip (g_no rfl rfl rfl g34) ?_
                  refine o_pkFc rfl g34 (g_yes rfl rfl rfl rfl) ?_
                  refine o_pkFt rfl rfl rfl ?_
                  refine ops_nil ?_
                  exact absurd (of_decide_eq_false g34) (by have := of_decide_eq_false g28; omega)
            · refine op_skip (g_no rfl rfl rfl g27) ?_
              refine op_skip (g_no rfl rfl rfl g27) ?_
              refine op_skip (g_no rfl rfl rfl g27) ?_
              refine op_skip (g_und rfl rfl rfl) ?_
              refine op_skip (g_und rfl rfl rfl) ?_
              refine op_skip (g_und rfl rfl rfl) ?_
              refine op_skip (g_no rfl rfl rfl g27) ?_
              refine o_pkTc rfl g27 rfl ?_
              refine o_mvt rfl ?_
              refine op_skip (g_no rfl rfl rfl rfl) ?_
              refine op_skip (g_no rfl rfl rfl rfl) ?_
              refine op_skip (g_no rfl rfl rfl rfl) ?_
              refine op_skip (g_und rfl rfl rfl) ?_
              refine op_skip (g_und rfl rfl rfl) ?_
              refine op_skip (g_no rfl rfl rfl rfl) ?_
              refine o_pkTc rfl rfl rfl ?_
              refine ops_nil ?_
              exact absurd (hc58.symm.trans g27) (by simp)
          · rintro J38 vs w38 ⟨rfl, rfl⟩ -
            refine W_no rfl (rfl) ?_
            refine W_skip ?_
            refine W_seq ?_
            refine W_seq ?_
            refine W_region ?_
            refine o_mvt rfl ?_
            refine op_run (r_eql rfl rfl) rfl ?_
            refine ops_nil ?_
            refine W_cond_p rfl (fun h41 => ?_) (fun h41 => ?_)
            · refine W_region ?_
              refine o_mvt rfl ?_
              refine o_mvt rfl ?_
              refine op_run ((r_add rfl rfl).val (congrArg (Value.int .i64) (wrap_i64 (by omega) (by omega)))) rfl ?_
              refine o_ast rfl ?_
              refine ops_nil ?_
              refine W_seq ?_
              refine W_region ?_
              refine o_mvt rfl ?_
              refine op_call rfl rfl rfl (sp_Free _ b _ _ _ hS25) ?_; rintro v42 w42 ⟨rfl, rfl⟩
              refine o_mvt rfl ?_
              refine o_mvt rfl ?_
              refine op_run ((r_sub rfl rfl).val (congrArg (Value.int .i64) (wrap_i64 (by omega) (by omega)))) rfl ?_
              refine op_run (r_neq rfl rfl) rfl ?_
              refine ops_nil ?_
              have hfit : nx + (m + 1) ≤ S0.toNat := by omega
              rw [if_pos hfit] at hS25
              have hc43 : ((S0.toNat : Int) - (cnt (fun i => decide (i < if nx + (m + 1) ≤ S0.toNat then nx + (m + 1) else nx)) S0.toNat : Int)) = S0 - ((nx : Int) + ((m + 1 : Nat) : Int)) := by
                rw [if_pos hfit, cnt_next _ _ hfit]; omega
              refine W_no rfl ((decide_eq_false (fun h => h hc43))) ?_
              refine W_skip ?_
              refine W_region ?_
              refine op_run (r_add rfl rfl) rfl ?_
              refine o_mvt rfl ?_
              refine ops_nil ?_
              refine ⟨by (repeat (first | with_reducible exact offM_refl _ _ | refine offM_updc rfl ?_ | refine offM_upd rfl ?_ | refine offM_updo rfl ?_ | refine offM_updo_none ?_ | refine offM_head rfl rfl ?_)), ⟨nx + (m + 1), k + 1, ?_, hfit, by omega, hS25, hkw25⟩, ?_⟩
              · rw [← hinc]; rfl
              · show xs.length - (IntKind.i64.wrap ((k : Int) + 1)).toNat < xs.length - (k : Int).toNat
                rw [hinc]; omega
            · refine W_skip ?_
              refine W_seq ?_
              refine W_region ?_
              refine o_mvt rfl ?_
              refine op_call rfl rfl rfl (sp_Free _ b _ _ _ hS25) ?_; rintro v46 w46 ⟨rfl, rfl⟩
              refine o_mvt rfl ?_
              refine o_mvt rfl ?_
              refine op_run ((r_sub rfl rfl).val (congrArg (Value.int .i64) (wrap_i64 (by omega) (by omega)))) rfl ?_
              refine op_run (r_neq rfl rfl) rfl ?_
              refine ops_nil ?_
              have hfit : ¬ nx + (m + 1) ≤ S0.toNat := by omega
              rw [if_neg hfit] at hS25
              have hc47 : ((S0.toNat : Int) - (cnt (fun i => decide (i < if nx + (m + 1) ≤ S0.toNat then nx + (m + 1) else nx)) S0.toNat : Int)) = S0 - (nx : Int) := by
                rw [if_neg hfit, cnt_next _ _ hnx]; omega
              refine W_no rfl ((decide_eq_false (fun h => h hc47))) ?_
              refine W_skip ?_
              refine W_region ?_
              refine op_run (r_add rfl rfl) rfl ?_
              refine o_mvt rfl ?_
              refine ops_nil ?_
              refine ⟨by (repeat (first | with_reducible exact offM_refl _ _ | refine offM_updc rfl ?_ | refine offM_upd rfl ?_ | refine offM_updo rfl ?_ | refine offM_updo_none ?_ | refine offM_head rfl rfl ?_)), ⟨nx, k + 1, ?_, hnx, by omega, hS25, hkw25⟩, ?_⟩
              · rw [← hinc]; rfl
              · show xs.length - (IntKind.i64.wrap ((k : Int) + 1)).toNat < xs.length - (k : Int).toNat
                rw [hinc]; omega
        · refine W_exit ?_
          refine W_seq ?_
          refine W_region ?_
          refine o_asc rfl ?_
          refine ops_nil ?_
          refine W_ret ?_
          refine ret1 (.bool true) rfl ?_ ?_; rfl
          exact ⟨rfl, hkw⟩
end Go.Proofs.Ytcmkfembphakiaa.B
