/-
  Texts merged (mtpl.py): PackN PackIn PackNum PackDec.
-/
import Derived.Test.YtkmciohghhffnaaMLib
import Derived.Test.YtkmciohghhffnaaMBase
/-! pack.Number walks to the bytes of a number. -/
namespace Go.Proofs.Ytkmciohghhffnaa.B
open Go
set_option linter.unusedVariables false
set_option maxHeartbeats 2000000
set_option maxRecDepth 100000
attribute [local irreducible] W OpsW OpsQ retP
def encN (v : Nat) : List UInt8 := if v < 128 then [v.toUInt8] else (v % 128 + 128).toUInt8 :: encN (v / 128)
termination_by v
decreasing_by omega
theorem or128 : ∀ z : Fin 256, z.val ||| 128 = z.val % 128 + 128 := by decide +kernel
theorem c8_more (y : Nat) : Value.int .u8 (bitw .or .u8 (IntKind.u8.wrap y) 128) = c8 (y % 128 + 128).toUInt8 := by
  unfold c8
  rw [wrap_u8, show ((y : Int) % 256) = ((y % 256 : Nat) : Int) by omega, show (128 : Int) = ((128 : Nat) : Int) from rfl, bitw_or rfl _ _ (by simp [IntKind.bits]; omega) (by decide)]
  have h := or128 ⟨y % 256, by omega⟩
  simp only at h
  rw [h]; simp; omega
theorem c8_last (y : Nat) : Value.int .u8 (IntKind.u8.wrap y) = c8 y.toUInt8 := by
  unfold c8; simp [wrap_u8]
theorem encN_more {v : Nat} (h : 128 ≤ v) : encN v = (v % 128 + 128).toUInt8 :: encN (v / 128) := by rw [encN, if_neg (by omega)]
theorem encN_last {v : Nat} (h : v < 128) : encN v = [v.toUInt8] := by rw [encN, if_pos h]

theorem encN_len (k : Nat) : ∀ v, v < 128 ^ (k + 1) → (encN v).length ≤ k + 1 := by
  induction k with
  | zero => intro v hv; rw [encN_last (by simpa using hv)]; simp
  | succ k ih =>
    intro v hv
    by_cases h : v < 128
    · rw [encN_last h]; simp
    · rw [encN_more (by omega)]
      have := ih (v / 128) (by rw [Nat.pow_succ] at hv; exact Nat.div_lt_of_lt_mul (by rw [Nat.mul_comm]; exact hv))
      simp; omega
theorem encN_len10 {v : Nat} (h : v < 2 ^ 64) : (encN v).length ≤ 10 := encN_len 9 v (Nat.lt_trans h (by decide))
theorem encN_pos (v : Nat) : 0 < (encN v).length := by
  rw [encN]; split <;> simp
theorem shr7 (y : Nat) : (y : Int).fdiv (2 ^ (min (7 : Int).toNat IntKind.u64.bits)) = ((y / 128 : Nat) : Int) := fdiv_nat y 7 64

theorem pack_Number (w : World) (v : Value) (xs : List UInt8) (x : Nat) (hx : x < 2 ^ 64) (hown : OwnB w 5 v xs) (hlen : xs.length + 10 ≤ 2 ^ 40) :
    Ret Try.prog 47 [v, .int .u64 x].toArray w fun r w' => OwnB w' 5 r (xs ++ encN x) ∧ Keep (fun b => some b ≠ v.ownBlock) w w' ∧ InB (fun b => v.ownBlock = some b ∨ w.heap.size ≤ b) r := by
  refine enter (fn := Try.f47) (n := 20) Try.func47 rfl rfl (by simp) ?_
  refine W_seq ?_
  refine W_region ?_
  refine o_asc rfl ?_
  refine ops_nil ?_
  refine W_seq ?_
  refine W_block ?_
  refine W_loop [0, 1] [0, 1, 5, 6, 7, 8, 9, 10, 11, 12, 13, 14] (fun vs w1 => ∃ (u : Value) (ys : List UInt8) (y : Nat), vs = [u, .int .u64 y] ∧ y < 2 ^ 64 ∧ xs ++ encN x = ys ++ encN y ∧ OwnB w1 5 u ys ∧ Keep (fun b => some b ≠ v.ownBlock) w w1 ∧ InB (fun b => v.ownBlock = some b ∨ w.heap.size ≤ b) u) (fun vs _ => match vs with | [_, .int _ y] => y.toNat | _ => 0) ⟨v, xs, x, rfl, hx, rfl, hown, Keep.refl _, fun b hb => .inl hb⟩ ?_
  rintro J vs w1 ⟨u, ys, y, rfl, hy, heq, hown1, hk1, hb1⟩ -
  have hyl := congrArg List.length heq
  have hex := encN_len10 hx
  have hep := encN_pos y
  simp only [List.length_append] at hyl
  refine W_seq ?_
  refine W_seq ?_
  refine W_region ?_
  refine o_mvt rfl ?_
  refine op_run (r_geq rfl rfl) rfl ?_
  refine ops_nil ?_
  refine W_cond_p rfl (fun h2 => ?_) (fun h2 => ?_)
  · refine W_skip ?_
    refine W_block ?_
    refine W_seq ?_
    refine W_region ?_
    refine o_mvt rfl ?_
    refine o_mvt rfl ?_
    refine op_run (r_conv rfl rfl rfl) rfl ?_
    refine op_run (r_or rfl rfl) rfl ?_
    refine o_bs1 (v := c8 (y % 128 + 128).toUInt8) (.trans rfl (c8_more y)) rfl rfl rfl rfl rfl ?_; intro w3 b3 e3 hB3 hk3 hs3
    refine o_app1 (v := u) rfl rfl hB3 rfl rfl ti_u8 rfl (hown1.keep hk3 (fun _ _ => trivial)) (by unfold maxLen; omega) (by omega) rfl ?_; intro v4 w4 hown4 hk4 hb4
    refine o_ast rfl ?_
    refine ops_nil ?_
    refine W_region ?_
    refine o_mvt rfl ?_
    refine op_run (r_shr rfl rfl (by decide)) rfl ?_
    refine o_ast rfl ?_
    refine ops_nil ?_
    refine ⟨by (repeat (first | with_reducible exact offM_refl _ _ | refine offM_updc rfl ?_ | refine offM_upd rfl ?_ | refine offM_updo rfl ?_ | refine offM_updo_none ?_ | refine offM_head rfl rfl ?_)), ⟨v4, ys ++ [(y % 128 + 128).toUInt8], y / 128, ?_, by omega, ?_, ?_, ?_, ?_⟩, ?_⟩
    · rw [← shr7]; rfl
    · rw [heq, encN_more (by omega)]; simp
    · exact OwnB.snoc hown4
    · exact (hk1.trans hk3.all).own hk4 (fun b hb hA => (hb1 b hb).resolve_left (fun e => hA e.symm))
    · intro b hb
      rcases hb4 b hb with h1 | h1
      · exact hb1 b h1
      · have := hk1.size; have := hk3.size; exact .inr (by omega)
    · show ((y : Int).fdiv (2 ^ (min (7 : Int).toNat IntKind.u64.bits))).toNat < (y : Int).toNat
      rw [shr7]; omega
  · refine W_exit ?_
    refine W_seq ?_
    refine W_region ?_
    refine o_mvt rfl ?_
    refine o_mvt rfl ?_
    refine op_run (r_conv rfl rfl rfl) rfl ?_
    refine o_bs1 (v := c8 y.toUInt8) (.trans rfl (c8_last y)) rfl rfl rfl rfl rfl ?_; intro w6 b6 e6 hB6 hk6 hs6
    refine o_app1 (v := u) rfl rfl hB6 rfl rfl ti_u8 rfl (hown1.keep hk6 (fun _ _ => trivial)) (by unfold maxLen; omega) (by omega) rfl ?_; intro v7 w7 hown7 hk7 hb7
    refine o_ast rfl ?_
    refine ops_nil ?_
    refine W_ret ?_
    refine ret1 v7 rfl ?_ ?_; rfl
    refine ⟨?_, (hk1.trans hk6.all).own hk7 (fun b hb hA => (hb1 b hb).resolve_left (fun e => hA e.symm)), ?_⟩
    · rw [heq, encN_last (by omega)]; exact OwnB.snoc hown7
    · intro b hb
      rcases hb7 b hb with h1 | h1
      · exact hb1 b h1
      · have := hk1.size; have := hk6.size; exact .inr (by omega)

theorem ref01_Same (w : World) (va vb : Value) (xs ys : List UInt8) (hx : By w va xs) (hy : By w vb ys) :
    Ret Try.prog 13 [va, vb].toArray w fun r w' => r = .bool (decide (xs = ys)) ∧ Keep All w w' := by
  have hxl := hx.len_le
  have hyl := hy.len_le
  obtain ⟨a, ca, rfl, _⟩ := hx.form
  obtain ⟨b, cb, rfl, _⟩ := hy.form
  refine enter (fn := Try.f13) (n := 26) Try.func13 rfl rfl (by simp) ?_
  refine W_seq ?_
  refine W_region ?_
  refine o_asc rfl ?_
  refine ops_nil ?_
  refine W_seq ?_
  refine W_seq ?_
  refine W_region ?_
  refine o_mvt rfl ?_
  refine op_run (r_len rfl rfl rfl) rfl ?_
  refine o_mvt rfl ?_
  refine op_run (r_len rfl rfl rfl) rfl ?_
  refine op_run (r_neq rfl rfl) rfl ?_
  refine ops_nil ?_
  refine W_cond_p rfl (fun h1 => ?_) (fun h1 => ?_)
  · refine W_seq ?_
    refine W_region ?_
    refine o_asc rfl ?_
    refine ops_nil ?_
    refine W_ret ?_
    refine ret1 (.bool false) rfl ?_ ?_; rfl
    exact ⟨by rw [decide_eq_false]; intro e; subst e; exact h1 rfl, Keep.refl _⟩
  · refine W_skip ?_
    refine W_seq ?_
    refine W_seq ?_
    refine W_region ?_
    refine o_asc rfl ?_
    refine ops_nil ?_
    refine W_block ?_
    refine W_loop [5] [4, 5, 11, 12, 13, 14, 15, 16, 17, 18, 19, 20, 21, 22, 23, 24, 25] (fun vs w1 => ∃ k : Nat, vs = [.int .i64 k] ∧ k ≤ xs.length ∧ xs.take k = ys.take k ∧ Keep All w w1) (fun vs _ => match vs with | [.int _ y] => xs.length - y.toNat | _ => 0) ⟨0, rfl, Nat.zero_le _, by simp, Keep.refl _⟩ ?_
    rintro J vs w1 ⟨k, rfl, hk, htk, hk1⟩ -
    have hlen : xs.length = ys.length := by simp only [Decidable.not_not] at h1; omega
    refine W_seq ?_
    refine W_seq ?_
    refine W_region ?_
    refine o_mvt rfl ?_
    refine o_mvt rfl ?_
    refine op_run (r_len rfl rfl rfl) rfl ?_
    refine op_run (r_lss rfl rfl) rfl ?_
    refine ops_nil ?_
    refine W_cond_p rfl (fun h4 => ?_) (fun h4 => ?_)
    · refine W_skip ?_
      refine W_seq ?_
      refine W_block ?_
      refine W_seq ?_
      obtain ⟨ba, offa, ca', ea, _, _, hca⟩ := hx.at (by omega)
      obtain ⟨bb, offb, cb', eb, _, _, hcb⟩ := hy.at (by omega)
      cases ea; cases eb
      have hkx : k < xs.length := by omega
      have hky : k < ys.length := by omega
      refine W_quiet (Keep All w1) (by kernel_rfl) (by kernel_rfl) (Keep.drawn _) ?_
      refine q_mvt rfl ?_
      refine q_mvt rfl ?_
      refine q_run (fun _ _ => r_idxS1 rfl rfl rfl rfl (by omega) (by omega)) rfl ?_
      refine q_run (fun _ hk => r_load rfl rfl rfl (hk.cell (hk1.cell (hca k _ (get_c8 hkx)) trivial) trivial)) rfl ?_
      refine q_mvt rfl ?_
      refine q_mvt rfl ?_
      refine q_run (fun _ _ => r_idxS1 rfl rfl rfl rfl (by omega) (by omega)) rfl ?_
      refine q_run (fun _ hk => r_load rfl rfl rfl (hk.cell (hk1.cell (hcb k _ (get_c8 hky)) trivial) trivial)) rfl ?_
      refine q_run (fun _ _ => (r_neq rfl rfl)) rfl ?_
      refine q_nil ?_; intro w10 hk10
      refine W_cond_p rfl (fun h11 => ?_) (fun h11 => ?_)
      · refine W_seq ?_
        refine W_region ?_
        refine o_asc rfl ?_
        refine ops_nil ?_
        refine W_ret ?_
        refine ret1 (.bool false) rfl ?_ ?_; rfl
        refine ⟨by rw [decide_eq_false]; intro e; subst e; exact h11 rfl, hk1.trans hk10⟩
      · refine W_skip ?_
        refine W_region ?_
        refine o_mvt rfl ?_
        refine op_run (r_add rfl rfl) rfl ?_
        refine o_ast rfl ?_
        refine ops_nil ?_
        have hxy : xs[k] = ys[k] := by
          simp only [Decidable.not_not] at h11
          exact UInt8.toNat_inj.1 (by exact_mod_cast h11)
        refine ⟨by (repeat (first | with_reducible exact offM_refl _ _ | refine offM_updc rfl ?_ | refine offM_upd rfl ?_ | refine offM_updo rfl ?_ | refine offM_updo_none ?_ | refine offM_head rfl rfl ?_)), ⟨k + 1, ?_, by omega, ?_, hk1.trans hk10⟩, ?_⟩
        · have e : IntKind.i64.wrap ((k : Int) + 1) = ((k + 1 : Nat) : Int) := by rw [wrap_i64 (by omega) (by omega)]; omega
          rw [← e]; rfl
        · rw [List.take_succ_eq_append_getElem hkx, List.take_succ_eq_append_getElem hky, htk, hxy]
        · have e : IntKind.i64.wrap ((k : Int) + 1) = ((k + 1 : Nat) : Int) := by rw [wrap_i64 (by omega) (by omega)]; omega
          show xs.length - (IntKind.i64.wrap ((k : Int) + 1)).toNat < xs.length - (k : Int).toNat
          rw [e]; omega
    · refine W_exit ?_
      refine W_seq ?_
      refine W_region ?_
      refine o_asc rfl ?_
      refine ops_nil ?_
      refine W_ret ?_
      refine ret1 (.bool true) rfl ?_ ?_; rfl
      have e : k = xs.length := by omega
      subst e
      rw [List.take_length, hlen, List.take_length] at htk
      exact ⟨by rw [decide_eq_true htk], hk1⟩
theorem add128 (y : Nat) : Value.int .u8 (IntKind.u8.wrap (IntKind.u8.wrap ((y : Int).tmod 128) + 128)) = c8 (y % 128 + 128).toUInt8 := by
  unfold c8; rw [wrap_u8, wrap_u8, Int.tmod_eq_emod_of_nonneg (by omega)]; simp
theorem low128 (y : Nat) (h : y < 128) : Value.int .u8 (IntKind.u8.wrap ((y : Int).tmod 128)) = c8 y.toUInt8 := by
  unfold c8; rw [wrap_u8, Int.tmod_eq_emod_of_nonneg (by omega)]; simp; omega
theorem quo128 (y : Nat) (h : y < 2 ^ 64) : IntKind.u64.wrap ((y : Int).tdiv 128) = ((y / 128 : Nat) : Int) := by
  rw [wrap_u64, Int.tdiv_eq_ediv_of_nonneg (by omega)]; omega
theorem inc64 (k : Nat) (h : k < 9223372036854775807) : IntKind.i64.wrap ((k : Int) + 1) = ((k + 1 : Nat) : Int) := by
  rw [wrap_i64 (by omega) (by omega)]; omega

theorem ref01_Number (w : World) (v : Value) (xs : List UInt8) (x : Nat) (hx : x < 2 ^ 64) (hown : OwnB w 5 v xs) (hlen : xs.length + 10 ≤ 2 ^ 40) :
    Ret Try.prog 69 [v, .int .u64 x].toArray w fun r w' => OwnB w' 5 r (xs ++ encN x) ∧ Keep (fun b => some b ≠ v.ownBlock) w w' ∧ InB (fun b => v.ownBlock = some b ∨ w.heap.size ≤ b) r := by
  refine enter (fn := Try.f69) (n := 28) Try.func69 rfl rfl (by simp) ?_
  refine W_seq ?_
  refine W_region ?_
  refine o_asc rfl ?_
  refine ops_nil ?_
  refine W_seq ?_
  refine W_seq ?_
  refine W_region ?_
  refine o_asc rfl ?_
  refine ops_nil ?_
  refine W_block ?_
  refine W_loop [0, 1, 5] [0, 1, 4, 5, 6, 7, 8, 9, 10, 11, 12, 13, 14, 15, 16, 17, 18, 19, 20, 21, 22, 23, 24, 25, 26] (fun vs w1 => ∃ (u : Value) (ys : List UInt8) (y k : Nat), vs = [u, .int .u64 y, .int .i64 k] ∧ y < 2 ^ 64 ∧ k ≤ 10 ∧ y < 128 ^ (10 - k) ∧ (k = 0 ∨ 0 < y) ∧ xs ++ encN x = ys ++ encN y ∧ OwnB w1 5 u ys ∧ Keep (fun b => some b ≠ v.ownBlock) w w1 ∧ InB (fun b => v.ownBlock = some b ∨ w.heap.size ≤ b) u) (fun vs _ => match vs with | [_, _, .int _ k] => 10 - k.toNat | _ => 0) ⟨v, xs, x, 0, rfl, hx, by omega, Nat.lt_trans hx (by decide), .inl rfl, rfl, hown, Keep.refl _, fun b hb => .inl hb⟩ ?_
  rintro J vs w1 ⟨u, ys, y, k, rfl, hy, hk10, hy2, hky, heq, hown1, hk1, hb1⟩ -
  have hyl := congrArg List.length heq
  have hex := encN_len10 hx
  have hep := encN_pos y
  simp only [List.length_append] at hyl
  refine W_seq ?_
  refine W_seq ?_
  refine W_region ?_
  refine o_mvt rfl ?_
  refine op_run (r_lss rfl rfl) rfl ?_
  refine ops_nil ?_
  refine W_cond_p rfl (fun h2 => ?_) (fun h2 => ?_)
  · refine W_skip ?_
    refine W_seq ?_
    refine W_block ?_
    refine W_seq ?_
    refine W_region ?_
    refine o_mvt rfl ?_
    refine op_run (r_rem rfl rfl (by decide)) rfl ?_
    refine op_run (r_conv rfl rfl rfl) rfl ?_
    refine o_ast rfl ?_
    refine ops_nil ?_
    refine W_seq ?_
    refine W_region ?_
    refine o_mvt rfl ?_
    refine op_run (r_quo rfl rfl (by decide)) rfl ?_
    refine o_ast rfl ?_
    refine ops_nil ?_
    refine W_seq ?_
    refine W_seq ?_
    refine W_region ?_
    refine o_mvt rfl ?_
    refine op_run (r_eql rfl rfl) rfl ?_
    refine ops_nil ?_
    have hq := quo128 y hy
    refine W_cond_p rfl (fun h3 => ?_) (fun h3 => ?_)
    all_goals rw [hq] at h3
    · refine W_seq ?_
      refine W_region ?_
      refine o_mvt rfl ?_
      refine o_mvt rfl ?_
      refine o_bs1 (v := c8 y.toUInt8) (.trans rfl (low128 y (by omega))) rfl rfl rfl rfl rfl ?_; intro w4 b4 e4 hB4 hk4 hs4
      refine o_app1 (v := u) rfl rfl hB4 rfl rfl ti_u8 rfl (hown1.keep hk4 (fun _ _ => trivial)) (by unfold maxLen; omega) (by omega) rfl ?_; intro v5 w5 hown5 hk5 hb5
      refine o_ast rfl ?_
      refine ops_nil ?_
      refine W_ret ?_
      refine ret1 v5 rfl ?_ ?_; rfl
      refine ⟨?_, (hk1.trans hk4.all).own hk5 (fun b hb hA => (hb1 b hb).resolve_left (fun e => hA e.symm)), ?_⟩
      · rw [heq, encN_last (by omega)]; exact OwnB.snoc hown5
      · intro b hb
        rcases hb5 b hb with h1 | h1
        · exact hb1 b h1
        · have := hk1.size; have := hk4.size; exact .inr (by omega)
    · refine W_skip ?_
      refine W_region ?_
      refine o_mvt rfl ?_
      refine o_mvt rfl ?_
      refine op_run (r_add rfl rfl) rfl ?_
      refine o_bs1 (v := c8 (y % 128 + 128).toUInt8) (.trans rfl (add128 y)) rfl rfl rfl rfl rfl ?_; intro w7 b7 e7 hB7 hk7 hs7
      refine o_app1 (v := u) rfl rfl hB7 rfl rfl ti_u8 rfl (hown1.keep hk7 (fun _ _ => trivial)) (by unfold maxLen; omega) (by omega) rfl ?_; intro v8 w8 hown8 hk8 hb8
      refine o_ast rfl ?_
      refine ops_nil ?_
      refine W_region ?_
      refine o_mvt rfl ?_
      refine op_run (r_add rfl rfl) rfl ?_
      refine o_ast rfl ?_
      refine ops_nil ?_
      have hinc := inc64 k (by omega)
      refine ⟨by (repeat (first | with_reducible exact offM_refl _ _ | refine offM_updc rfl ?_ | refine offM_upd rfl ?_ | refine offM_updo rfl ?_ | refine offM_updo_none ?_ | refine offM_head rfl rfl ?_)), ⟨v8, ys ++ [(y % 128 + 128).toUInt8], y / 128, k + 1, ?_, by omega, by omega, ?_, .inr (by omega), ?_, ?_, ?_, ?_⟩, ?_⟩
      · rw [← hq, ← hinc]; rfl
      · have : 10 - k = (10 - (k + 1)) + 1 := by omega
        rw [this, Nat.pow_succ] at hy2
        exact Nat.div_lt_of_lt_mul (by rw [Nat.mul_comm]; exact hy2)
      · rw [heq, encN_more (by omega)]; simp
      · exact OwnB.snoc hown8
      · exact (hk1.trans hk7.all).own hk8 (fun b hb hA => (hb1 b hb).resolve_left (fun e => hA e.symm))
      · intro b hb
        rcases hb8 b hb with h1 | h1
        · exact hb1 b h1
        · have := hk1.size; have := hk7.size; exact .inr (by omega)
      · show 10 - (IntKind.i64.wrap ((k : Int) + 1)).toNat < 10 - (k : Int).toNat
        rw [hinc]; omega
  · refine W_exit ?_
    refine W_seq ?_
    refine W_region ?_
    refine o_mvt rfl ?_
    refine o_ast rfl ?_
    refine ops_nil ?_
    refine W_ret ?_
    exfalso
    have e : k = 10 := by omega
    subst e
    simp at hy2; omega
    skip

/-- The bytes of bytes. -/
def encB (b : List UInt8) : List UInt8 := encN b.length ++ b
theorem encB_len (b : List UInt8) (h : b.length < 2 ^ 64) : (encB b).length ≤ b.length + 10 := by
  unfold encB; have := encN_len10 h; simp; omega
theorem conv_len (n : Nat) (h : n ≤ 9223372036854775807) : Value.int .u64 (IntKind.u64.wrap (n : Int)) = Value.int .u64 (n : Int) := by rw [wrap_u64]; congr 1; omega

theorem pack_Bytes (w : World) (v vb : Value) (xs bs : List UInt8) (hown : OwnB w 5 v xs) (hbk : ∀ w', Keep (fun b => some b ≠ v.ownBlock) w w' → By w' vb bs) (hlen : xs.length + bs.length + 10 ≤ 2 ^ 40) :
    Ret Try.prog 64 [v, vb].toArray w fun r w' => OwnB w' 5 r (xs ++ encB bs) ∧ Keep (fun b => some b ≠ v.ownBlock) w w' ∧ InB (fun b => v.ownBlock = some b ∨ w.heap.size ≤ b) r := by
  have hb := hbk w (Keep.refl _)
  obtain ⟨a, c, rfl, _⟩ := hb.form
  refine enter (fn := Try.f64) (n := 12) Try.func64 rfl rfl (by simp) ?_
  refine W_seq ?_
  refine W_region ?_
  refine o_asc rfl ?_
  refine ops_nil ?_
  refine W_seq ?_
  refine W_region ?_
  refine o_mvt rfl ?_
  refine o_mvt rfl ?_
  refine op_run (r_len rfl rfl rfl) rfl ?_
  refine op_run ((r_conv rfl rfl rfl).val (conv_len bs.length (by omega))) rfl ?_
  refine op_call rfl rfl rfl (pack_Number w v xs bs.length (by omega) hown (by omega)) ?_; rintro v1 w1 ⟨ho1, hk1, hb1⟩
  refine o_mvt rfl ?_
  have hl10 := encN_len10 (show bs.length < 2 ^ 64 by omega)
  have hb' := hbk w1 hk1
  refine o_appS (v := v1) rfl rfl hb' rfl ti_u8 rfl rfl ho1 (all_c8 _) (by unfold maxLen; simp; omega) (by simp; omega) rfl ?_; intro v2 w2 hown2 hk2 hb2
  refine o_ast rfl ?_
  refine ops_nil ?_
  refine W_ret ?_
  refine ret1 v2 rfl ?_ ?_; rfl
  refine ⟨by unfold encB; rw [← List.append_assoc]; exact OwnB.app hown2, hk1.own hk2 (fun b hb hA => (hb1 b hb).resolve_left (fun e => hA e.symm)), ?_⟩
  intro b hb
  rcases hb2 b hb with h1 | h1
  · exact hb1 b h1
  · have := hk1.size; exact .inr (by omega)

end Go.Proofs.Ytkmciohghhffnaa.B
/-! pack.In: what reads numbers and bytes back. -/
namespace Go.Proofs.Ytkmciohghhffnaa.B
open Go
set_option linter.unusedVariables false
set_option maxHeartbeats 2000000
set_option maxRecDepth 100000
attribute [local irreducible] W OpsW OpsQ retP
theorem InB.sub {A : Nat → Prop} {a : Option Addr} {n c sz l h m : Nat} (hb : InB A (.slice a n c)) : InB A (subSl a sz l h m) := by
  intro b e
  unfold subSl at e
  cases a with
  | none => split at e <;> cases e
  | some x =>
    obtain ⟨xb, xo, xs⟩ := x
    split at e
    · exact hb b e
    · refine hb b ?_
      rw [← e]
      simp only [Option.map_some, Value.ownBlock, Addr.add]
      repeat' split
      all_goals rfl
def InC (w : World) (b : Nat) (A : Nat → Prop) (bs : List UInt8) (bad : Bool) : Prop := ∃ vb, Blk w b [vb, .bool bad] 132 ∧ By w vb bs ∧ InB A vb
theorem InC.keep {w w' : World} {b : Nat} {A C : Nat → Prop} {bs : List UInt8} {bad : Bool} (h : InC w b A bs bad) (hk : Keep C w w') (hb : C b) (hA : ∀ k, A k → C k) : InC w' b A bs bad := by
  obtain ⟨vb, h1, h2, h3⟩ := h
  exact ⟨vb, hk.blk' h1 hb, h2.keep hk (h3.mono hA), h3⟩

theorem sl_Clone (w : World) (v : Value) (xs : List UInt8) (hx : By w v xs) (hl : xs.length ≤ 2 ^ 46) :
    Ret Try.prog 65 [v].toArray w fun r w' => By w' r xs ∧ InB (fun b => w.heap.size ≤ b ∧ b < w'.heap.size) r ∧ Keep All w w' := by
  obtain ⟨a, c, rfl, hc, hcm⟩ := hx.form
  have hxl := hx.len_le
  refine enter (fn := Try.f65) (n := 8) Try.func65 rfl rfl (by simp) ?_
  refine W_seq ?_
  refine W_region ?_
  refine o_asc rfl ?_
  refine ops_nil ?_
  refine W_seq ?_
  refine W_seq ?_
  refine W_region ?_
  refine o_mvt rfl ?_
  refine op_run (r_isNilS rfl rfl) rfl ?_
  refine ops_nil ?_
  refine W_cond rfl (fun h1 => ?_) (fun h1 => ?_)
  · refine W_seq ?_
    refine W_region ?_
    refine o_asc rfl ?_
    refine ops_nil ?_
    refine W_ret ?_
    have e : xs = [] := by
      obtain ⟨a', c', e, h6, h7, h8, h9, _⟩ := hx
      cases e
      cases a with
      | none => have := h9 rfl; exact List.eq_nil_of_length_eq_zero (by omega)
      | some y => cases h1
    subst e
    refine ret1 (.slice none 0 0) rfl ?_ ?_; rfl
    exact ⟨Sl.nil _ _, InB.nil, Keep.refl _⟩
  · refine W_skip ?_
    refine W_seq ?_
    refine W_region ?_
    refine o_bs0 rfl rfl rfl ?_; intro w3 b3 e3 hB3 hk3 hs3
    refine o_mvt rfl ?_
    refine o_appS (v := .slice (some ⟨b3, 0, none⟩) 0 0) rfl rfl (hx.keep hk3 (fun _ _ => trivial)) rfl ti_u8 rfl rfl (Own.blk hB3 rfl (by unfold maxLen; omega)) (all_c8 _) (by unfold maxLen; omega) (by omega) rfl ?_; intro v4 w4 hown4 hk4 hb4
    refine o_ast rfl ?_
    refine ops_nil ?_
    refine W_ret ?_
    refine ret1 v4 rfl ?_ ?_; rfl
    refine ⟨?_, fun b hb => ⟨?_, hown4.lt b hb⟩, hk3.own hk4 ?_⟩
    · have h := OwnB.app (xs := []) (e := 5) hown4
      exact h.by_
    · rcases hb4 b hb with h | h
      · cases h; show w.heap.size ≤ b3; omega
      · omega
    · intro b h; cases h; intro _; show w.heap.size ≤ b3; omega

theorem pack_From (w : World) (v : Value) (xs : List UInt8) (hx : By w v xs) (hl : xs.length ≤ 2 ^ 46) :
    Ret Try.prog 34 [v].toArray w fun r w' => ∃ b, r = .pointer (some ⟨b, 0, none⟩) ∧ w.heap.size ≤ b ∧ InC w' b (fun k => w.heap.size ≤ k ∧ k < b) xs false ∧ Keep All w w' := by
  refine enter (fn := Try.f34) (n := 7) Try.func34 rfl rfl (by simp) ?_
  refine W_seq ?_
  refine W_region ?_
  refine o_asc rfl ?_
  refine ops_nil ?_
  refine W_seq ?_
  refine W_region ?_
  refine o_mvt rfl ?_
  refine op_call rfl rfl rfl (sl_Clone w v xs hx hl) ?_; rintro v1 w1 ⟨hx1, hb1, hk1⟩
  obtain ⟨a1, c1, rfl, _⟩ := hx1.form
  refine op_run (r_build ([.slice a1 xs.length c1, .bool false]) (_) ([(0, .slice a1 xs.length c1)]) rfl rfl rfl rfl rfl (rfl)) rfl ?_
  refine o_box (cs := [.slice a1 xs.length c1, .bool false]) rfl rfl rfl ?_; intro w3 b3 e3 hB3 hk3 hs3
  refine o_ast rfl ?_
  refine ops_nil ?_
  refine W_ret ?_
  refine ret1 (.pointer (some ⟨b3, 0, none⟩)) rfl ?_ ?_; rfl
  refine ⟨b3, rfl, by have := hk1.size; omega, ⟨_, hB3, hx1.keep hk3 (fun _ _ => trivial), fun b hb => ⟨(hb1 b hb).1, by have := (hb1 b hb).2; omega⟩⟩, hk1.trans hk3⟩

theorem in_fail (w : World) (b : Nat) (vb : Value) (bad : Bool) (h : Blk w b [vb, .bool bad] 132) :
    Ret Try.prog 66 [.pointer (some ⟨b, 0, none⟩)].toArray w fun r w' => Blk w' b [.slice none 0 0, .bool true] 132 ∧ Keep (· ≠ b) w w' := by
  refine enter (fn := Try.f66) (n := 5) Try.func66 rfl rfl (by simp) ?_
  refine W_region ?_
  refine o_mvt rfl ?_
  refine op_run (r_build ([.slice none 0 0, .bool true]) (_) ([(1, .bool true)]) rfl rfl rfl rfl rfl (rfl)) rfl ?_
  refine op_run (r_nilCheck rfl) rfl ?_
  refine o_storeA (cs := [.slice none 0 0, .bool true]) rfl rfl (by first | rfl | exact binV_one _ | exact dgR_one _ | exact refR_one _ | exact secR_one _ | exact all_c8 _) (by first | rfl | (rw [binV_len]; rfl) | (rw [dgR_len]; rfl) | (rw [refR_len]; rfl) | (rw [secR_len]; rfl) | (rw [List.length_map, tagF_len]; rfl)) h (by exact Nat.le_refl 2) rfl ?_; intro w2 hB2 hk2 hs2
  refine ops_nil ?_
  refine ret0 rfl ?_
  exact ⟨hB2, hk2⟩
theorem InC.failed {w : World} {b : Nat} {A : Nat → Prop} (h : Blk w b [.slice none 0 0, .bool true] 132) : InC w b A [] true := ⟨_, h, Sl.nil _ _, InB.nil⟩

theorem in_Done (w : World) (b : Nat) (A : Nat → Prop) (bs : List UInt8) (bad : Bool) (h : InC w b A bs bad) :
    Ret Try.prog 39 [.pointer (some ⟨b, 0, none⟩)].toArray w fun r w' => r = .int .i64 (if bad = true ∨ 0 < bs.length then 3 else 0) ∧ Keep All w w' := by
  obtain ⟨vb, hB, hx, hA⟩ := h
  have hxl := hx.len_le
  obtain ⟨a, c, rfl, hc, hcm⟩ := hx.form
  refine enter (fn := Try.f39) (n := 15) Try.func39 rfl rfl (by simp) ?_
  refine W_seq ?_
  refine W_region ?_
  refine o_asc rfl ?_
  refine ops_nil ?_
  refine W_seq ?_
  refine W_cut [14] [3, 4, 5, 6, 7, 8, 9, 10, 11, 12, 13, 14] (fun vs w1 => vs = [.bool (decide (bad = true ∨ 0 < bs.length))] ∧ w1 = w) ?_ ?_
  · refine W_region ?_
    refine o_mvt rfl ?_
    refine op_run (r_nilCheck rfl) rfl ?_
    refine op_run (r_fieldAddr rfl rfl rfl rfl rfl) rfl ?_
    refine op_run (r_load rfl rfl rfl (hB.cell rfl)) rfl ?_
    refine o_mvt rfl ?_
    refine g_split rfl rfl rfl (fun g3 => ?_) (fun g3 => ?_)
    · refine o_mvt (g_yes rfl rfl rfl g3) ?_
      refine op_run (r_nilCheck rfl) (g_yes rfl rfl rfl g3) ?_
      refine op_run (r_fieldAddr rfl rfl rfl rfl rfl) (g_yes rfl rfl rfl g3) ?_
      refine op_run (r_load rfl rfl rfl (hB.cell rfl)) (g_yes rfl rfl rfl g3) ?_
      refine op_run (r_len rfl rfl rfl) (g_yes rfl rfl rfl g3) ?_
      refine op_run (r_gtr rfl rfl) (g_yes rfl rfl rfl g3) ?_
      refine o_pkFt rfl g3 rfl ?_
      refine ops_nil ?_
      exact ⟨by (repeat (first | with_reducible exact offM_refl _ _ | refine offM_updc rfl ?_ | refine offM_upd rfl ?_ | refine offM_updo rfl ?_ | refine offM_updo_none ?_ | refine offM_head rfl rfl ?_)), by subst g3; exact congrArg (fun b => [Value.bool b]) (by rw [decide_eq_decide]; simp), rfl⟩
    · refine op_skip (g_no rfl rfl rfl g3) ?_
      refine op_skip (g_no rfl rfl rfl g3) ?_
      refine op_skip (g_no rfl rfl rfl g3) ?_
      refine op_skip (g_no rfl rfl rfl g3) ?_
      refine op_skip (g_no rfl rfl rfl g3) ?_
      refine op_skip (g_no rfl rfl rfl g3) ?_
      refine o_pkTc rfl g3 rfl ?_
      refine ops_nil ?_
      exact ⟨by (repeat (first | with_reducible exact offM_refl _ _ | refine offM_updc rfl ?_ | refine offM_upd rfl ?_ | refine offM_updo rfl ?_ | refine offM_updo_none ?_ | refine offM_head rfl rfl ?_)), by simp at g3; subst g3; rfl, rfl⟩
  · rintro J7 vs w7 ⟨rfl, rfl⟩ -
    refine W_cond_p rfl (fun h8 => ?_) (fun h8 => ?_)
    · refine W_seq ?_
      refine W_region ?_
      refine o_asc rfl ?_
      refine ops_nil ?_
      refine W_ret ?_
      refine ret1 (.int .i64 3) rfl ?_ ?_; rfl
      exact ⟨by rw [if_pos h8], Keep.refl _⟩
    · refine W_skip ?_
      refine W_seq ?_
      refine W_region ?_
      refine o_asc rfl ?_
      refine ops_nil ?_
      refine W_ret ?_
      refine ret1 (.int .i64 0) rfl ?_ ?_; rfl
      exact ⟨by rw [if_neg h8], Keep.refl _⟩

theorem in_take (w : World) (b : Nat) (A : Nat → Prop) (bs : List UInt8) (bad : Bool) (n : Nat) (hn : n < 2 ^ 63) (hAb : ¬ A b) (h : InC w b A bs bad) :
    Ret Try.prog 67 [.pointer (some ⟨b, 0, none⟩), .int .i64 n].toArray w fun r w' =>
      if bad = true ∨ bs.length < n then r = .slice none 0 0 ∧ InC w' b A [] true ∧ Keep (· ≠ b) w w' else By w' r (bs.take n) ∧ InB A r ∧ InC w' b A (bs.drop n) bad ∧ Keep (· ≠ b) w w' := by
  obtain ⟨vb, hB, hx, hA⟩ := h
  have hxl := hx.len_le
  obtain ⟨a, c, rfl, hc, hcm⟩ := hx.form
  refine enter (fn := Try.f67) (n := 38) Try.func67 rfl rfl (by simp) ?_
  refine W_seq ?_
  refine W_region ?_
  refine o_asc rfl ?_
  refine ops_nil ?_
  refine W_seq ?_
  refine W_cut [18] [6, 7, 8, 9, 10, 11, 12, 13, 14, 15, 16, 17, 18] (fun vs w1 => vs = [.bool (decide (bad = true ∨ bs.length < n))] ∧ w1 = w) ?_ ?_
  · refine W_region ?_
    refine o_mvt rfl ?_
    refine op_run (r_nilCheck rfl) rfl ?_
    refine op_run (r_fieldAddr rfl rfl rfl rfl rfl) rfl ?_
    refine op_run (r_load rfl rfl rfl (hB.cell rfl)) rfl ?_
    refine o_mvt rfl ?_
    refine g_split rfl rfl rfl (fun g3 => ?_) (fun g3 => ?_)
    · refine o_mvt (g_yes rfl rfl rfl g3) ?_
      refine o_mvt (g_yes rfl rfl rfl g3) ?_
      refine op_run (r_nilCheck rfl) (g_yes rfl rfl rfl g3) ?_
      refine op_run (r_fieldAddr rfl rfl rfl rfl rfl) (g_yes rfl rfl rfl g3) ?_
      refine op_run (r_load rfl rfl rfl (hB.cell rfl)) (g_yes rfl rfl rfl g3) ?_
      refine op_run (r_len rfl rfl rfl) (g_yes rfl rfl rfl g3) ?_
      refine op_run (r_gtr rfl rfl) (g_yes rfl rfl rfl g3) ?_
      refine o_pkFt rfl g3 rfl ?_
      refine ops_nil ?_
      exact ⟨by (repeat (first | with_reducible exact offM_refl _ _ | refine offM_updc rfl ?_ | refine offM_upd rfl ?_ | refine offM_updo rfl ?_ | refine offM_updo_none ?_ | refine offM_head rfl rfl ?_)), by subst g3; exact congrArg (fun b => [Value.bool b]) (by rw [decide_eq_decide]; simp), rfl⟩
    · refine op_skip (g_no rfl rfl rfl g3) ?_
      refine op_skip (g_no rfl rfl rfl g3) ?_
      refine op_skip (g_no rfl rfl rfl g3) ?_
      refine op_skip (g_no rfl rfl rfl g3) ?_
      refine op_skip (g_no rfl rfl rfl g3) ?_
      refine op_skip (g_no rfl rfl rfl g3) ?_
      refine op_skip (g_no rfl rfl rfl g3) ?_
      refine o_pkTc rfl g3 rfl ?_
      refine ops_nil ?_
      exact ⟨by (repeat (first | with_reducible exact offM_refl _ _ | refine offM_updc rfl ?_ | refine offM_upd rfl ?_ | refine offM_updo rfl ?_ | refine offM_updo_none ?_ | refine offM_head rfl rfl ?_)), by simp at g3; subst g3; rfl, rfl⟩
  · rintro J7 vs w7 ⟨rfl, rfl⟩ -
    refine W_cond_p rfl (fun h8 => ?_) (fun h8 => ?_)
    · refine W_seq ?_
      refine W_region ?_
      refine o_mvt rfl ?_
      refine op_call rfl rfl rfl (in_fail _ b _ _ hB) ?_; rintro v9 w9 ⟨hB9, hk9⟩
      refine ops_nil ?_
      refine W_seq ?_
      refine W_region ?_
      refine o_asc rfl ?_
      refine ops_nil ?_
      refine W_ret ?_
      refine ret1 (.slice none 0 0) rfl ?_ ?_; rfl
      rw [if_pos h8]
      exact ⟨rfl, InC.failed hB9, hk9⟩
    · refine W_skip ?_
      refine W_seq ?_
      refine W_region ?_
      refine o_mvt rfl ?_
      refine op_run (r_nilCheck rfl) rfl ?_
      refine op_run (r_fieldAddr rfl rfl rfl rfl rfl) rfl ?_
      have hnl : n ≤ bs.length := by omega
      refine op_run (r_load rfl rfl rfl (hB.cell rfl)) rfl ?_
      refine o_mvt rfl ?_
      refine o_mvt rfl ?_
      refine op_run (r_sliceS_himx rfl rfl rfl rfl rfl (by omega) (by omega) (by omega)) rfl ?_
      refine o_ast rfl ?_
      refine ops_nil ?_
      refine W_seq ?_
      refine W_region ?_
      refine o_mvt rfl ?_
      refine o_mvt rfl ?_
      refine op_run (r_nilCheck rfl) rfl ?_
      refine op_run (r_fieldAddr rfl rfl rfl rfl rfl) rfl ?_
      refine op_run (r_load rfl rfl rfl (hB.cell rfl)) rfl ?_
      refine o_mvt rfl ?_
      refine op_run (r_sliceS_lo rfl rfl rfl rfl (by omega) (by omega)) rfl ?_
      refine op_run (r_nilCheck rfl) rfl ?_
      refine op_run (r_fieldAddr rfl rfl rfl rfl rfl) rfl ?_
      refine o_store (v := subSl a 1 n bs.length c) rfl rfl rfl rfl hB (by exact Nat.zero_lt_succ _) rfl ?_; intro w15 hB15 hk15 hs15
      refine ops_nil ?_
      refine W_seq ?_
      refine W_region ?_
      refine o_mvt rfl ?_
      refine o_ast rfl ?_
      refine ops_nil ?_
      refine W_ret ?_
      refine ret1 (subSl a 1 0 n n) rfl ?_ ?_; rfl
      rw [if_neg h8]
      have h1 := hx.sub (l := 0) (h := n) (m := n) (by omega) hnl (by omega) (by omega)
      have h2 := hx.sub (l := n) (h := bs.length) (m := c) hnl (by omega) hc (by omega)
      rw [List.drop_zero] at h1
      rw [List.take_length] at h2
      have hne : InB (· ≠ b) (.slice a bs.length c) := fun k hk e => hAb (by have := hA k hk; rwa [e] at this)
      exact ⟨h1.keep hk15 (InB.sub hne), hA.sub, ⟨_, hB15, h2.keep hk15 (InB.sub hne), hA.sub⟩, hk15⟩
end Go.Proofs.Ytkmciohghhffnaa.B
/-! pack.In reads a number, and bytes. -/
namespace Go.Proofs.Ytkmciohghhffnaa.B
open Go
set_option linter.unusedVariables false
set_option maxHeartbeats 2000000
set_option maxRecDepth 100000
attribute [local irreducible] W OpsW OpsQ retP
/-- A number is read: at shift s, v in hand. -/
def decN (most : Nat) : Nat → Nat → List UInt8 → Option (Nat × List UInt8)
  | _, _, [] => none
  | s, v, x :: xs =>
    if 63 < s ∨ 2 ^ 64 ≤ v + x.toNat % 128 * 2 ^ s ∨ (x.toNat = 0 ∧ 0 < s) then none
    else if 128 ≤ x.toNat then decN most (s + 7) (v + x.toNat % 128 * 2 ^ s) xs
    else if most < v + x.toNat % 128 * 2 ^ s then none else some (v + x.toNat % 128 * 2 ^ s, xs)
def numR (most : Nat) (bs : List UInt8) (bad : Bool) : Nat × List UInt8 × Bool := match decN most 0 0 bs with
  | none => (0, [], true)
  | some (v, r) => (v, r, bad)
theorem numR_none {most : Nat} {bs : List UInt8} {bad : Bool} (h : decN most 0 0 bs = none) : numR most bs bad = (0, [], true) := by unfold numR; rw [h]
theorem numR_some {most v : Nat} {bs r : List UInt8} {bad : Bool} (h : decN most 0 0 bs = some (v, r)) : numR most bs bad = (v, r, bad) := by unfold numR; rw [h]
theorem andNot128 : ∀ z : Fin 256, bitw .andNot .u8 (z.val : Int) 128 = ((z.val % 128 : Nat) : Int) := by decide +kernel
theorem lo7 (x : UInt8) : bitw .andNot .u8 (x.toNat : Int) 128 = ((x.toNat % 128 : Nat) : Int) := andNot128 ⟨x.toNat, x.toNat_lt⟩
theorem shl_val (p s : Nat) (hs : s ≤ 63) : IntKind.u64.wrap (((p : Nat) : Int) * 2 ^ (min ((s : Nat) : Int).toNat IntKind.u64.bits)) = ((p * 2 ^ s % 2 ^ 64 : Nat) : Int) := by
  have e : min ((s : Nat) : Int).toNat IntKind.u64.bits = s := by rw [Int.toNat_natCast]; exact Nat.min_eq_left (by show s ≤ 64; omega)
  have h1 : ((p : Nat) : Int) * 2 ^ s = ((p * 2 ^ s : Nat) : Int) := by push_cast; rfl
  rw [e, wrap_u64, h1]
  generalize p * 2 ^ s = m
  omega
theorem pow_split {s : Nat} (hs : s ≤ 63) : 2 ^ 64 = 2 ^ s * 2 ^ (64 - s) := by rw [← Nat.pow_add]; congr 1; omega
theorem shl_mul {p s : Nat} (hs : s ≤ 63) : p * 2 ^ s % 2 ^ 64 = 2 ^ s * (p % 2 ^ (64 - s)) := by
  rw [pow_split hs, Nat.mul_comm p, Nat.mul_mod_mul_left]
theorem or_add {v p s : Nat} (hv : v < 2 ^ s) (hs : s ≤ 63) : v ||| (p * 2 ^ s % 2 ^ 64) = v + p * 2 ^ s % 2 ^ 64 := by
  rw [shl_mul hs, Nat.mul_comm (2 ^ s), ← Nat.shiftLeft_eq, Nat.or_comm, ← Nat.shiftLeft_add_eq_or_of_lt hv, Nat.add_comm]
theorem no_ovf {v p s : Nat} (hv : v < 2 ^ s) (hs : s ≤ 63) : ((v + p * 2 ^ s % 2 ^ 64) / 2 ^ s = p ↔ v + p * 2 ^ s < 2 ^ 64) := by
  have hp : 0 < 2 ^ s := Nat.pow_pos (by omega)
  rw [shl_mul hs, Nat.add_mul_div_left _ _ hp, Nat.div_eq_of_lt hv, Nat.zero_add, pow_split hs]
  constructor
  · intro h
    have h1 : p < 2 ^ (64 - s) := by rw [← h]; exact Nat.mod_lt _ (Nat.pow_pos (by omega))
    have h2 : 2 ^ s * (p + 1) ≤ 2 ^ s * 2 ^ (64 - s) := Nat.mul_le_mul_left _ h1
    rw [Nat.mul_add, Nat.mul_one, Nat.mul_comm _ p] at h2
    omega
  · intro h
    apply Nat.mod_eq_of_lt
    rcases Nat.lt_or_ge p (2 ^ (64 - s)) with h1 | h1
    · exact h1
    · have h2 := Nat.mul_le_mul_left (2 ^ s) h1
      rw [Nat.mul_comm _ p] at h2
      omega
theorem inc7 (s : Nat) (h : s ≤ 100) : IntKind.i64.wrap ((s : Int) + 7) = ((s + 7 : Nat) : Int) := by rw [wrap_i64 (by omega) (by omega)]; omega
theorem decN_cons {most s v : Nat} {x : UInt8} {xs : List UInt8} : decN most s v (x :: xs) =
    if 63 < s ∨ 2 ^ 64 ≤ v + x.toNat % 128 * 2 ^ s ∨ (x.toNat = 0 ∧ 0 < s) then none
    else if 128 ≤ x.toNat then decN most (s + 7) (v + x.toNat % 128 * 2 ^ s) xs
    else if most < v + x.toNat % 128 * 2 ^ s then none else some (v + x.toNat % 128 * 2 ^ s, xs) := rfl

theorem in_Number (w : World) (b : Nat) (A : Nat → Prop) (bs : List UInt8) (bad : Bool) (most : Nat) (hAb : ¬ A b) (h : InC w b A bs bad) :
    Ret Try.prog 35 [.pointer (some ⟨b, 0, none⟩), .int .u64 most].toArray w fun r w' =>
      r = .int .u64 (numR most bs bad).1 ∧ InC w' b A (numR most bs bad).2.1 (numR most bs bad).2.2 ∧ Keep (· ≠ b) w w' := by
  refine enter (fn := Try.f35) (n := 76) Try.func35 rfl rfl (by simp) ?_
  refine W_seq ?_
  refine W_region ?_
  refine o_asc rfl ?_
  refine ops_nil ?_
  refine W_seq ?_
  refine W_region ?_
  refine o_asc rfl ?_
  refine ops_nil ?_
  refine W_block ?_
  refine W_loop [4, 5] [4, 5, 6, 7, 8, 9, 10, 11, 12, 13, 14, 15, 16, 17, 18, 19, 20, 21, 22, 23, 24, 25, 26, 27, 28, 29, 30, 31, 32, 33, 34, 35, 36, 37, 38, 39, 40, 41, 42, 43, 44, 45, 46, 47, 48, 49, 50, 51, 52, 53, 54, 55, 56, 57, 58, 59, 60, 61, 62, 63, 64, 65, 66, 67, 68, 69, 70, 71, 72, 73, 74, 75] (fun vs w' => ∃ (s v : Nat) (bs' : List UInt8), vs = [.int .u64 v, .int .i64 s] ∧ v < 2 ^ 64 ∧ v < 2 ^ s ∧ s ≤ 70 ∧ InC w' b A bs' bad ∧ decN most 0 0 bs = decN most s v bs' ∧ Keep (· ≠ b) w w') (fun vs _ => match vs with | [_, .int _ s] => 80 - s.toNat | _ => 0) ⟨0, 0, bs, rfl, by omega, by omega, by omega, h, rfl, Keep.refl _⟩ ?_
  rintro J vs w1 ⟨s, v, bs', rfl, hv, hvs, hs, ⟨vb, hB, hx, hIA⟩, hdec, hk1⟩ -
  have hxl := hx.len_le
  obtain ⟨a, c, rfl, hc, hcm⟩ := hx.form
  refine W_seq ?_
  refine W_block ?_
  refine W_seq ?_
  refine W_cut [20] [11, 12, 13, 14, 15, 16, 17, 18, 19, 20] (fun vs w2 => vs = [.bool (decide (bs'.length = 0 ∨ 63 < s))] ∧ w2 = w1) ?_ ?_
  · refine W_region ?_
    refine o_mvt rfl ?_
    refine op_run (r_nilCheck rfl) rfl ?_
    refine op_run (r_fieldAddr rfl rfl rfl rfl rfl) rfl ?_
    refine op_run (r_load rfl rfl rfl (hB.cell rfl)) rfl ?_
    refine op_run (r_len rfl rfl rfl) rfl ?_
    refine op_run (r_eql rfl rfl) rfl ?_
    refine o_mvt rfl ?_
    refine g_split rfl rfl rfl (fun g4 => ?_) (fun g4 => ?_)
    · refine o_mvt (g_yes rfl rfl rfl g4) ?_
      refine op_run (r_gtr rfl rfl) (g_yes rfl rfl rfl g4) ?_
      refine o_pkFt rfl g4 rfl ?_
      refine ops_nil ?_
      exact ⟨by (repeat (first | with_reducible exact offM_refl _ _ | refine offM_updc rfl ?_ | refine offM_upd rfl ?_ | refine offM_updo rfl ?_ | refine offM_updo_none ?_ | refine offM_head rfl rfl ?_)), congrArg (fun b => [Value.bool b]) (by have := of_decide_eq_false g4; rw [decide_eq_decide]; constructor <;> intro hh <;> omega), rfl⟩
    · refine op_skip (g_no rfl rfl rfl g4) ?_
      refine op_skip (g_no rfl rfl rfl g4) ?_
      refine o_pkTc rfl g4 rfl ?_
      refine ops_nil ?_
      exact ⟨by (repeat (first | with_reducible exact offM_refl _ _ | refine offM_updc rfl ?_ | refine offM_upd rfl ?_ | refine offM_updo rfl ?_ | refine offM_updo_none ?_ | refine offM_head rfl rfl ?_)), congrArg (fun b => [Value.bool b]) (by have := of_decide_eq_true g4; symm; apply decide_eq_true; omega), rfl⟩
  · rintro J7 vs w7 ⟨rfl, rfl⟩ -
    refine W_cond_p rfl (fun h8 => ?_) (fun h8 => ?_)
    · refine W_seq ?_
      refine W_region ?_
      refine o_mvt rfl ?_
      refine op_call rfl rfl rfl (in_fail _ b _ _ hB) ?_; rintro v9 w9 ⟨hB9, hk9⟩
      refine ops_nil ?_
      refine W_seq ?_
      refine W_region ?_
      refine o_asc rfl ?_
      refine ops_nil ?_
      refine W_ret ?_
      refine ret1 (.int .u64 0) rfl ?_ ?_; rfl
      have hd : decN most 0 0 bs = none := by
        rw [hdec]
        match bs' with
        | [] => rfl
        | x :: xs => rw [decN_cons, if_pos (.inl (by simp at h8; omega))]
      rw [numR_none hd]
      exact ⟨rfl, InC.failed hB9, hk1.trans hk9⟩
    · refine W_skip ?_
      refine W_seq ?_
      refine W_region ?_
      refine o_mvt rfl ?_
      refine op_run (r_nilCheck rfl) rfl ?_
      refine op_run (r_fieldAddr rfl rfl rfl rfl rfl) rfl ?_
      obtain ⟨x, xs, rfl⟩ : ∃ x xs, bs' = x :: xs := by
        match bs' with
        | [] => simp at h8
        | x :: xs => exact ⟨x, xs, rfl⟩
      have hs63 : s ≤ 63 := by omega
      have hlen : (x :: xs).length = xs.length + 1 := rfl
      obtain ⟨b0, off0, c0, e0, _, _, hcell⟩ := hx.at (by omega)
      cases e0
      have hx7 := x.toNat_lt
      have hor : bitw .or .u64 ((v : Nat) : Int) ((x.toNat % 128 * 2 ^ s % 2 ^ 64 : Nat) : Int) = ((v + x.toNat % 128 * 2 ^ s % 2 ^ 64 : Nat) : Int) := by
        rw [bitw_or (k := .u64) rfl v (x.toNat % 128 * 2 ^ s % 2 ^ 64) hv (Nat.mod_lt _ (Nat.two_pow_pos 64)), or_add hvs hs63]
      have hshr : ((v + x.toNat % 128 * 2 ^ s % 2 ^ 64 : Nat) : Int).fdiv (2 ^ (min ((s : Nat) : Int).toNat IntKind.u64.bits)) = (((v + x.toNat % 128 * 2 ^ s % 2 ^ 64) / 2 ^ s : Nat) : Int) := by
        rw [fdiv_nat, Nat.min_eq_left (by show s ≤ 64; omega)]
      have hnov := no_ovf (p := x.toNat % 128) hvs hs63
      refine op_run (r_load rfl rfl rfl (hB.cell rfl)) rfl ?_
      refine op_run (r_idxS1 rfl rfl rfl rfl (by omega) (by omega)) rfl ?_
      refine op_run (r_load rfl rfl rfl (hcell 0 _ rfl)) rfl ?_
      refine o_ast rfl ?_
      refine ops_nil ?_
      refine W_seq ?_
      refine W_region ?_
      refine o_mvt rfl ?_
      refine o_mvt rfl ?_
      refine op_run (r_nilCheck rfl) rfl ?_
      refine op_run (r_fieldAddr rfl rfl rfl rfl rfl) rfl ?_
      refine op_run (r_load rfl rfl rfl (hB.cell rfl)) rfl ?_
      refine op_run (r_sliceS_lo rfl rfl rfl rfl (by omega) (by omega)) rfl ?_
      refine op_run (r_nilCheck rfl) rfl ?_
      refine op_run (r_fieldAddr rfl rfl rfl rfl rfl) rfl ?_
      refine o_store (v := subSl (some ⟨b0, off0, none⟩) 1 1 (x :: xs).length c) rfl rfl rfl rfl hB (by exact Nat.zero_lt_succ _) rfl ?_; intro w16 hB16 hk16 hs16
      have hne : InB (· ≠ b) (.slice (some ⟨b0, off0, none⟩) (x :: xs).length c) := fun k hk e => hAb (by have := hIA k hk; rwa [e] at this)
      have hx16 : By w16 (subSl (some ⟨b0, off0, none⟩) 1 1 (x :: xs).length c) xs := by
        have h2 := hx.sub (l := 1) (h := (x :: xs).length) (m := c) (by omega) (Nat.le_refl _) (by omega) (by omega)
        rw [List.take_length, List.drop_one, List.tail_cons] at h2
        exact h2.keep hk16 (InB.sub hne)
      have hin : InC w16 b A xs bad := ⟨_, hB16, hx16, hIA.sub⟩
      have hk16' := hk1.trans hk16
      refine ops_nil ?_
      refine W_seq ?_
      refine W_region ?_
      refine o_mvt rfl ?_
      refine op_run ((r_andNot rfl rfl).val (congrArg (Value.int .u8) (lo7 x))) rfl ?_
      refine op_run ((r_conv rfl rfl rfl).val (congrArg (Value.int .u64) (wrap_nat rfl _ (by show _ < 2 ^ 64; omega)))) rfl ?_
      refine o_ast rfl ?_
      refine ops_nil ?_
      refine W_seq ?_
      refine W_region ?_
      refine o_mvt rfl ?_
      refine o_mvt rfl ?_
      refine o_mvt rfl ?_
      refine op_run ((r_shl rfl rfl (by omega)).val (congrArg (Value.int .u64) (shl_val _ s hs63))) rfl ?_
      refine op_run ((r_or rfl rfl).val (congrArg (Value.int .u64) hor)) rfl ?_
      refine o_ast rfl ?_
      refine ops_nil ?_
      refine W_seq ?_
      refine W_region ?_
      refine o_mvt rfl ?_
      refine op_run (r_lss rfl rfl) rfl ?_
      refine o_ast rfl ?_
      refine ops_nil ?_
      refine W_block ?_
      refine W_seq ?_
      refine W_seq ?_
      refine W_region ?_
      refine o_mvt rfl ?_
      refine o_mvt rfl ?_
      refine op_run ((r_shr rfl rfl (by omega)).val (congrArg (Value.int .u64) (hshr))) rfl ?_
      refine o_mvt rfl ?_
      refine op_run (r_neq rfl rfl) rfl ?_
      refine o_ast rfl ?_
      refine ops_nil ?_
      refine W_cond_p rfl (fun h19 => ?_) (fun h19 => ?_)
      · refine W_skip ?_
        refine W_yes rfl ((decide_eq_true h19)) ?_
        refine W_seq ?_
        refine W_region ?_
        refine o_mvt rfl ?_
        refine op_call rfl rfl rfl (in_fail _ b _ _ hB16) ?_; rintro v21 w21 ⟨hB21, hk21⟩
        refine ops_nil ?_
        refine W_seq ?_
        refine W_region ?_
        refine o_asc rfl ?_
        refine ops_nil ?_
        refine W_ret ?_
        refine ret1 (.int .u64 0) rfl ?_ ?_; rfl
        have hov : ¬ v + x.toNat % 128 * 2 ^ s < 2 ^ 64 := fun hh => h19 (by have := hnov.2 hh; omega)
        have hd : decN most 0 0 bs = none := by rw [hdec, decN_cons, if_pos (.inr (.inl (by omega)))]
        rw [numR_none hd]
        exact ⟨rfl, InC.failed hB21, hk16'.trans hk21⟩
      · refine W_region ?_
        refine o_mvt rfl ?_
        refine o_mvt rfl ?_
        have hov : v + x.toNat % 128 * 2 ^ s < 2 ^ 64 := hnov.1 (by have := Decidable.not_not.1 h19; omega)
        have hmod : x.toNat % 128 * 2 ^ s % 2 ^ 64 = x.toNat % 128 * 2 ^ s := Nat.mod_eq_of_lt (by omega)
        refine g_split rfl rfl rfl (fun g34 => ?_) (fun g34 => ?_)
        · refine o_mvt (g_yes rfl rfl rfl g34) ?_
          refine op_run (r_eql rfl rfl) (g_yes rfl rfl rfl g34) ?_
          refine o_pkTt rfl g34 rfl ?_
          refine o_mvt rfl ?_
          refine g_split rfl rfl rfl (fun g35 => ?_) (fun g35 => ?_)
          · refine o_mvt (g_yes rfl rfl rfl g35) ?_
            refine op_run (r_gtr rfl rfl) (g_yes rfl rfl rfl g35) ?_
            refine o_pkTt rfl g35 rfl ?_
            refine o_ast rfl ?_
            refine ops_nil ?_
            refine W_cond_p rfl (fun h36 => ?_) (fun h36 => ?_)
            · refine W_seq ?_
              refine W_region ?_
              refine o_mvt rfl ?_
              refine op_call rfl rfl rfl (in_fail _ b _ _ hB16) ?_; rintro v37 w37 ⟨hB37, hk37⟩
              refine ops_nil ?_
              refine W_seq ?_
              refine W_region ?_
              refine o_asc rfl ?_
              refine ops_nil ?_
              refine W_ret ?_
              refine ret1 (.int .u64 0) rfl ?_ ?_; rfl
              have hd : decN most 0 0 bs = none := by rw [hdec, decN_cons, if_pos (.inr (.inr ⟨by have := of_decide_eq_true g35; omega, by omega⟩))]
              rw [numR_none hd]
              exact ⟨rfl, InC.failed hB37, hk16'.trans hk37⟩
            · refine W_cut [64] [64, 65, 66, 67, 68, 69, 70] (fun vs w39 => vs = [.bool (decide (most < v + x.toNat % 128 * 2 ^ s))] ∧ w39 = w16) ?_ ?_
              · refine W_region ?_
                refine o_mvt rfl ?_
                refine o_mvt rfl ?_
                refine o_mvt (g_yes rfl rfl rfl g34) ?_
                refine o_mvt (g_yes rfl rfl rfl g34) ?_
                refine op_run (r_gtr rfl rfl) (g_yes rfl rfl rfl g34) ?_
                refine o_pkTt rfl g34 rfl ?_
                refine o_ast rfl ?_
                refine ops_nil ?_
                exact ⟨by (repeat (first | with_reducible exact offM_refl _ _ | refine offM_updc rfl ?_ | refine offM_upd rfl ?_ | refine offM_updo rfl ?_ | refine offM_updo_none ?_ | refine offM_head rfl rfl ?_)), congrArg (fun b => [Value.bool b]) (by rw [decide_eq_decide]; omega), rfl⟩
              · rintro J41 vs w41 ⟨rfl, rfl⟩ -
                refine W_cond_p rfl (fun h42 => ?_) (fun h42 => ?_)
                · refine W_seq ?_
                  refine W_region ?_
                  refine o_mvt rfl ?_
                  refine op_call rfl rfl rfl (in_fail _ b _ _ hB16) ?_; rintro v43 w43 ⟨hB43, hk43⟩
                  refine ops_nil ?_
                  refine W_seq ?_
                  refine W_region ?_
                  refine o_asc rfl ?_
                  refine ops_nil ?_
                  refine W_ret ?_
                  refine ret1 (.int .u64 0) rfl ?_ ?_; rfl
                  have hd : decN most 0 0 bs = none := by
                    rw [hdec, decN_cons, if_neg (by rintro (h1 | h1 | h1) <;> omega), if_neg (by have := of_decide_eq_true g34; omega), if_pos h42]
                  rw [numR_none hd]
                  exact ⟨rfl, InC.failed hB43, hk16'.trans hk43⟩
                · refine W_seq ?_
                  refine W_region ?_
                  refine o_mvt rfl ?_
                  refine o_ast rfl ?_
                  refine ops_nil ?_
                  refine W_yes rfl g34 ?_
                  refine W_seq ?_
                  refine W_region ?_
                  refine o_mvt rfl ?_
                  refine o_ast rfl ?_
                  refine ops_nil ?_
                  refine W_ret ?_
                  refine ret1 (.int .u64 (v + x.toNat % 128 * 2 ^ s % 2 ^ 64 : Nat)) rfl ?_ ?_; rfl
                  have hd : decN most 0 0 bs = some (v + x.toNat % 128 * 2 ^ s, xs) := by
                    rw [hdec, decN_cons, if_neg (by rintro (h1 | h1 | h1) <;> omega), if_neg (by have := of_decide_eq_true g34; omega), if_neg h42]
                  rw [numR_some hd]
                  exact ⟨by rw [hmod], hin, hk16'⟩
          · refine op_skip (g_no rfl rfl rfl g35) ?_
            refine op_skip (g_no rfl rfl rfl g35) ?_
            refine o_pkFc rfl g35 rfl ?_
            refine o_ast rfl ?_
            refine ops_nil ?_
            refine W_no rfl rfl ?_
            refine W_cut [64] [64, 65, 66, 67, 68, 69, 70] (fun vs w46 => vs = [.bool (decide (most < v + x.toNat % 128 * 2 ^ s))] ∧ w46 = w16) ?_ ?_
            · refine W_region ?_
              refine o_mvt rfl ?_
              refine o_mvt rfl ?_
              refine o_mvt (g_yes rfl rfl rfl g34) ?_
              refine o_mvt (g_yes rfl rfl rfl g34) ?_
              refine op_run (r_gtr rfl rfl) (g_yes rfl rfl rfl g34) ?_
              refine o_pkTt rfl g34 rfl ?_
              refine o_ast rfl ?_
              refine ops_nil ?_
              exact ⟨by (repeat (first | with_reducible exact offM_refl _ _ | refine offM_updc rfl ?_ | refine offM_upd rfl ?_ | refine offM_updo rfl ?_ | refine offM_updo_none ?_ | refine offM_head rfl rfl ?_)), congrArg (fun b => [Value.bool b]) (by rw [decide_eq_decide]; omega), rfl⟩
            · rintro J48 vs w48 ⟨rfl, rfl⟩ -
              refine W_cond_p rfl (fun h49 => ?_) (fun h49 => ?_)
              · refine W_seq ?_
                refine W_region ?_
                refine o_mvt rfl ?_
                refine op_call rfl rfl rfl (in_fail _ b _ _ hB16) ?_; rintro v50 w50 ⟨hB50, hk50⟩
                refine ops_nil ?_
                refine W_seq ?_
                refine W_region ?_
                refine o_asc rfl ?_
                refine ops_nil ?_
                refine W_ret ?_
                refine ret1 (.int .u64 0) rfl ?_ ?_; rfl
                have hd : decN most 0 0 bs = none := by
                  rw [hdec, decN_cons, if_neg (by have hg := of_decide_eq_false g35; rintro (h1 | h1 | h1) <;> omega), if_neg (by have := of_decide_eq_true g34; omega), if_pos h49]
                rw [numR_none hd]
                exact ⟨rfl, InC.failed hB50, hk16'.trans hk50⟩
              · refine W_seq ?_
                refine W_region ?_
                refine o_mvt rfl ?_
                refine o_ast rfl ?_
                refine ops_nil ?_
                refine W_yes rfl g34 ?_
                refine W_seq ?_
                refine W_region ?_
                refine o_mvt rfl ?_
                refine o_ast rfl ?_
                refine ops_nil ?_
                refine W_ret ?_
                refine ret1 (.int .u64 (v + x.toNat % 128 * 2 ^ s % 2 ^ 64 : Nat)) rfl ?_ ?_; rfl
                have hd : decN most 0 0 bs = some (v + x.toNat % 128 * 2 ^ s, xs) := by
                  rw [hdec, decN_cons, if_neg (by have hg := of_decide_eq_false g35; rintro (h1 | h1 | h1) <;> omega), if_neg (by have := of_decide_eq_true g34; omega), if_neg h49]
                rw [numR_some hd]
                exact ⟨by rw [hmod], hin, hk16'⟩
        · refine op_skip (g_no rfl rfl rfl g34) ?_
          refine op_skip (g_no rfl rfl rfl g34) ?_
          refine o_pkFc rfl g34 rfl ?_
          refine o_mvt rfl ?_
          refine op_skip (g_no rfl rfl rfl rfl) ?_
          refine op_skip (g_no rfl rfl rfl rfl) ?_
          refine o_pkFc rfl rfl rfl ?_
          refine o_ast rfl ?_
          refine ops_nil ?_
          refine W_no rfl rfl ?_
          refine W_cut [64] [64, 65, 66, 67, 68, 69, 70] (fun vs w53 => vs = [.bool false] ∧ w53 = w16) ?_ ?_
          · refine W_region ?_
            refine o_mvt rfl ?_
            refine o_mvt rfl ?_
            refine op_skip (g_no rfl rfl rfl g34) ?_
            refine op_skip (g_no rfl rfl rfl g34) ?_
            refine op_skip (g_no rfl rfl rfl g34) ?_
            refine o_pkFc rfl g34 rfl ?_
            refine o_ast rfl ?_
            refine ops_nil ?_
            exact ⟨by (repeat (first | with_reducible exact offM_refl _ _ | refine offM_updc rfl ?_ | refine offM_upd rfl ?_ | refine offM_updo rfl ?_ | refine offM_updo_none ?_ | refine offM_head rfl rfl ?_)), rfl, rfl⟩
          · rintro J55 vs w55 ⟨rfl, rfl⟩ -
            refine W_no rfl (rfl) ?_
            refine W_seq ?_
            refine W_region ?_
            refine o_mvt rfl ?_
            refine o_ast rfl ?_
            refine ops_nil ?_
            refine W_no rfl g34 ?_
            refine W_skip ?_
            refine W_region ?_
            refine o_mvt rfl ?_
            refine op_run (r_add rfl rfl) rfl ?_
            refine o_ast rfl ?_
            refine ops_nil ?_
            refine ⟨by (repeat (first | with_reducible exact offM_refl _ _ | refine offM_updc rfl ?_ | refine offM_upd rfl ?_ | refine offM_updo rfl ?_ | refine offM_updo_none ?_ | refine offM_head rfl rfl ?_)), ⟨s + 7, v + x.toNat % 128 * 2 ^ s, xs, ?_, hov, ?_, by omega, hin, ?_, hk16'⟩, ?_⟩
            · refine (show _ = [Value.int .u64 ((v + x.toNat % 128 * 2 ^ s % 2 ^ 64 : Nat) : Int), Value.int .i64 (IntKind.i64.wrap ((s : Int) + 7))] from rfl).trans ?_
              rw [hmod, inc7 s (by omega)]
            · have h1 : (x.toNat % 128 + 1) * 2 ^ s ≤ 128 * 2 ^ s := Nat.mul_le_mul_right _ (by omega)
              rw [Nat.add_mul, Nat.one_mul] at h1
              rw [Nat.pow_add]; omega
            · rw [hdec, decN_cons, if_neg (by have := of_decide_eq_false g34; rintro (h1 | h1 | h1) <;> omega), if_pos (by have := of_decide_eq_false g34; omega)]
            · show 80 - (IntKind.i64.wrap ((s : Int) + 7)).toNat < 80 - (s : Int).toNat
              rw [inc7 s (by omega)]; omega
theorem decN_le : ∀ (bs : List UInt8) (most s v n : Nat) (r : List UInt8), decN most s v bs = some (n, r) → n ≤ most
  | [], _, _, _, _, _, h => by cases h
  | x :: xs, most, s, v, n, r, h => by
    rw [decN_cons] at h
    split at h
    · cases h
    · split at h
      · exact decN_le xs _ _ _ _ _ h
      · split at h
        · cases h
        · cases h; omega
theorem numR_le (most : Nat) (bs : List UInt8) (bad : Bool) : (numR most bs bad).1 ≤ most := by
  cases h : decN most 0 0 bs with
  | none => rw [numR_none h]; exact Nat.zero_le _
  | some p => obtain ⟨v, r⟩ := p; rw [numR_some h]; exact decN_le _ _ _ _ _ _ h
theorem conv_i64 (n : Nat) (h : n < 2 ^ 63) : IntKind.i64.wrap ((n : Nat) : Int) = (n : Int) := wrap_i64 (by omega) (by omega)

theorem in_Bytes (w : World) (b : Nat) (A : Nat → Prop) (bs : List UInt8) (bad : Bool) (most : Nat) (hm : most < 2 ^ 63) (hAb : ¬ A b) (h : InC w b A bs bad) :
    Ret Try.prog 60 [.pointer (some ⟨b, 0, none⟩), .int .i64 most].toArray w fun r w' =>
      if (numR most bs bad).2.2 = true ∨ (numR most bs bad).2.1.length < (numR most bs bad).1 then r = .slice none 0 0 ∧ InC w' b A [] true ∧ Keep (· ≠ b) w w'
      else By w' r ((numR most bs bad).2.1.take (numR most bs bad).1) ∧ InB A r ∧ InC w' b A ((numR most bs bad).2.1.drop (numR most bs bad).1) (numR most bs bad).2.2 ∧ Keep (· ≠ b) w w' := by
  have hle := numR_le most bs bad
  have hmx : (if (0 : Int) > (most : Int) then (0 : Int) else (most : Int)) = (most : Int) := by split <;> omega
  refine enter (fn := Try.f60) (n := 19) Try.func60 rfl rfl (by simp) ?_
  refine W_seq ?_
  refine W_region ?_
  refine o_asc rfl ?_
  refine ops_nil ?_
  refine W_seq ?_
  refine W_region ?_
  refine o_mvt rfl ?_
  refine o_mvt rfl ?_
  refine op_run ((r_max rfl rfl).val (congrArg (Value.int .i64) hmx)) rfl ?_
  refine op_run ((r_conv rfl rfl rfl).val (congrArg (Value.int .u64) (wrap_nat rfl _ (by show _ < 2 ^ 64; omega)))) rfl ?_
  refine op_call rfl rfl rfl (in_Number w b A bs bad most hAb h) ?_; rintro v1 w1 ⟨rfl, hin, hk1⟩
  refine o_ast rfl ?_
  refine ops_nil ?_
  refine W_seq ?_
  refine W_seq ?_
  refine W_region ?_
  refine o_mvt rfl ?_
  refine op_run (r_lss rfl rfl) rfl ?_
  refine ops_nil ?_
  refine W_no rfl ((decide_eq_false (by omega))) ?_
  refine W_skip ?_
  refine W_seq ?_
  refine W_region ?_
  refine o_mvt rfl ?_
  refine o_mvt rfl ?_
  refine op_run ((r_conv rfl rfl rfl).val (congrArg (Value.int .i64) (conv_i64 _ (by omega)))) rfl ?_
  refine op_call rfl rfl rfl (in_take _ b A _ _ (numR most bs bad).1 (by omega) hAb hin) ?_; rintro v6 w6 h7
  refine o_ast rfl ?_
  refine ops_nil ?_
  refine W_ret ?_
  refine ret1 v6 rfl ?_ ?_; rfl
  split at h7 <;> rename_i hc
  · rw [if_pos hc]; exact ⟨h7.1, h7.2.1, hk1.trans h7.2.2⟩
  · rw [if_neg hc]; exact ⟨h7.1, h7.2.1, h7.2.2.1, hk1.trans h7.2.2.2⟩
end Go.Proofs.Ytkmciohghhffnaa.B
/-! Numbers read back: what is put is read. -/
namespace Go.Proofs.Ytkmciohghhffnaa.B
open Go
set_option linter.unusedVariables false
set_option maxHeartbeats 2000000
set_option maxRecDepth 100000
attribute [local irreducible] W OpsW OpsQ retP
theorem decN_encN : ∀ (y most s a : Nat) (r : List UInt8), a < 2 ^ s → a + y * 2 ^ s < 2 ^ 64 → a + y * 2 ^ s ≤ most → (s = 0 ∨ 0 < y) → decN most s a (encN y ++ r) = some (a + y * 2 ^ s, r) := by
  intro y
  induction y using Nat.strongRecOn with
  | ind y ih =>
    intro most s a r ha hv hm hs
    have hs63 : ¬ 63 < s := by
      intro h
      rcases hs with h0 | h0
      · omega
      · have h1 : 2 ^ 64 ≤ 2 ^ s := Nat.pow_le_pow_right (by omega) h
        have h2 : 1 * 2 ^ s ≤ y * 2 ^ s := Nat.mul_le_mul_right _ h0
        omega
    by_cases h1 : y < 128
    · rw [encN_last h1, List.singleton_append, decN_cons]
      have e : y.toUInt8.toNat = y := by simp; omega
      rw [e, Nat.mod_eq_of_lt h1, if_neg (by rintro (h | h | h) <;> omega), if_neg (by omega), if_neg (by omega)]
    · rw [encN_more (by omega), List.cons_append, decN_cons]
      have e : (y % 128 + 128).toUInt8.toNat = y % 128 + 128 := by simp; omega
      have e2 : (y % 128 + 128) % 128 = y % 128 := by omega
      have hsplit : y * 2 ^ s = y % 128 * 2 ^ s + y / 128 * 2 ^ (s + 7) := by
        rw [Nat.pow_add, show y / 128 * (2 ^ s * 2 ^ 7) = (128 * (y / 128)) * 2 ^ s by rw [Nat.mul_comm (2 ^ s), ← Nat.mul_assoc, Nat.mul_comm (y / 128)], ← Nat.add_mul, Nat.mod_add_div]
      have hlt : a + y % 128 * 2 ^ s < 2 ^ (s + 7) := by
        have h2 : (y % 128 + 1) * 2 ^ s ≤ 128 * 2 ^ s := Nat.mul_le_mul_right _ (by omega)
        rw [Nat.add_mul, Nat.one_mul] at h2
        rw [Nat.pow_add]; omega
      rw [e, e2, if_neg (by rintro (h | h | h) <;> omega), if_pos (by omega)]
      rw [ih (y / 128) (by omega) most (s + 7) _ r hlt (by omega) (by omega) (.inr (by omega))]
      congr 2; omega
theorem decN_short : ∀ (y most s a k : Nat), k < (encN y).length → decN most s a ((encN y).take k) = none := by
  intro y
  induction y using Nat.strongRecOn with
  | ind y ih =>
    intro most s a k hk
    cases k with
    | zero => rfl
    | succ k =>
      by_cases h1 : y < 128
      · rw [encN_last h1] at hk; simp at hk
      · rw [encN_more (by omega)] at hk ⊢
        rw [List.take_succ_cons, decN_cons]
        have e : (y % 128 + 128).toUInt8.toNat = y % 128 + 128 := by simp; omega
        rw [e]
        split
        · rfl
        · rw [if_pos (by omega)]
          exact ih (y / 128) (by omega) _ _ _ _ (by simpa using hk)
theorem dec_enc (v most : Nat) (r : List UInt8) (h : v < 2 ^ 64) (hm : v ≤ most) : decN most 0 0 (encN v ++ r) = some (v, r) := by
  have := decN_encN v most 0 0 r (by omega) (by simpa using h) (by simpa using hm) (.inl rfl)
  simpa using this
theorem encN_same {v w : Nat} {r : List UInt8} (hv : v < 2 ^ 64) (hw : w < 2 ^ 64) (h : encN w = encN v ++ r) : w = v := by
  have h1 := dec_enc w (2 ^ 64) [] hw (by omega)
  have h2 := dec_enc v (2 ^ 64) r hv (by omega)
  rw [List.append_nil, h, h2] at h1
  injection h1 with h1; injection h1 with h1 _; exact h1.symm
theorem encN_pre {v w : Nat} (hv : v < 2 ^ 64) (hw : w < 2 ^ 64) : (encN v).take (min (encN v).length (encN w).length) = (encN w).take (min (encN v).length (encN w).length) ↔ v = w := by
  constructor
  · intro h
    rcases Nat.le_total (encN v).length (encN w).length with hl | hl
    · rw [Nat.min_eq_left hl, List.take_length] at h
      have := List.take_append_drop (encN v).length (encN w)
      rw [← h] at this
      exact (encN_same hv hw this.symm).symm
    · rw [Nat.min_eq_right hl, List.take_length] at h
      have := List.take_append_drop (encN w).length (encN v)
      rw [h] at this
      exact encN_same hw hv this.symm
  · rintro rfl; rfl
/-- A number and bytes, whole. -/
theorem read_all (v : Nat) (bs : List UInt8) (hv : v < 2 ^ 64) (hb : bs.length < 2 ^ 64) :
    numR v (encN v ++ encB bs) false = (v, encB bs, false) ∧ numR bs.length (encB bs) false = (bs.length, bs, false) := by
  refine ⟨numR_some (dec_enc v v _ hv (Nat.le_refl _)), numR_some (dec_enc bs.length bs.length bs hb (Nat.le_refl _))⟩
/-- Cut short. -/
theorem read_cut (v k : Nat) (bs : List UInt8) (hv : v < 2 ^ 64) (hb : bs.length < 2 ^ 64) (hk : k < (encN v ++ encB bs).length) :
    let N := numR v ((encN v ++ encB bs).take k) false
    let M := numR bs.length N.2.1 N.2.2
    M.2.2 = true ∨ M.2.1.length < M.1 := by
  by_cases h1 : k < (encN v).length
  · have e : numR v ((encN v ++ encB bs).take k) false = (0, [], true) := numR_none (by rw [List.take_append_of_le_length (by omega)]; exact decN_short _ _ _ _ _ h1)
    simp only [e]
    left; rw [numR_none (by rfl)]
  · have e : numR v ((encN v ++ encB bs).take k) false = (v, (encB bs).take (k - (encN v).length), false) := numR_some (by
      rw [List.take_append, List.take_of_length_le (by omega)]; exact dec_enc v v _ hv (Nat.le_refl _))
    simp only [e]
    rw [List.length_append] at hk
    unfold encB at hk ⊢
    rw [List.length_append] at hk
    by_cases h2 : k - (encN v).length < (encN bs.length).length
    · left; rw [numR_none (by rw [List.take_append_of_le_length (by omega)]; exact decN_short _ _ _ _ _ h2)]
    · right
      rw [numR_some (by rw [List.take_append, List.take_of_length_le (by omega)]; exact dec_enc _ _ _ hb (Nat.le_refl _))]
      simp only [List.length_take]; omega
theorem and_ffff (a : Int) : 0 ≤ bitw .and .i64 a 65535 ∧ bitw .and .i64 a 65535 ≤ 65535 := by
  have h : (BitVec.ofInt IntKind.i64.bits a &&& BitVec.ofInt IntKind.i64.bits 65535).toNat ≤ 65535 := by
    rw [BitVec.toNat_and]
    exact Nat.and_le_right
  show 0 ≤ IntKind.i64.wrap ((BitVec.ofInt IntKind.i64.bits a &&& BitVec.ofInt IntKind.i64.bits 65535).toNat : Int) ∧ IntKind.i64.wrap ((BitVec.ofInt IntKind.i64.bits a &&& BitVec.ofInt IntKind.i64.bits 65535).toNat : Int) ≤ 65535
  rw [wrap_i64 (by omega) (by omega)]; omega
theorem in_Bytes_ok {w : World} {b : Nat} {A : Nat → Prop} {bs xs : List UInt8} {bad bad' : Bool} {most : Nat} {n : Nat} (hm : most < 2 ^ 63) (hAb : ¬ A b) (h : InC w b A bs bad) (hN : numR most bs bad = (n, xs, bad')) (hb : bad' = false) (hn : n ≤ xs.length) :
    Ret Try.prog 60 [.pointer (some ⟨b, 0, none⟩), .int .i64 most].toArray w fun r w' => By w' r (xs.take n) ∧ InB A r ∧ InC w' b A (xs.drop n) false ∧ Keep (· ≠ b) w w' := by
  have h1 := in_Bytes w b A bs bad most hm hAb h
  rw [hN] at h1
  subst hb
  refine Calls.mono h1 fun e w' ⟨u, he, hu⟩ => ⟨u, he, ?_⟩
  dsimp only at hu
  rw [if_neg (by simp; omega)] at hu
  exact hu
theorem in_Bytes_bad {w : World} {b : Nat} {A : Nat → Prop} {bs : List UInt8} {bad : Bool} {most : Nat} (hm : most < 2 ^ 63) (hAb : ¬ A b) (h : InC w b A bs bad) (hN : (numR most bs bad).2.2 = true ∨ (numR most bs bad).2.1.length < (numR most bs bad).1) :
    Ret Try.prog 60 [.pointer (some ⟨b, 0, none⟩), .int .i64 most].toArray w fun r w' => r = .slice none 0 0 ∧ InC w' b A [] true ∧ Keep (· ≠ b) w w' := by
  refine Calls.mono (in_Bytes w b A bs bad most hm hAb h) fun e w' ⟨u, he, hu⟩ => ⟨u, he, ?_⟩
  dsimp only at hu
  rw [if_pos hN] at hu
  exact hu
theorem in_Number_ok {w : World} {b : Nat} {A : Nat → Prop} {bs xs : List UInt8} {bad bad' : Bool} {most n : Nat} (hAb : ¬ A b) (h : InC w b A bs bad) (hN : numR most bs bad = (n, xs, bad')) :
    Ret Try.prog 35 [.pointer (some ⟨b, 0, none⟩), .int .u64 most].toArray w fun r w' => r = .int .u64 n ∧ InC w' b A xs bad' ∧ Keep (· ≠ b) w w' := by
  have h1 := in_Number w b A bs bad most hAb h
  rwa [hN] at h1

end Go.Proofs.Ytkmciohghhffnaa.B
