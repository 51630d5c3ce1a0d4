/-
  pack.Number walks to the bytes of a number.
-/
import Derived.Test.YtkmciohghhffnaaTy64
import Derived.Test.YtkmciohghhffnaaHeld
namespace Go.Proofs.Ytkmciohghhffnaa.B
open Go
set_option linter.unusedVariables false
set_option maxHeartbeats 2000000
set_option maxRecDepth 100000
attribute [local irreducible] W OpsW OpsQ retP
def encN (v : Nat) : List UInt8 := if v < 128 then [v.toUInt8] else (v % 128 + 128).toUInt8 :: encN (v / 128)
termination_by v
decreasing_by omega
theorem or128 : ∀ z : Fin 256, z.val ||| 128 = z.val % 128 + 128 := by decide +kernel
theorem c8_more (y : Nat) : Value.int .u8 (bitw .or .u8 (IntKind.u8.wrap y) 128) = c8 (y % 128 + 128).toUInt8 := by
  unfold c8
  rw [wrap_u8, show ((y : Int) % 256) = ((y % 256 : Nat) : Int) by omega, show (128 : Int) = ((128 : Nat) : Int) from rfl, bitw_or rfl _ _ (by simp [IntKind.bits]; omega) (by decide)]
  have h := or128 ⟨y % 256, by omega⟩
  simp only at h
  rw [h]; simp; omega
theorem c8_last (y : Nat) : Value.int .u8 (IntKind.u8.wrap y) = c8 y.toUInt8 := by
  unfold c8; simp [wrap_u8]
theorem encN_more {v : Nat} (h : 128 ≤ v) : encN v = (v % 128 + 128).toUInt8 :: encN (v / 128) := by rw [encN, if_neg (by omega)]
theorem encN_last {v : Nat} (h : v < 128) : encN v = [v.toUInt8] := by rw [encN, if_pos h]

theorem encN_len (k : Nat) : ∀ v, v < 128 ^ (k + 1) → (encN v).length ≤ k + 1 := by
  induction k with
  | zero => intro v hv; rw [encN_last (by simpa using hv)]; simp
  | succ k ih =>
    intro v hv
    by_cases h : v < 128
    · rw [encN_last h]; simp
    · rw [encN_more (by omega)]
      have := ih (v / 128) (by rw [Nat.pow_succ] at hv; exact Nat.div_lt_of_lt_mul (by rw [Nat.mul_comm]; exact hv))
      simp; omega
theorem encN_len10 {v : Nat} (h : v < 2 ^ 64) : (encN v).length ≤ 10 := encN_len 9 v (Nat.lt_trans h (by decide))
theorem encN_pos (v : Nat) : 0 < (encN v).length := by
  rw [encN]; split <;> simp
theorem shr7 (y : Nat) : (y : Int).fdiv (2 ^ (min (7 : Int).toNat IntKind.u64.bits)) = ((y / 128 : Nat) : Int) := fdiv_nat y 7 64

theorem pack_Number (w : World) (v : Value) (xs : List UInt8) (x : Nat) (hx : x < 2 ^ 64) (hown : OwnB w 5 v xs) (hlen : xs.length + 10 ≤ 2 ^ 40) :
    Ret Try.prog 47 [v, .int .u64 x].toArray w fun r w' => OwnB w' 5 r (xs ++ encN x) ∧ Keep (fun b => some b ≠ v.ownBlock) w w' ∧ InB (fun b => v.ownBlock = some b ∨ w.heap.size ≤ b) r := by
  refine enter (fn := Try.f47) (n := 20) Try.func47 rfl rfl (by simp) ?_
  refine W_seq ?_
  refine W_region ?_
  refine o_asc rfl ?_
  refine ops_nil ?_
  refine W_seq ?_
  refine W_block ?_
  refine W_loop [0, 1] [0, 1, 5, 6, 7, 8, 9, 10, 11, 12, 13, 14] (fun vs w1 => ∃ (u : Value) (ys : List UInt8) (y : Nat), vs = [u, .int .u64 y] ∧ y < 2 ^ 64 ∧ xs ++ encN x = ys ++ encN y ∧ OwnB w1 5 u ys ∧ Keep (fun b => some b ≠ v.ownBlock) w w1 ∧ InB (fun b => v.ownBlock = some b ∨ w.heap.size ≤ b) u) (fun vs _ => match vs with | [_, .int _ y] => y.toNat | _ => 0) ⟨v, xs, x, rfl, hx, rfl, hown, Keep.refl _, fun b hb => .inl hb⟩ ?_
  rintro J vs w1 ⟨u, ys, y, rfl, hy, heq, hown1, hk1, hb1⟩ -
  have hyl := congrArg List.length heq
  have hex := encN_len10 hx
  have hep := encN_pos y
  simp only [List.length_append] at hyl
  refine W_seq ?_
  refine W_seq ?_
  refine W_region ?_
  refine o_mvt rfl ?_
  refine op_run (r_geq rfl rfl) rfl ?_
  refine ops_nil ?_
  refine W_cond_p rfl (fun h2 => ?_) (fun h2 => ?_)
  · refine W_skip ?_
    refine W_block ?_
    refine W_seq ?_
    refine W_region ?_
    refine o_mvt rfl ?_
    refine o_mvt rfl ?_
    refine op_run (r_conv rfl rfl rfl) rfl ?_
    refine op_run (r_or rfl rfl) rfl ?_
    refine o_bs1 (v := c8 (y % 128 + 128).toUInt8) (.trans rfl (c8_more y)) rfl rfl rfl rfl rfl ?_; intro w3 b3 e3 hB3 hk3 hs3
    refine o_app1 (v := u) rfl rfl hB3 rfl rfl ti_u8 rfl (hown1.keep hk3 (fun _ _ => trivial)) (by unfold maxLen; omega) (by omega) rfl ?_; intro v4 w4 hown4 hk4 hb4
    refine o_ast rfl ?_
    refine ops_nil ?_
    refine W_region ?_
    refine o_mvt rfl ?_
    refine op_run (r_shr rfl rfl (by decide)) rfl ?_
    refine o_ast rfl ?_
    refine ops_nil ?_
    refine ⟨by (repeat (first | with_reducible exact offM_refl _ _ | refine offM_updc rfl ?_ | refine offM_upd rfl ?_ | refine offM_updo rfl ?_ | refine offM_updo_none ?_ | refine offM_head rfl rfl ?_)), ⟨v4, ys ++ [(y % 128 + 128).toUInt8], y / 128, ?_, by omega, ?_, ?_, ?_, ?_⟩, ?_⟩
    · rw [← shr7]; rfl
    · rw [heq, encN_more (by omega)]; simp
    · exact OwnB.snoc hown4
    · exact (hk1.trans hk3.all).own hk4 (fun b hb hA => (hb1 b hb).resolve_left (fun e => hA e.symm))
    · intro b hb
      rcases hb4 b hb with h1 | h1
      · exact hb1 b h1
      · have := hk1.size; have := hk3.size; exact .inr (by omega)
    · show ((y : Int).fdiv (2 ^ (min (7 : Int).toNat IntKind.u64.bits))).toNat < (y : Int).toNat
      rw [shr7]; omega
  · refine W_exit ?_
    refine W_seq ?_
    refine W_region ?_
    refine o_mvt rfl ?_
    refine o_mvt rfl ?_
    refine op_run (r_conv rfl rfl rfl) rfl ?_
    refine o_bs1 (v := c8 y.toUInt8) (.trans rfl (c8_last y)) rfl rfl rfl rfl rfl ?_; intro w6 b6 e6 hB6 hk6 hs6
    refine o_app1 (v := u) rfl rfl hB6 rfl rfl ti_u8 rfl (hown1.keep hk6 (fun _ _ => trivial)) (by unfold maxLen; omega) (by omega) rfl ?_; intro v7 w7 hown7 hk7 hb7
    refine o_ast rfl ?_
    refine ops_nil ?_
    refine W_ret ?_
    refine ret1 v7 rfl ?_ ?_; rfl
    refine ⟨?_, (hk1.trans hk6.all).own hk7 (fun b hb hA => (hb1 b hb).resolve_left (fun e => hA e.symm)), ?_⟩
    · rw [heq, encN_last (by omega)]; exact OwnB.snoc hown7
    · intro b hb
      rcases hb7 b hb with h1 | h1
      · exact hb1 b h1
      · have := hk1.size; have := hk6.size; exact .inr (by omega)

theorem ref01_Same (w : World) (va vb : Value) (xs ys : List UInt8) (hx : By w va xs) (hy : By w vb ys) :
    Ret Try.prog 13 [va, vb].toArray w fun r w' => r = .bool (decide (xs = ys)) ∧ Keep All w w' := by
  have hxl := hx.len_le
  have hyl := hy.len_le
  obtain ⟨a, ca, rfl, _⟩ := hx.form
  obtain ⟨b, cb, rfl, _⟩ := hy.form
  refine enter (fn := Try.f13) (n := 26) Try.func13 rfl rfl (by simp) ?_
  refine W_seq ?_
  refine W_region ?_
  refine o_asc rfl ?_
  refine ops_nil ?_
  refine W_seq ?_
  refine W_seq ?_
  refine W_region ?_
  refine o_mvt rfl ?_
  refine op_run (r_len rfl rfl rfl) rfl ?_
  refine o_mvt rfl ?_
  refine op_run (r_len rfl rfl rfl) rfl ?_
  refine op_run (r_neq rfl rfl) rfl ?_
  refine ops_nil ?_
  refine W_cond_p rfl (fun h1 => ?_) (fun h1 => ?_)
  · refine W_seq ?_
    refine W_region ?_
    refine o_asc rfl ?_
    refine ops_nil ?_
    refine W_ret ?_
    refine ret1 (.bool false) rfl ?_ ?_; rfl
    exact ⟨by rw [decide_eq_false]; intro e; subst e; exact h1 rfl, Keep.refl _⟩
  · refine W_skip ?_
    refine W_seq ?_
    refine W_seq ?_
    refine W_region ?_
    refine o_asc rfl ?_
    refine ops_nil ?_
    refine W_block ?_
    refine W_loop [5] [4, 5, 11, 12, 13, 14, 15, 16, 17, 18, 19, 20, 21, 22, 23, 24, 25] (fun vs w1 => ∃ k : Nat, vs = [.int .i64 k] ∧ k ≤ xs.length ∧ xs.take k = ys.take k ∧ Keep All w w1) (fun vs _ => match vs with | [.int _ y] => xs.length - y.toNat | _ => 0) ⟨0, rfl, Nat.zero_le _, by simp, Keep.refl _⟩ ?_
    rintro J vs w1 ⟨k, rfl, hk, htk, hk1⟩ -
    have hlen : xs.length = ys.length := by simp only [Decidable.not_not] at h1; omega
    refine W_seq ?_
    refine W_seq ?_
    refine W_region ?_
    refine o_mvt rfl ?_
    refine o_mvt rfl ?_
    refine op_run (r_len rfl rfl rfl) rfl ?_
    refine op_run (r_lss rfl rfl) rfl ?_
    refine ops_nil ?_
    refine W_cond_p rfl (fun h4 => ?_) (fun h4 => ?_)
    · refine W_skip ?_
      refine W_seq ?_
      refine W_block ?_
      refine W_seq ?_
      obtain ⟨ba, offa, ca', ea, _, _, hca⟩ := hx.at (by omega)
      obtain ⟨bb, offb, cb', eb, _, _, hcb⟩ := hy.at (by omega)
      cases ea; cases eb
      have hkx : k < xs.length := by omega
      have hky : k < ys.length := by omega
      refine W_quiet (Keep All w1) (by kernel_rfl) (by kernel_rfl) (Keep.drawn _) ?_
      refine q_mvt rfl ?_
      refine q_mvt rfl ?_
      refine q_run (fun _ _ => r_idxS1 rfl rfl rfl rfl (by omega) (by omega)) rfl ?_
      refine q_run (fun _ hk => r_load rfl rfl rfl (hk.cell (hk1.cell (hca k _ (get_c8 hkx)) trivial) trivial)) rfl ?_
      refine q_mvt rfl ?_
      refine q_mvt rfl ?_
      refine q_run (fun _ _ => r_idxS1 rfl rfl rfl rfl (by omega) (by omega)) rfl ?_
      refine q_run (fun _ hk => r_load rfl rfl rfl (hk.cell (hk1.cell (hcb k _ (get_c8 hky)) trivial) trivial)) rfl ?_
      refine q_run (fun _ _ => (r_neq rfl rfl)) rfl ?_
      refine q_nil ?_; intro w10 hk10
      refine W_cond_p rfl (fun h11 => ?_) (fun h11 => ?_)
      · refine W_seq ?_
        refine W_region ?_
        refine o_asc rfl ?_
        refine ops_nil ?_
        refine W_ret ?_
        refine ret1 (.bool false) rfl ?_ ?_; rfl
        refine ⟨by rw [decide_eq_false]; intro e; subst e; exact h11 rfl, hk1.trans hk10⟩
      · refine W_skip ?_
        refine W_region ?_
        refine o_mvt rfl ?_
        refine op_run (r_add rfl rfl) rfl ?_
        refine o_ast rfl ?_
        refine ops_nil ?_
        have hxy : xs[k] = ys[k] := by
          simp only [Decidable.not_not] at h11
          exact UInt8.toNat_inj.1 (by exact_mod_cast h11)
        refine ⟨by (repeat (first | with_reducible exact offM_refl _ _ | refine offM_updc rfl ?_ | refine offM_upd rfl ?_ | refine offM_updo rfl ?_ | refine offM_updo_none ?_ | refine offM_head rfl rfl ?_)), ⟨k + 1, ?_, by omega, ?_, hk1.trans hk10⟩, ?_⟩
        · have e : IntKind.i64.wrap ((k : Int) + 1) = ((k + 1 : Nat) : Int) := by rw [wrap_i64 (by omega) (by omega)]; omega
          rw [← e]; rfl
        · rw [List.take_succ_eq_append_getElem hkx, List.take_succ_eq_append_getElem hky, htk, hxy]
        · have e : IntKind.i64.wrap ((k : Int) + 1) = ((k + 1 : Nat) : Int) := by rw [wrap_i64 (by omega) (by omega)]; omega
          show xs.length - (IntKind.i64.wrap ((k : Int) + 1)).toNat < xs.length - (k : Int).toNat
          rw [e]; omega
    · refine W_exit ?_
      refine W_seq ?_
      refine W_region ?_
      refine o_asc rfl ?_
      refine ops_nil ?_
      refine W_ret ?_
      refine ret1 (.bool true) rfl ?_ ?_; rfl
      have e : k = xs.length := by omega
      subst e
      rw [List.take_length, hlen, List.take_length] at htk
      exact ⟨by rw [decide_eq_true htk], hk1⟩
theorem add128 (y : Nat) : Value.int .u8 (IntKind.u8.wrap (IntKind.u8.wrap ((y : Int).tmod 128) + 128)) = c8 (y % 128 + 128).toUInt8 := by
  unfold c8; rw [wrap_u8, wrap_u8, Int.tmod_eq_emod_of_nonneg (by omega)]; simp
theorem low128 (y : Nat) (h : y < 128) : Value.int .u8 (IntKind.u8.wrap ((y : Int).tmod 128)) = c8 y.toUInt8 := by
  unfold c8; rw [wrap_u8, Int.tmod_eq_emod_of_nonneg (by omega)]; simp; omega
theorem quo128 (y : Nat) (h : y < 2 ^ 64) : IntKind.u64.wrap ((y : Int).tdiv 128) = ((y / 128 : Nat) : Int) := by
  rw [wrap_u64, Int.tdiv_eq_ediv_of_nonneg (by omega)]; omega
theorem inc64 (k : Nat) (h : k < 9223372036854775807) : IntKind.i64.wrap ((k : Int) + 1) = ((k + 1 : Nat) : Int) := by
  rw [wrap_i64 (by omega) (by omega)]; omega

theorem ref01_Number (w : World) (v : Value) (xs : List UInt8) (x : Nat) (hx : x < 2 ^ 64) (hown : OwnB w 5 v xs) (hlen : xs.length + 10 ≤ 2 ^ 40) :
    Ret Try.prog 69 [v, .int .u64 x].toArray w fun r w' => OwnB w' 5 r (xs ++ encN x) ∧ Keep (fun b => some b ≠ v.ownBlock) w w' ∧ InB (fun b => v.ownBlock = some b ∨ w.heap.size ≤ b) r := by
  refine enter (fn := Try.f69) (n := 28) Try.func69 rfl rfl (by simp) ?_
  refine W_seq ?_
  refine W_region ?_
  refine o_asc rfl ?_
  refine ops_nil ?_
  refine W_seq ?_
  refine W_seq ?_
  refine W_region ?_
  refine o_asc rfl ?_
  refine ops_nil ?_
  refine W_block ?_
  refine W_loop [0, 1, 5] [0, 1, 4, 5, 6, 7, 8, 9, 10, 11, 12, 13, 14, 15, 16, 17, 18, 19, 20, 21, 22, 23, 24, 25, 26] (fun vs w1 => ∃ (u : Value) (ys : List UInt8) (y k : Nat), vs = [u, .int .u64 y, .int .i64 k] ∧ y < 2 ^ 64 ∧ k ≤ 10 ∧ y < 128 ^ (10 - k) ∧ (k = 0 ∨ 0 < y) ∧ xs ++ encN x = ys ++ encN y ∧ OwnB w1 5 u ys ∧ Keep (fun b => some b ≠ v.ownBlock) w w1 ∧ InB (fun b => v.ownBlock = some b ∨ w.heap.size ≤ b) u) (fun vs _ => match vs with | [_, _, .int _ k] => 10 - k.toNat | _ => 0) ⟨v, xs, x, 0, rfl, hx, by omega, Nat.lt_trans hx (by decide), .inl rfl, rfl, hown, Keep.refl _, fun b hb => .inl hb⟩ ?_
  rintro J vs w1 ⟨u, ys, y, k, rfl, hy, hk10, hy2, hky, heq, hown1, hk1, hb1⟩ -
  have hyl := congrArg List.length heq
  have hex := encN_len10 hx
  have hep := encN_pos y
  simp only [List.length_append] at hyl
  refine W_seq ?_
  refine W_seq ?_
  refine W_region ?_
  refine o_mvt rfl ?_
  refine op_run (r_lss rfl rfl) rfl ?_
  refine ops_nil ?_
  refine W_cond_p rfl (fun h2 => ?_) (fun h2 => ?_)
  · refine W_skip ?_
    refine W_seq ?_
    refine W_block ?_
    refine W_seq ?_
    refine W_region ?_
    refine o_mvt rfl ?_
    refine op_run (r_rem rfl rfl (by decide)) rfl ?_
    refine op_run (r_conv rfl rfl rfl) rfl ?_
    refine o_ast rfl ?_
    refine ops_nil ?_
    refine W_seq ?_
    refine W_region ?_
    refine o_mvt rfl ?_
    refine op_run (r_quo rfl rfl (by decide)) rfl ?_
    refine o_ast rfl ?_
    refine ops_nil ?_
    refine W_seq ?_
    refine W_seq ?_
    refine W_region ?_
    refine o_mvt rfl ?_
    refine op_run (r_eql rfl rfl) rfl ?_
    refine ops_nil ?_
    have hq := quo128 y hy
    refine W_cond_p rfl (fun h3 => ?_) (fun h3 => ?_)
    all_goals rw [hq] at h3
    · refine W_seq ?_
      refine W_region ?_
      refine o_mvt rfl ?_
      refine o_mvt rfl ?_
      refine o_bs1 (v := c8 y.toUInt8) (.trans rfl (low128 y (by omega))) rfl rfl rfl rfl rfl ?_; intro w4 b4 e4 hB4 hk4 hs4
      refine o_app1 (v := u) rfl rfl hB4 rfl rfl ti_u8 rfl (hown1.keep hk4 (fun _ _ => trivial)) (by unfold maxLen; omega) (by omega) rfl ?_; intro v5 w5 hown5 hk5 hb5
      refine o_ast rfl ?_
      refine ops_nil ?_
      refine W_ret ?_
      refine ret1 v5 rfl ?_ ?_; rfl
      refine ⟨?_, (hk1.trans hk4.all).own hk5 (fun b hb hA => (hb1 b hb).resolve_left (fun e => hA e.symm)), ?_⟩
      · rw [heq, encN_last (by omega)]; exact OwnB.snoc hown5
      · intro b hb
        rcases hb5 b hb with h1 | h1
        · exact hb1 b h1
        · have := hk1.size; have := hk4.size; exact .inr (by omega)
    · refine W_skip ?_
      refine W_region ?_
      refine o_mvt rfl ?_
      refine o_mvt rfl ?_
      refine op_run (r_add rfl rfl) rfl ?_
      refine o_bs1 (v := c8 (y % 128 + 128).toUInt8) (.trans rfl (add128 y)) rfl rfl rfl rfl rfl ?_; intro w7 b7 e7 hB7 hk7 hs7
      refine o_app1 (v := u) rfl rfl hB7 rfl rfl ti_u8 rfl (hown1.keep hk7 (fun _ _ => trivial)) (by unfold maxLen; omega) (by omega) rfl ?_; intro v8 w8 hown8 hk8 hb8
      refine o_ast rfl ?_
      refine ops_nil ?_
      refine W_region ?_
      refine o_mvt rfl ?_
      refine op_run (r_add rfl rfl) rfl ?_
      refine o_ast rfl ?_
      refine ops_nil ?_
      have hinc := inc64 k (by omega)
      refine ⟨by (repeat (first | with_reducible exact offM_refl _ _ | refine offM_updc rfl ?_ | refine offM_upd rfl ?_ | refine offM_updo rfl ?_ | refine offM_updo_none ?_ | refine offM_head rfl rfl ?_)), ⟨v8, ys ++ [(y % 128 + 128).toUInt8], y / 128, k + 1, ?_, by omega, by omega, ?_, .inr (by omega), ?_, ?_, ?_, ?_⟩, ?_⟩
      · rw [← hq, ← hinc]; rfl
      · have : 10 - k = (10 - (k + 1)) + 1 := by omega
        rw [this, Nat.pow_succ] at hy2
        exact Nat.div_lt_of_lt_mul (by rw [Nat.mul_comm]; exact hy2)
      · rw [heq, encN_more (by omega)]; simp
      · exact OwnB.snoc hown8
      · exact (hk1.trans hk7.all).own hk8 (fun b hb hA => (hb1 b hb).resolve_left (fun e => hA e.symm))
      · intro b hb
        rcases hb8 b hb with h1 | h1
        · exact hb1 b h1
        · have := hk1.size; have := hk7.size; exact .inr (by omega)
      · show 10 - (IntKind.i64.wrap ((k : Int) + 1)).toNat < 10 - (k : Int).toNat
        rw [hinc]; omega
  · refine W_exit ?_
    refine W_seq ?_
    refine W_region ?_
    refine o_mvt rfl ?_
    refine o_ast rfl ?_
    refine ops_nil ?_
    refine W_ret ?_
    exfalso
    have e : k = 10 := by omega
    subst e
    simp at hy2; omega
    skip

/-- The bytes of bytes. -/
def encB (b : List UInt8) : List UInt8 := encN b.length ++ b
theorem encB_len (b : List UInt8) (h : b.length < 2 ^ 64) : (encB b).length ≤ b.length + 10 := by
  unfold encB; have := encN_len10 h; simp; omega
theorem conv_len (n : Nat) (h : n ≤ 9223372036854775807) : Value.int .u64 (IntKind.u64.wrap (n : Int)) = Value.int .u64 (n : Int) := by rw [wrap_u64]; congr 1; omega

theorem pack_Bytes (w : World) (v vb : Value) (xs bs : List UInt8) (hown : OwnB w 5 v xs) (hbk : ∀ w', Keep (fun b => some b ≠ v.ownBlock) w w' → By w' vb bs) (hlen : xs.length + bs.length + 10 ≤ 2 ^ 40) :
    Ret Try.prog 64 [v, vb].toArray w fun r w' => OwnB w' 5 r (xs ++ encB bs) ∧ Keep (fun b => some b ≠ v.ownBlock) w w' ∧ InB (fun b => v.ownBlock = some b ∨ w.heap.size ≤ b) r := by
  have hb := hbk w (Keep.refl _)
  obtain ⟨a, c, rfl, _⟩ := hb.form
  refine enter (fn := Try.f64) (n := 12) Try.func64 rfl rfl (by simp) ?_
  refine W_seq ?_
  refine W_region ?_
  refine o_asc rfl ?_
  refine ops_nil ?_
  refine W_seq ?_
  refine W_region ?_
  refine o_mvt rfl ?_
  refine o_mvt rfl ?_
  refine op_run (r_len rfl rfl rfl) rfl ?_
  refine op_run ((r_conv rfl rfl rfl).val (conv_len bs.length (by omega))) rfl ?_
  refine op_call rfl rfl rfl (pack_Number w v xs bs.length (by omega) hown (by omega)) ?_; rintro v1 w1 ⟨ho1, hk1, hb1⟩
  refine o_mvt rfl ?_
  have hl10 := encN_len10 (show bs.length < 2 ^ 64 by omega)
  have hb' := hbk w1 hk1
  refine o_appS (v := v1) rfl rfl hb' rfl ti_u8 rfl rfl ho1 (all_c8 _) (by unfold maxLen; simp; omega) (by simp; omega) rfl ?_; intro v2 w2 hown2 hk2 hb2
  refine o_ast rfl ?_
  refine ops_nil ?_
  refine W_ret ?_
  refine ret1 v2 rfl ?_ ?_; rfl
  refine ⟨by unfold encB; rw [← List.append_assoc]; exact OwnB.app hown2, hk1.own hk2 (fun b hb hA => (hb1 b hb).resolve_left (fun e => hA e.symm)), ?_⟩
  intro b hb
  rcases hb2 b hb with h1 | h1
  · exact hb1 b h1
  · have := hk1.size; exact .inr (by omega)

end Go.Proofs.Ytkmciohghhffnaa.B
