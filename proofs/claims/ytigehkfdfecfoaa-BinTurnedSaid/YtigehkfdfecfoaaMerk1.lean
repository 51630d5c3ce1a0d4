/-
  How many of some rows are the first ones: the program's way, and the document's.
-/
import Derived.Test.YtigehkfdfecfoaaMerkP
import Derived.Test.YtigehkfdfecfoaaMLib
namespace Go.Proofs.Ytigehkfdfecfoaa.B
open Go
set_option linter.unusedVariables false
set_option maxHeartbeats 2000000
set_option maxRecDepth 100000
attribute [local irreducible] W OpsW OpsQ retP
theorem r_indexStr {P : Program} {F : Fr} {w : World} {dst : Option Tmp} {ty : TypeId} {pos : String} {after : Array Edge} {g : Option (Nat × Bool)} {x y : Operand} {t : TypeId} {s : ByteArray} {b : UInt8} {k : IntKind} {i : Int} (hx : ev F x = .string s) (hy : ev F y = .int k i) (ht : P.underlying t = some .string) (h0 : 0 ≤ i) (hv : s[i.toNat]? = some b) :
    Run1 P F ⟨dst, .index t x y, ty, pos, after, g⟩ w (c8 b) w := by
  unfold Run1; simp [execOp, hx, hy, Instr.index, asIntOf, run_underlying ht, h0, hv, c8]
/-- How many bits a number needs. -/
def lenN (x : Nat) : Nat := if x = 0 then 0 else Nat.log2 x + 1
theorem lenN_shift {k x : Nat} (h : 2 ^ k ≤ x) : lenN x = lenN (x / 2 ^ k) + k := by
  have hk : 0 < 2 ^ k := Nat.pow_pos (by decide)
  have hy : x / 2 ^ k ≠ 0 := Nat.pos_iff_ne_zero.1 (Nat.div_pos h hk)
  have hx : x ≠ 0 := by omega
  unfold lenN
  rw [if_neg hx, if_neg hy]
  obtain ⟨h1, h2⟩ := (Nat.log2_eq_iff hy).1 rfl
  have h3 := (Nat.le_div_iff_mul_le hk).1 h1
  have h4 := (Nat.div_lt_iff_lt_mul hk).1 h2
  rw [← Nat.pow_add] at h3 h4
  have := (Nat.log2_eq_iff hx).2 ⟨h3, by rw [show Nat.log2 (x / 2 ^ k) + k + 1 = Nat.log2 (x / 2 ^ k) + 1 + k by omega]; exact h4⟩
  omega

theorem bits_Len64 (w : World) (x : Nat) (hx : x < 2 ^ 64) : Ret Try.prog 108 [.int .u64 x].toArray w fun r w' => r = .int .i64 (lenN x) ∧ w' = w := by
  refine enter (fn := Try.f108) (n := 25) Try.func108 rfl rfl (by simp) ?_
  refine W_seq ?_
  refine W_region ?_
  refine o_asc rfl ?_
  refine ops_nil ?_
  refine W_cut [0, 2] [0, 2, 3, 4, 5, 6] (fun vs w1 => ∃ x1 n1 : Nat, vs = [.int .u64 x1, .int .i64 n1] ∧ lenN x = lenN x1 + n1 ∧ x1 < 2 ^ 32 ∧ n1 ≤ 32 ∧ w1 = w) ?_ ?_
  · refine W_seq ?_
    refine W_region ?_
    refine o_mvt rfl ?_
    refine op_run (r_geq rfl rfl) rfl ?_
    refine ops_nil ?_
    refine W_cond_p rfl (fun h2 => ?_) (fun h2 => ?_)
    · refine W_seq ?_
      refine W_region ?_
      refine o_mvt rfl ?_
      refine op_run ((r_shr rfl rfl (by decide)).val (congrArg (Value.int .u64) (show ((x : Int).fdiv (2 ^ (min (32 : Int).toNat IntKind.u64.bits))) = ((x / 2 ^ 32 : Nat) : Int) from fdiv_nat x 32 64))) rfl ?_
      refine o_ast rfl ?_
      refine ops_nil ?_
      refine W_region ?_
      refine o_asc rfl ?_
      refine ops_nil ?_
      exact ⟨by (repeat (first | with_reducible exact offM_refl _ _ | refine offM_updc rfl ?_ | refine offM_upd rfl ?_ | refine offM_updo rfl ?_ | refine offM_updo_none ?_ | refine offM_head rfl rfl ?_)), x / 2 ^ 32, 32, rfl, lenN_shift (by omega), by omega, by omega, rfl⟩
    · refine W_skip ?_
      exact ⟨by (repeat (first | with_reducible exact offM_refl _ _ | refine offM_updc rfl ?_ | refine offM_upd rfl ?_ | refine offM_updo rfl ?_ | refine offM_updo_none ?_ | refine offM_head rfl rfl ?_)), x, 0, rfl, rfl, by omega, by omega, rfl⟩
  · rintro J5 vs w5 ⟨x1, n1, rfl, hl1, hx1, hn1, rfl⟩ -
    refine W_cut [0, 2] [0, 2, 7, 8, 9, 10, 11, 12] (fun vs w6 => ∃ x2 n2 : Nat, vs = [.int .u64 x2, .int .i64 n2] ∧ lenN x = lenN x2 + n2 ∧ x2 < 2 ^ 16 ∧ n2 ≤ 48 ∧ w6 = w5) ?_ ?_
    · refine W_seq ?_
      refine W_region ?_
      refine o_mvt rfl ?_
      refine op_run (r_geq rfl rfl) rfl ?_
      refine ops_nil ?_
      refine W_cond_p rfl (fun h7 => ?_) (fun h7 => ?_)
      · refine W_seq ?_
        refine W_region ?_
        refine o_mvt rfl ?_
        refine op_run ((r_shr rfl rfl (by decide)).val (congrArg (Value.int .u64) (show ((x1 : Int).fdiv (2 ^ (min (16 : Int).toNat IntKind.u64.bits))) = ((x1 / 2 ^ 16 : Nat) : Int) from fdiv_nat x1 16 64))) rfl ?_
        refine o_ast rfl ?_
        refine ops_nil ?_
        refine W_region ?_
        refine o_mvt rfl ?_
        refine op_run ((r_add rfl rfl).val (congrArg (Value.int .i64) (show IntKind.i64.wrap ((n1 : Int) + 16) = ((n1 + 16 : Nat) : Int) from (wrap_i64 (by omega) (by omega)).trans (by omega)))) rfl ?_
        refine o_ast rfl ?_
        refine ops_nil ?_
        exact ⟨by (repeat (first | with_reducible exact offM_refl _ _ | refine offM_updc rfl ?_ | refine offM_upd rfl ?_ | refine offM_updo rfl ?_ | refine offM_updo_none ?_ | refine offM_head rfl rfl ?_)), x1 / 2 ^ 16, n1 + 16, rfl, by rw [hl1, lenN_shift (x := x1) (k := 16) (by omega)]; omega, by omega, by omega, rfl⟩
      · refine W_skip ?_
        exact ⟨by (repeat (first | with_reducible exact offM_refl _ _ | refine offM_updc rfl ?_ | refine offM_upd rfl ?_ | refine offM_updo rfl ?_ | refine offM_updo_none ?_ | refine offM_head rfl rfl ?_)), x1, n1, rfl, hl1, by omega, by omega, rfl⟩
    · rintro J10 vs w10 ⟨x2, n2, rfl, hl2, hx2, hn2, rfl⟩ -
      refine W_cut [0, 2] [0, 2, 13, 14, 15, 16, 17, 18] (fun vs w11 => ∃ x3 n3 : Nat, vs = [.int .u64 x3, .int .i64 n3] ∧ lenN x = lenN x3 + n3 ∧ x3 < 2 ^ 8 ∧ n3 ≤ 56 ∧ w11 = w10) ?_ ?_
      · refine W_seq ?_
        refine W_region ?_
        refine o_mvt rfl ?_
        refine op_run (r_geq rfl rfl) rfl ?_
        refine ops_nil ?_
        refine W_cond_p rfl (fun h12 => ?_) (fun h12 => ?_)
        · refine W_seq ?_
          refine W_region ?_
          refine o_mvt rfl ?_
          refine op_run ((r_shr rfl rfl (by decide)).val (congrArg (Value.int .u64) (show ((x2 : Int).fdiv (2 ^ (min (8 : Int).toNat IntKind.u64.bits))) = ((x2 / 2 ^ 8 : Nat) : Int) from fdiv_nat x2 8 64))) rfl ?_
          refine o_ast rfl ?_
          refine ops_nil ?_
          refine W_region ?_
          refine o_mvt rfl ?_
          refine op_run ((r_add rfl rfl).val (congrArg (Value.int .i64) (show IntKind.i64.wrap ((n2 : Int) + 8) = ((n2 + 8 : Nat) : Int) from (wrap_i64 (by omega) (by omega)).trans (by omega)))) rfl ?_
          refine o_ast rfl ?_
          refine ops_nil ?_
          exact ⟨by (repeat (first | with_reducible exact offM_refl _ _ | refine offM_updc rfl ?_ | refine offM_upd rfl ?_ | refine offM_updo rfl ?_ | refine offM_updo_none ?_ | refine offM_head rfl rfl ?_)), x2 / 2 ^ 8, n2 + 8, rfl, by rw [hl2, lenN_shift (x := x2) (k := 8) (by omega)]; omega, by omega, by omega, rfl⟩
        · refine W_skip ?_
          exact ⟨by (repeat (first | with_reducible exact offM_refl _ _ | refine offM_updc rfl ?_ | refine offM_upd rfl ?_ | refine offM_updo rfl ?_ | refine offM_updo_none ?_ | refine offM_head rfl rfl ?_)), x2, n2, rfl, hl2, by omega, by omega, rfl⟩
      · rintro J15 vs w15 ⟨x3, n3, rfl, hl3, hx3, hn3, rfl⟩ -
        refine W_seq ?_
        refine W_region ?_
        refine o_mvt rfl ?_
        refine o_mvt rfl ?_
        refine op_run ((r_conv rfl rfl rfl).val (congrArg (Value.int .u8) (show IntKind.u8.wrap (x3 : Int) = (x3 : Int) from wrap_nat rfl _ hx3))) rfl ?_
        have hl9 : lenN x3 ≤ 8 := by
          have h : ∀ z : Fin 256, lenN z.val ≤ 8 := by decide +kernel
          exact h ⟨x3, hx3⟩
        have hl8 : (lenN x3).toUInt8.toNat = lenN x3 := by simp; omega
        refine op_run (r_indexStr (b := (lenN x3).toUInt8) rfl rfl rfl (by omega) (by rw [Int.toNat_natCast]; obtain ⟨z, rfl⟩ : ∃ z : Fin 256, z.val = x3 := ⟨⟨x3, hx3⟩, rfl⟩; clear hl3 hx3 hl8 hl9; revert z; decide +kernel)) rfl ?_
        refine op_run ((r_conv rfl rfl rfl).val (congrArg (Value.int .i64) (show IntKind.i64.wrap (((lenN x3).toUInt8.toNat : Nat) : Int) = ((lenN x3 : Nat) : Int) from (wrap_i64 (by omega) (by omega)).trans (by rw [hl8])))) rfl ?_
        refine op_run ((r_add rfl rfl).val (congrArg (Value.int .i64) (show IntKind.i64.wrap ((n3 : Int) + ((lenN x3 : Nat) : Int)) = ((lenN x : Nat) : Int) from (wrap_i64 (by omega) (by omega)).trans (by omega)))) rfl ?_
        refine o_ast rfl ?_
        refine ops_nil ?_
        refine W_ret ?_
        refine ret1 (.int .i64 (lenN x)) rfl ?_ ?_; rfl
        exact ⟨rfl, rfl⟩

theorem bits_Len (w : World) (x : Nat) (hx : x < 2 ^ 64) : Ret Try.prog 100 [.int .u64 x].toArray w fun r w' => r = .int .i64 (lenN x) ∧ w' = w := by
  refine enter (fn := Try.f100) (n := 8) Try.func100 rfl rfl (by simp) ?_
  refine W_seq ?_
  refine W_region ?_
  refine o_asc rfl ?_
  refine ops_nil ?_
  refine W_seq ?_
  refine W_no rfl rfl ?_
  refine W_skip ?_
  refine W_seq ?_
  refine W_region ?_
  refine o_mvt rfl ?_
  refine op_call rfl rfl rfl (bits_Len64 w x hx) ?_; rintro v1 w1 ⟨rfl, rfl⟩
  refine o_ast rfl ?_
  refine ops_nil ?_
  refine W_ret ?_
  refine ret1 (.int .i64 (lenN x)) rfl ?_ ?_; rfl
  exact ⟨rfl, rfl⟩

theorem mk_split (w : World) (n : Nat) (h2 : 2 ≤ n) (hn : n < 2 ^ 63) : Ret Try.prog 81 [.int .i64 n].toArray w fun r w' => r = .int .i64 (splitN n) ∧ w' = w := by
  have hlen : lenN (n - 1) = Nat.log2 (n - 1) + 1 := if_neg (by omega)
  have hlog : Nat.log2 (n - 1) < 63 := (Nat.log2_lt (by omega)).2 (by omega)
  have hs := splitN_lt h2
  refine enter (fn := Try.f81) (n := 9) Try.func81 rfl rfl (by simp) ?_
  refine W_seq ?_
  refine W_region ?_
  refine o_asc rfl ?_
  refine ops_nil ?_
  refine W_seq ?_
  refine W_region ?_
  refine o_mvt rfl ?_
  refine op_run ((r_sub rfl rfl).val (congrArg (Value.int .i64) (show IntKind.i64.wrap ((n : Int) - 1) = ((n - 1 : Nat) : Int) from (wrap_i64 (by omega) (by omega)).trans (by omega)))) rfl ?_
  refine op_run ((r_conv rfl rfl rfl).val (congrArg (Value.int .u64) (show IntKind.u64.wrap ((n - 1 : Nat) : Int) = ((n - 1 : Nat) : Int) from wrap_nat rfl _ (by show _ < 2 ^ 64; omega)))) rfl ?_
  refine op_call rfl rfl rfl (bits_Len w (n - 1) (by omega)) ?_; rintro v1 w1 ⟨rfl, rfl⟩
  refine op_run ((r_sub rfl rfl).val (congrArg (Value.int .i64) (show IntKind.i64.wrap (((lenN (n - 1) : Nat) : Int) - 1) = ((Nat.log2 (n - 1) : Nat) : Int) from (wrap_i64 (by omega) (by omega)).trans (by omega)))) rfl ?_
  refine op_run ((r_shl rfl rfl (by omega)).val (congrArg (Value.int .i64) (show IntKind.i64.wrap (1 * 2 ^ (min (((Nat.log2 (n - 1) : Nat) : Int)).toNat IntKind.i64.bits)) = ((splitN n : Nat) : Int) from (by rw [Int.toNat_natCast, Nat.min_eq_left (show Nat.log2 (n - 1) ≤ IntKind.i64.bits by show _ ≤ 64; omega), Int.one_mul, show ((2 : Int) ^ Nat.log2 (n - 1)) = ((splitN n : Nat) : Int) by unfold splitN; norm_cast]; exact wrap_i64 (by omega) (by omega))))) rfl ?_
  refine o_ast rfl ?_
  refine ops_nil ?_
  refine W_ret ?_
  refine ret1 (.int .i64 (splitN n)) rfl ?_ ?_; rfl
  exact ⟨rfl, rfl⟩

theorem rf_Split (w : World) (n : Nat) (h2 : 2 ≤ n) (hn : n < 2 ^ 63) : Ret Try.prog 69 [.int .i64 n].toArray w fun r w' => r = .int .i64 (splitN n) ∧ w' = w := by
  refine enter (fn := Try.f69) (n := 12) Try.func69 rfl rfl (by simp) ?_
  refine W_seq ?_
  refine W_region ?_
  refine o_asc rfl ?_
  refine ops_nil ?_
  refine W_seq ?_
  refine W_region ?_
  refine o_asc rfl ?_
  refine ops_nil ?_
  refine W_seq ?_
  refine W_block ?_
  refine W_loop [3] [3, 4, 5, 6, 7, 8, 9, 10] (fun vs w' => ∃ j : Nat, vs = [.int .i64 ((2 ^ j : Nat) : Int)] ∧ 2 ^ j < n ∧ w' = w) (fun vs _ => match vs with | [.int _ k] => n - k.toNat | _ => 0) ⟨0, rfl, by omega, rfl⟩ ?_
  rintro J1 vs w1 ⟨j, rfl, hj, rfl⟩ -
  have hp : 0 < 2 ^ j := Nat.pow_pos (by decide)
  refine W_seq ?_
  refine W_seq ?_
  refine W_region ?_
  refine o_mvt rfl ?_
  refine o_mvt rfl ?_
  refine o_mvt rfl ?_
  refine op_run ((r_sub rfl rfl).val (congrArg (Value.int .i64) (show IntKind.i64.wrap ((n : Int) - ((2 ^ j : Nat) : Int)) = ((n - 2 ^ j : Nat) : Int) from (wrap_i64 (by omega) (by omega)).trans (by omega)))) rfl ?_
  refine op_run (r_lss rfl rfl) rfl ?_
  refine ops_nil ?_
  refine W_cond_p rfl (fun h2 => ?_) (fun h2 => ?_)
  · refine W_skip ?_
    refine W_block ?_
    refine W_region ?_
    refine o_mvt rfl ?_
    refine op_run ((r_mul rfl rfl).val (congrArg (Value.int .i64) (show IntKind.i64.wrap (2 * ((2 ^ j : Nat) : Int)) = ((2 ^ (j + 1) : Nat) : Int) from (wrap_i64 (by omega) (by omega)).trans (by rw [Nat.pow_succ]; omega)))) rfl ?_
    refine o_ast rfl ?_
    refine ops_nil ?_
    refine ⟨by (repeat (first | with_reducible exact offM_refl _ _ | refine offM_updc rfl ?_ | refine offM_upd rfl ?_ | refine offM_updo rfl ?_ | refine offM_updo_none ?_ | refine offM_head rfl rfl ?_)), ⟨j + 1, rfl, by rw [Nat.pow_succ]; omega, rfl⟩, ?_⟩
    show n - (((2 ^ (j + 1) : Nat) : Int)).toNat < n - (((2 ^ j : Nat) : Int)).toNat
    have := Nat.pow_pos (a := 2) (n := j) (by decide)
    rw [Int.toNat_natCast, Int.toNat_natCast, Nat.pow_succ]; omega
  · refine W_exit ?_
    refine W_seq ?_
    refine W_region ?_
    refine o_mvt rfl ?_
    refine o_ast rfl ?_
    refine ops_nil ?_
    refine W_ret ?_
    refine ret1 (.int .i64 ((2 ^ j : Nat) : Int)) rfl ?_ ?_; rfl
    have e : Nat.log2 (n - 1) = j := (Nat.log2_eq_iff (by omega)).2 ⟨by omega, by rw [Nat.pow_succ]; omega⟩
    unfold splitN
    rw [e]
    exact ⟨rfl, rfl⟩
end Go.Proofs.Ytigehkfdfecfoaa.B
