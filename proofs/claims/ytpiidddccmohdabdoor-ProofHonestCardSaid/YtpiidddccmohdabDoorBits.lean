/-
  math/bits: the lowest bit of sixteen, and how many there are.
-/
import Derived.Test.YtpiidddccmohdabDoorMLib
import Derived.Test.YtpiidddccmohdabDoorMBase
namespace Go.Proofs.YtpiidddccmohdabDoor.B
open Go
set_option linter.unusedVariables false
set_option maxHeartbeats 2000000
set_option maxRecDepth 100000
attribute [local irreducible] W OpsW OpsQ retP
theorem r_indexStr' {P : Program} {F : Fr} {w : World} {dst : Option Tmp} {ty : TypeId} {pos : String} {after : Array Edge} {g : Option (Nat × Bool)} {x y : Operand} {t : TypeId} {s : ByteArray} {b : UInt8} {k : IntKind} {i : Int} (hx : ev F x = .string s) (hy : ev F y = .int k i) (ht : P.underlying t = some .string) (h0 : 0 ≤ i) (hv : s[i.toNat]? = some b) :
    Run1 P F ⟨dst, .index t x y, ty, pos, after, g⟩ w (c8 b) w := by
  unfold Run1; simp [execOp, hx, hy, Instr.index, asIntOf, run_underlying ht, h0, hv, c8]
/-- The table of math/bits. -/
def deB : List Int := [0, 1, 28, 2, 29, 14, 24, 3, 30, 22, 20, 15, 25, 17, 4, 8, 31, 27, 13, 23, 21, 19, 16, 7, 26, 12, 18, 6, 11, 5, 10, 9]
def TabB (w : World) : Prop := ∀ i, i < 32 → w.cell? ⟨0, i, none⟩ = some (.int .u8 (deB.getD i 0))
theorem TabB.keep {w w' : World} {A : Nat → Prop} (h : TabB w) (hk : Keep A w w') (h0 : A 0) : TabB w' := fun i hi => hk.cell (h i hi) h0
theorem TabB.k {w w' : World} (h : TabB w) (hk : Keep All w w') : TabB w' := h.keep hk trivial
theorem TabB.lt0 {w : World} (h : TabB w) : 0 < w.heap.size := World.block_lt_of_cell? w ⟨0, 0, none⟩ (h 0 (by decide))
theorem low_ex : ∀ r : Nat, 0 < r → ∃ t q, r = 2 ^ t * (2 * q + 1) := by
  intro r
  induction r using Nat.strongRecOn with
  | _ r ih =>
    intro h
    by_cases hr : r % 2 = 1
    · exact ⟨0, r / 2, by omega⟩
    · obtain ⟨t, q, e⟩ := ih (r / 2) (by omega) (by omega)
      refine ⟨t + 1, q, ?_⟩
      rw [Nat.pow_succ, Nat.mul_right_comm, ← e]; omega
theorem tb_odd (q k : Nat) : (2 * q + 1).testBit k = if k = 0 then true else q.testBit (k - 1) := by
  cases k with
  | zero => rw [Nat.testBit_zero]; simp
  | succ k => rw [Nat.testBit_succ, if_neg (by omega), Nat.add_sub_cancel, show (2 * q + 1) / 2 = q by omega]
theorem tb_even (q k : Nat) : (2 * q).testBit k = if k = 0 then false else q.testBit (k - 1) := by
  cases k with
  | zero => rw [Nat.testBit_zero]; simp
  | succ k => rw [Nat.testBit_succ]; simp
theorem and_pred {t q : Nat} : (2 ^ t * (2 * q + 1)) &&& (2 ^ t * (2 * q + 1) - 1) = 2 ^ t * (2 * q) := by
  have hp : 0 < 2 ^ t := Nat.two_pow_pos t
  have e : 2 ^ t * (2 * q + 1) - 1 = 2 ^ t * (2 * q) + (2 ^ t - 1) := by rw [Nat.mul_add]; omega
  apply Nat.eq_of_testBit_eq
  intro j
  rw [Nat.testBit_and, e, Nat.testBit_two_pow_mul_add _ (by omega), Nat.testBit_two_pow_mul, Nat.testBit_two_pow_mul]
  by_cases h : j < t
  · simp [h, Nat.not_le.2 h]
  · rw [if_neg h, tb_odd, tb_even]
    by_cases h2 : j - t = 0
    · simp [h2]
    · simp [h2]
theorem and_negP {t q : Nat} (h : 2 ^ t * (2 * q + 1) < 65536) : (2 ^ t * (2 * q + 1)) &&& (65536 - 2 ^ t * (2 * q + 1)) = 2 ^ t := by
  have hp : 0 < 2 ^ t := Nat.two_pow_pos t
  have ht : t < 16 := by
    apply Nat.lt_of_not_le; intro hle
    have h1 := Nat.pow_le_pow_right (show 0 < 2 by decide) hle
    have h2 : 2 ^ t * 1 ≤ 2 ^ t * (2 * q + 1) := Nat.mul_le_mul_left _ (by omega)
    have h3 : 2 ^ 16 = 65536 := rfl
    omega
  have e16 : 65536 = 2 ^ t * (2 * 2 ^ (15 - t)) := by
    rw [show (2 * 2 ^ (15 - t)) = 2 ^ (15 - t + 1) by rw [Nat.pow_succ, Nat.mul_comm], ← Nat.pow_add, show t + (15 - t + 1) = 16 by omega]
  have hq : q < 2 ^ (15 - t) := by
    apply Nat.lt_of_not_le; intro hle
    have h2 : 2 ^ t * (2 * 2 ^ (15 - t)) ≤ 2 ^ t * (2 * q + 1) := Nat.mul_le_mul_left _ (by omega)
    omega
  obtain ⟨c, hc⟩ : ∃ c, c = 2 ^ (15 - t) - (q + 1) := ⟨_, rfl⟩
  have e : 65536 - 2 ^ t * (2 * q + 1) = 2 ^ t * (2 * c + 1) := by
    have e2 : 2 * 2 ^ (15 - t) = (2 * q + 1) + (2 * c + 1) := by omega
    rw [e16, e2, Nat.mul_add]; omega
  rw [e]
  apply Nat.eq_of_testBit_eq
  intro j
  rw [Nat.testBit_and, Nat.testBit_two_pow_mul, Nat.testBit_two_pow_mul, Nat.testBit_two_pow, tb_odd, tb_odd, hc]
  by_cases h1 : t ≤ j
  · by_cases h2 : j - t = 0
    · have : t = j := by omega
      simp [this]
    · have h3 : ¬ t = j := by omega
      have h4 : decide (j ≥ t) = true := by simpa using h1
      simp only [h4, h2, h3, if_false, Bool.true_and, decide_false]
      rw [Nat.testBit_two_pow_sub_succ hq]
      cases q.testBit (j - t - 1) <;> simp
  · have : ¬ t = j := by omega
    simp [h1, this]
/-- Which bit is the lowest one. -/
def lowB (r t : Nat) : Prop := t < 16 ∧ ∃ q, r = 2 ^ t * (2 * q + 1)
theorem low_u16 {r : Nat} (h0 : 0 < r) (h : r < 65536) : ∃ t, lowB r t := by
  obtain ⟨t, q, e⟩ := low_ex r h0
  refine ⟨t, ?_, q, e⟩
  apply Nat.lt_of_not_le; intro hle
  have h1 := Nat.pow_le_pow_right (show 0 < 2 by decide) hle
  have h2 : 2 ^ t * 1 ≤ 2 ^ t * (2 * q + 1) := Nat.mul_le_mul_left _ (by omega)
  have h3 : 2 ^ 16 = 65536 := rfl
  omega
def ixT (t : Nat) : Nat := (2 ^ t * 125613361 % 4294967296) / 134217728
theorem tab_ix : ∀ t : Fin 16, ixT t.val < 32 ∧ deB.getD (ixT t.val) 0 = (t.val : Int) ∧ (IntKind.u32.wrap (IntKind.u32.wrap (((2 ^ t.val : Nat) : Int)) * 125613361)).fdiv (2 ^ (min (27 : Int).toNat IntKind.u32.bits)) = ((ixT t.val : Nat) : Int) := by decide +kernel
theorem bt_Tz (w : World) (r : Nat) (h0 : 0 < r) (h16 : r < 65536) (hT : TabB w) : Ret Tryd.prog 39 [.int .u16 r].toArray w fun v w' => w' = w ∧ ∃ t, v = .int .i64 (t : Nat) ∧ lowB r t := by
  obtain ⟨t, ht, q, e⟩ := low_u16 h0 h16
  have hand : bitw .and .u16 (r : Int) (IntKind.u16.wrap (0 - (r : Int))) = ((2 ^ t : Nat) : Int) := by
    have e1 : IntKind.u16.wrap (0 - (r : Int)) = ((65536 - r : Nat) : Int) := by
      have h : IntKind.u16.wrap (0 - (r : Int)) = (0 - (r : Int)) % 65536 := rfl
      rw [h]; omega
    rw [e1, bitw_and rfl _ _ (show r < 65536 from h16) (show 65536 - r < 65536 by omega), e, and_negP (by omega)]
  obtain ⟨hi1, hi2, hi3⟩ := tab_ix ⟨t, ht⟩
  simp only at hi1 hi2 hi3
  refine enter (fn := Tryd.f39) (n := 15) Tryd.func39 rfl rfl (by simp) ?_
  refine W_seq ?_
  refine W_region ?_
  refine o_asc rfl ?_
  refine ops_nil ?_
  refine W_seq ?_
  refine W_seq ?_
  refine W_region ?_
  refine o_mvt rfl ?_
  refine op_run (r_eql rfl rfl) rfl ?_
  refine ops_nil ?_
  refine W_cond_p rfl (fun h1 => ?_) (fun h1 => ?_)
  · refine W_seq ?_
    refine W_region ?_
    refine o_asc rfl ?_
    refine ops_nil ?_
    refine W_ret ?_
    refine ret1 (.int .i64 16) rfl ?_ ?_; rfl
    exact absurd (show r = 0 by omega) (by omega)
  · refine W_skip ?_
    refine W_seq ?_
    refine W_region ?_
    refine o_mvt rfl ?_
    refine o_mvt rfl ?_
    refine op_run (r_neg rfl) rfl ?_
    refine op_run ((r_and rfl rfl).val (congrArg (Value.int .u16) hand)) rfl ?_
    refine op_run (r_conv rfl rfl rfl) rfl ?_
    refine op_run (r_mul rfl rfl) rfl ?_
    refine op_run ((r_shr rfl rfl (by decide)).val (congrArg (Value.int .u32) hi3)) rfl ?_
    refine op_run (r_idxA1 rfl rfl rfl rfl (by omega) (by omega)) rfl ?_
    refine op_run (r_load rfl rfl rfl (by rw [Int.toNat_natCast, Nat.zero_add]; exact hT _ hi1)) rfl ?_
    refine op_run ((r_conv rfl rfl rfl).val (congrArg (Value.int .i64) (show IntKind.i64.wrap (deB.getD (ixT t) 0) = (t : Int) from by rw [hi2]; exact wrap_i64 (by omega) (by omega)))) rfl ?_
    refine o_ast rfl ?_
    refine ops_nil ?_
    refine W_ret ?_
    refine ret1 (.int .i64 (t : Nat)) rfl ?_ ?_; rfl
    exact ⟨rfl, t, rfl, ht, q, e⟩
/-- How many of so many bits are set. -/
def cntB (m : Nat) : Nat → Nat
  | 0 => 0
  | i + 1 => cntB m i + m / 2 ^ i % 2
theorem cntB_le (m i : Nat) : cntB m i ≤ i := by
  induction i with
  | zero => exact Nat.le_refl _
  | succ i ih => unfold cntB; omega
theorem cnt_split (m : Nat) : cntB m 16 = cntB (m / 256) 8 + cntB (m % 256) 8 := by
  simp only [cntB, Nat.div_div_eq_div_mul]
  have h : ∀ j, j < 8 → m % 256 / 2 ^ j % 2 = m / 2 ^ j % 2 := fun j hj => by
    match j, hj with
    | 0, _ => omega
    | 1, _ => omega
    | 2, _ => omega
    | 3, _ => omega
    | 4, _ => omega
    | 5, _ => omega
    | 6, _ => omega
    | 7, _ => omega
  rw [h 0 (by omega), h 1 (by omega), h 2 (by omega), h 3 (by omega), h 4 (by omega), h 5 (by omega), h 6 (by omega), h 7 (by omega)]
  simp only [Nat.reducePow, Nat.reduceMul]
  omega
def popChk (s : ByteArray) : Bool := (List.range 256).all fun i => s[i]? == some (cntB i 8).toUInt8
theorem pop_ok {s : ByteArray} (h : popChk s = true) {i : Nat} (hi : i < 256) : s[i]? = some (cntB i 8).toUInt8 := by
  have h1 := List.all_eq_true.1 h i (List.mem_range.2 hi)
  simpa using h1
theorem bt_Ones (w : World) (m : Nat) (h16 : m < 65536) : Ret Tryd.prog 40 [.int .u16 m].toArray w fun v w' => v = .int .i64 (cntB m 16 : Nat) ∧ Keep All w w' := by
  have h1 : (m : Int).fdiv (2 ^ (min (8 : Int).toNat IntKind.u16.bits)) = ((m / 256 : Nat) : Int) := by
    rw [Int.fdiv_eq_ediv_of_nonneg _ (by decide)]; rfl
  have h2 : bitw .and .u16 (m : Int) 255 = ((m % 256 : Nat) : Int) := by
    rw [show (255 : Int) = ((255 : Nat) : Int) from rfl, bitw_and rfl _ _ (show m < 65536 from h16) (by decide), show 255 = 2 ^ 8 - 1 from rfl, Nat.and_two_pow_sub_one_eq_mod]
  have hc1 := cntB_le (m / 256) 8
  have hc2 := cntB_le (m % 256) 8
  have u8 : ∀ x : Nat, x ≤ 8 → (x.toUInt8.toNat : Int) = (x : Int) := fun x hx => by
    have : x.toUInt8.toNat = x % 256 := by simp [Nat.toUInt8]
    omega
  have hend : IntKind.i64.wrap (IntKind.u8.wrap (((cntB (m / 256) 8).toUInt8.toNat : Int) + ((cntB (m % 256) 8).toUInt8.toNat : Int))) = ((cntB m 16 : Nat) : Int) := by
    rw [u8 _ hc1, u8 _ hc2, cnt_split]
    have h : IntKind.u8.wrap (((cntB (m / 256) 8 : Nat) : Int) + ((cntB (m % 256) 8 : Nat) : Int)) = (((cntB (m / 256) 8 : Nat) : Int) + ((cntB (m % 256) 8 : Nat) : Int)) % 256 := rfl
    rw [h, wrap_i64 (by omega) (by omega)]; omega
  refine enter (fn := Tryd.f40) (n := 11) Tryd.func40 rfl rfl (by simp) ?_
  refine W_seq ?_
  refine W_region ?_
  refine o_asc rfl ?_
  refine ops_nil ?_
  refine W_seq ?_
  refine W_quiet (Keep All w) (by kernel_rfl) (by kernel_rfl) (Keep.drawn _) ?_
  refine q_mvt rfl ?_
  refine q_run (fun _ _ => ((r_shr rfl rfl (by decide)).val (congrArg (Value.int .u16) h1))) rfl ?_
  refine q_run (fun _ _ => (r_indexStr' (b := (cntB (m / 256) 8).toUInt8) rfl rfl rfl (by omega) (by rw [Int.toNat_natCast]; exact pop_ok (by kernel_rfl) (by omega)))) rfl ?_
  refine q_mvt rfl ?_
  refine q_run (fun _ _ => ((r_and rfl rfl).val (congrArg (Value.int .u16) h2))) rfl ?_
  refine q_run (fun _ _ => (r_indexStr' (b := (cntB (m % 256) 8).toUInt8) rfl rfl rfl (by omega) (by rw [Int.toNat_natCast]; exact pop_ok (by kernel_rfl) (by omega)))) rfl ?_
  refine q_run (fun _ _ => (r_add rfl rfl)) rfl ?_
  refine q_run (fun _ _ => ((r_conv rfl rfl rfl).val (congrArg (Value.int .i64) hend))) rfl ?_
  refine q_ast rfl ?_
  refine q_nil ?_; intro w4 hk4
  refine W_ret ?_
  refine ret1 (.int .i64 (cntB m 16 : Nat)) rfl ?_ ?_; rfl
  exact ⟨rfl, hk4⟩
end Go.Proofs.YtpiidddccmohdabDoor.B
