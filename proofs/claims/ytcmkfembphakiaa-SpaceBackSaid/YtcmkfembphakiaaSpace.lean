/-
  space: which sectors are taken.
-/
import Derived.Test.YtcmkfembphakiaaPop
namespace Go.Proofs.Ytcmkfembphakiaa.B
open Go
set_option linter.unusedVariables false
attribute [local irreducible] W OpsW OpsQ retP
def c64 (n : Nat) : Value := .int .u64 (n : Int)
theorem one_c64 (n : Nat) : one (c64 n) = true := rfl
/-- A space of sz sectors, at b: of them f are taken. Its blocks are in A. -/
def SpC (w : World) (b : Nat) (A : Nat → Prop) (sz : Nat) (f : Nat → Bool) : Prop :=
  ∃ (g c : Nat) (ws : List Nat) (ex : List Value), Blk w b [.int .i64 sz, .slice (some ⟨g, 0, none⟩) ws.length c] 50 ∧ ws.length ≤ c ∧ c ≤ maxLen ∧ Blk w g (ws.map c64 ++ ex) 51 ∧ g ≠ b ∧ A b ∧ A g ∧
    ws.length = (sz + 63) / 64 ∧ 1 ≤ sz ∧ sz ≤ 65536 ∧ (∀ x ∈ ws, x < 2 ^ 64) ∧ (∀ (k x : Nat), ws[k]? = some x → ∀ j, j < 64 → x.testBit j = f (64 * k + j)) ∧ (∀ i, sz ≤ i → f i = false)
theorem get_c64 {ws : List Nat} {ex : List Value} {k : Nat} (h : k < ws.length) : (ws.map c64 ++ ex)[k]? = some (c64 ws[k]) := by
  rw [List.getElem?_append_left (by simpa using h)]; simp [h]
theorem get0 {ws : List Nat} {ex : List Value} {k : Nat} (h : k < ws.length) : (ws.map c64 ++ ex)[0 + ((k : Nat) : Int).toNat]? = some (c64 ws[k]) := by
  rw [Int.toNat_natCast, Nat.zero_add]; exact get_c64 h
theorem mask_val (k : Nat) : IntKind.u64.wrap ((1 : Int) * 2 ^ (min ((k % 64 : Nat) : Int).toNat IntKind.u64.bits)) = ((2 ^ (k % 64) : Nat) : Int) := by
  have e : min ((k % 64 : Nat) : Int).toNat IntKind.u64.bits = k % 64 := by rw [Int.toNat_natCast]; exact Nat.min_eq_left (by show k % 64 ≤ 64; omega)
  have hlt : 2 ^ (k % 64) < 2 ^ 64 := Nat.pow_lt_pow_right (by omega) (by omega)
  have h1 : (1 : Int) * 2 ^ (k % 64) = ((2 ^ (k % 64) : Nat) : Int) := by push_cast; omega
  rw [e, h1, wrap_u64]
  generalize 2 ^ (k % 64) = m at *
  omega
theorem quo64 (k : Nat) (h : k < 2 ^ 62) : IntKind.i64.wrap ((k : Int).tdiv 64) = ((k / 64 : Nat) : Int) := by
  rw [Int.tdiv_eq_ediv_of_nonneg (by omega), wrap_i64 (by omega) (by omega)]; omega

theorem sp_bit (w : World) (k : Nat) (hk : k < 2 ^ 62) : Ret Try.prog 19 [.int .i64 k].toArray w fun r w' => r = .tuple #[.int .i64 (k / 64 : Nat), .int .u64 (2 ^ (k % 64) : Nat)] ∧ w' = w := by
  have q1 : IntKind.u64.wrap ((k : Nat) : Int) = (k : Int) := wrap_nat rfl _ (by show _ < 2 ^ 64; omega)
  have q2 : ((k : Nat) : Int).tmod 64 = ((k % 64 : Nat) : Int) := by rw [Int.tmod_eq_emod_of_nonneg (by omega)]; omega
  refine enter (fn := Try.f19) (n := 10) Try.func19 rfl rfl (by simp) ?_
  refine W_seq ?_
  refine W_region ?_
  refine o_asc rfl ?_
  refine o_asc rfl ?_
  refine ops_nil ?_
  refine W_seq ?_
  refine W_region ?_
  refine o_mvt rfl ?_
  refine op_run ((r_quo rfl rfl (by decide)).val (congrArg (Value.int .i64) (quo64 k hk))) rfl ?_
  refine o_mvt rfl ?_
  refine op_run ((r_conv rfl rfl rfl).val (congrArg (Value.int .u64) q1)) rfl ?_
  refine op_run ((r_rem rfl rfl (by decide)).val (congrArg (Value.int .u64) q2)) rfl ?_
  refine op_run ((r_shl rfl rfl (by omega)).val (congrArg (Value.int .u64) (mask_val k))) rfl ?_
  refine o_ast rfl ?_
  refine o_ast rfl ?_
  refine ops_nil ?_
  refine W_ret ?_
  refine ret2 _ _ rfl rfl rfl ?_
  exact ⟨rfl, rfl⟩

theorem and_bit (x j : Nat) (hx : x < 2 ^ 64) (hj : j < 64) : decide (bitw .and .u64 ((x : Nat) : Int) ((2 ^ j : Nat) : Int) ≠ 0) = x.testBit j := by
  have hlt : 2 ^ j < 2 ^ 64 := Nat.pow_lt_pow_right (by omega) hj
  rw [bitw_and (k := .u64) rfl x (2 ^ j) hx hlt]
  have ht : (x &&& 2 ^ j).testBit j = x.testBit j := by rw [Nat.testBit_and, Nat.testBit_two_pow]; simp
  cases h : x.testBit j
  · have : x &&& 2 ^ j = 0 := by
      apply Nat.eq_of_testBit_eq
      intro i
      rw [Nat.testBit_and, Nat.testBit_two_pow, Nat.zero_testBit]
      by_cases e : j = i
      · subst e; simp [h]
      · simp [e]
    rw [this]; simp
  · apply decide_eq_true
    intro e
    have e : x &&& 2 ^ j = 0 := by omega
    rw [e, h] at ht
    simp at ht

theorem sp_Taken (w : World) (b : Nat) (A : Nat → Prop) (sz : Nat) (f : Nat → Bool) (at_ : Int) (h : SpC w b A sz f) :
    Ret Try.prog 11 [.pointer (some ⟨b, 0, none⟩), .int .i64 at_].toArray w fun r w' => r = .bool (decide (0 ≤ at_) && f at_.toNat) ∧ w' = w := by
  obtain ⟨g, c, ws, ex, hB, hwc, hcm, hG, hgb, hAb, hAg, hwl, hs1, hs2, hws, hbits, hout⟩ := h
  refine enter (fn := Try.f11) (n := 32) Try.func11 rfl rfl (by simp) ?_
  refine W_seq ?_
  refine W_region ?_
  refine o_asc rfl ?_
  refine ops_nil ?_
  refine W_seq ?_
  refine W_cut [16] [7, 8, 9, 10, 11, 12, 13, 14, 15, 16] (fun vs w1 => vs = [.bool (decide (at_ < 0 ∨ (sz : Int) ≤ at_))] ∧ w1 = w) ?_ ?_
  · refine W_region ?_
    refine o_mvt rfl ?_
    refine op_run (r_lss rfl rfl) rfl ?_
    refine o_mvt rfl ?_
    refine g_split rfl rfl rfl (fun g2 => ?_) (fun g2 => ?_)
    · refine o_mvt (g_yes rfl rfl rfl g2) ?_
      refine o_mvt (g_yes rfl rfl rfl g2) ?_
      refine op_run (r_nilCheck rfl) (g_yes rfl rfl rfl g2) ?_
      refine op_run (r_fieldAddr rfl rfl rfl rfl rfl) (g_yes rfl rfl rfl g2) ?_
      refine op_run (r_load rfl rfl rfl (hB.cell rfl)) (g_yes rfl rfl rfl g2) ?_
      refine op_run (r_geq rfl rfl) (g_yes rfl rfl rfl g2) ?_
      refine o_pkFt rfl g2 rfl ?_
      refine ops_nil ?_
      exact ⟨by (repeat (first | with_reducible exact offM_refl _ _ | refine offM_updc rfl ?_ | refine offM_upd rfl ?_ | refine offM_updo rfl ?_ | refine offM_updo_none ?_ | refine offM_head rfl rfl ?_)), congrArg (fun b => [Value.bool b]) (by have := of_decide_eq_false g2; rw [decide_eq_decide]; constructor <;> intro hh <;> omega), rfl⟩
    · refine op_skip (g_no rfl rfl rfl g2) ?_
      refine op_skip (g_no rfl rfl rfl g2) ?_
      refine op_skip (g_no rfl rfl rfl g2) ?_
      refine op_skip (g_no rfl rfl rfl g2) ?_
      refine op_skip (g_no rfl rfl rfl g2) ?_
      refine op_skip (g_no rfl rfl rfl g2) ?_
      refine o_pkTc rfl g2 rfl ?_
      refine ops_nil ?_
      exact ⟨by (repeat (first | with_reducible exact offM_refl _ _ | refine offM_updc rfl ?_ | refine offM_upd rfl ?_ | refine offM_updo rfl ?_ | refine offM_updo_none ?_ | refine offM_head rfl rfl ?_)), congrArg (fun b => [Value.bool b]) (by have := of_decide_eq_true g2; symm; apply decide_eq_true; omega), rfl⟩
  · rintro J6 vs w6 ⟨rfl, rfl⟩ -
    refine W_cond_p rfl (fun h7 => ?_) (fun h7 => ?_)
    · refine W_seq ?_
      refine W_region ?_
      refine o_asc rfl ?_
      refine ops_nil ?_
      refine W_ret ?_
      refine ret1 (.bool false) rfl ?_ ?_; rfl
      refine ⟨congrArg Value.bool ?_, rfl⟩
      by_cases h0 : 0 ≤ at_
      · rw [hout _ (by omega)]; simp
      · simp [h0]
    · refine W_skip ?_
      refine W_seq ?_
      refine W_region ?_
      refine o_mvt rfl ?_
      obtain ⟨k, rfl⟩ := Int.eq_ofNat_of_zero_le (show 0 ≤ at_ by omega)
      have hk : k < sz := by omega
      have hkl : k / 64 < ws.length := by omega
      refine op_call rfl rfl rfl (sp_bit _ k (by omega)) ?_; rintro v9 w9 ⟨rfl, rfl⟩
      refine o_mvt rfl ?_
      refine op_run (r_extract rfl rfl) rfl ?_
      refine op_run (r_extract rfl rfl) rfl ?_
      refine o_ast rfl ?_
      refine o_ast rfl ?_
      refine ops_nil ?_
      refine W_seq ?_
      refine W_region ?_
      refine o_mvt rfl ?_
      refine op_run (r_nilCheck rfl) rfl ?_
      refine op_run (r_fieldAddr rfl rfl rfl rfl rfl) rfl ?_
      refine op_run (r_load rfl rfl rfl (hB.cell rfl)) rfl ?_
      refine o_mvt rfl ?_
      refine op_run (r_idxS1 rfl rfl rfl rfl (by omega) (by omega)) rfl ?_
      refine op_run (r_load rfl rfl rfl (hG.cell (get0 hkl))) rfl ?_
      refine o_mvt rfl ?_
      refine op_run (r_and rfl rfl) rfl ?_
      refine op_run (r_neq rfl rfl) rfl ?_
      refine o_ast rfl ?_
      refine ops_nil ?_
      refine W_ret ?_
      refine ret1 _ rfl rfl ?_
      refine ⟨congrArg Value.bool ((and_bit _ _ (hws _ (List.getElem_mem hkl)) (by omega)).trans ?_), rfl⟩
      rw [hbits _ _ (List.getElem?_eq_getElem hkl) _ (by omega), Nat.div_add_mod]
      simp

def clr (x j : Nat) : Nat := (BitVec.ofNat 64 x &&& ~~~BitVec.ofNat 64 (2 ^ j)).toNat
theorem clr_lt (x j : Nat) : clr x j < 2 ^ 64 := BitVec.isLt _
theorem clr_val (x j : Nat) : bitw .andNot .u64 ((x : Nat) : Int) ((2 ^ j : Nat) : Int) = ((clr x j : Nat) : Int) := by
  show IntKind.u64.wrap ((BitVec.ofInt 64 (x : Int) &&& ~~~BitVec.ofInt 64 ((2 ^ j : Nat) : Int)).toNat : Int) = _
  rw [BitVec.ofInt_natCast, BitVec.ofInt_natCast]
  exact wrap_nat rfl _ (clr_lt x j)
theorem clr_bit (x j i : Nat) (hi : i < 64) : (clr x j).testBit i = if i = j then false else x.testBit i := by
  unfold clr
  rw [BitVec.testBit_toNat, BitVec.getLsbD_and, BitVec.getLsbD_not, BitVec.getLsbD_ofNat, BitVec.getLsbD_ofNat, Nat.testBit_two_pow]
  by_cases e : i = j
  · subst e; simp [hi]
  · have e' : ¬ j = i := fun h => e h.symm
    simp [hi, e, e']
theorem set0 {ws : List Nat} {ex : List Value} {k y : Nat} (h : k < ws.length) : (ws.map c64 ++ ex).set (0 + ((k : Nat) : Int).toNat) (c64 y) = (ws.set k y).map c64 ++ ex := by
  rw [Int.toNat_natCast, Nat.zero_add, List.set_append_left _ _ (by simpa using h), List.map_set]
def turnF (f : Nat → Bool) (a n : Nat) (tk : Bool) : Nat → Bool := fun x => if a ≤ x ∧ x < a + n then tk else f x
theorem bits_step {ws : List Nat} {f : Nat → Bool} {a i y : Nat} {tk : Bool} (hb : ∀ (k x : Nat), ws[k]? = some x → ∀ j, j < 64 → x.testBit j = turnF f a i tk (64 * k + j)) (hk : (a + i) / 64 < ws.length)
    (hy : ∀ j, j < 64 → y.testBit j = if j = (a + i) % 64 then tk else (ws[(a + i) / 64]).testBit j) :
    ∀ (k x : Nat), (ws.set ((a + i) / 64) y)[k]? = some x → ∀ j, j < 64 → x.testBit j = turnF f a (i + 1) tk (64 * k + j) := by
  intro k x hx j hj
  by_cases e : (a + i) / 64 = k
  · subst e
    rw [List.getElem?_set_self hk] at hx
    cases hx
    rw [hy j hj]
    by_cases e2 : j = (a + i) % 64
    · subst e2
      rw [if_pos rfl, Nat.div_add_mod]
      unfold turnF; rw [if_pos (by omega)]
    · rw [if_neg e2, hb _ _ (List.getElem?_eq_getElem hk) j hj]
      have : 64 * ((a + i) / 64) + j ≠ a + i := by omega
      unfold turnF
      generalize 64 * ((a + i) / 64) + j = q at *
      by_cases h1 : a ≤ q ∧ q < a + i
      · rw [if_pos h1, if_pos (by omega)]
      · rw [if_neg h1, if_neg (by omega)]
  · rw [List.getElem?_set_ne e] at hx
    rw [hb _ _ hx j hj]
    have : 64 * k + j ≠ a + i := by omega
    unfold turnF
    generalize 64 * k + j = q at *
    by_cases h1 : a ≤ q ∧ q < a + i
    · rw [if_pos h1, if_pos (by omega)]
    · rw [if_neg h1, if_neg (by omega)]
theorem mem_set_lt {ws : List Nat} {k y : Nat} (h : ∀ x ∈ ws, x < 2 ^ 64) (hy : y < 2 ^ 64) : ∀ x ∈ ws.set k y, x < 2 ^ 64 := fun x hx => by
  rcases List.mem_or_eq_of_mem_set hx with h1 | h1
  · exact h x h1
  · subst h1; exact hy
theorem inc64' (k : Nat) (h : k < 9223372036854775807) : IntKind.i64.wrap ((k : Int) + 1) = ((k + 1 : Nat) : Int) := by
  rw [wrap_i64 (by omega) (by omega)]; omega

theorem sp_turn (w : World) (b : Nat) (A : Nat → Prop) (sz : Nat) (f : Nat → Bool) (at_ n : Int) (tk : Bool) (h : SpC w b A sz f) :
    Ret Try.prog 18 [.pointer (some ⟨b, 0, none⟩), .int .i64 at_, .int .i64 n, .bool tk].toArray w fun r w' =>
      if n < 0 ∨ at_ < 0 ∨ (sz : Int) < at_ ∨ (sz : Int) - at_ < n then r = .int .i64 2 ∧ w' = w
      else r = .int .i64 0 ∧ SpC w' b A sz (turnF f at_.toNat n.toNat tk) ∧ Keep (fun k => ¬ A k) w w' := by
  obtain ⟨g, c, ws, ex, hB, hwc, hcm, hG, hgb, hAb, hAg, hwl, hs1, hs2, hws, hbits, hout⟩ := h
  refine enter (fn := Try.f18) (n := 69) Try.func18 rfl rfl (by simp) ?_
  refine W_seq ?_
  refine W_region ?_
  refine o_asc rfl ?_
  refine ops_nil ?_
  refine W_seq ?_
  refine W_cut [35] [12, 13, 14, 15, 16, 17, 18, 19, 20, 21, 22, 23, 24, 25, 26, 27, 28, 29, 30, 31, 32, 33, 34, 35] (fun vs w1 => vs = [.bool (decide (n < 0 ∨ at_ < 0 ∨ (sz : Int) < at_ ∨ (sz : Int) - at_ < n))] ∧ w1 = w) ?_ ?_
  · refine W_region ?_
    refine o_mvt rfl ?_
    refine op_run (r_lss rfl rfl) rfl ?_
    refine o_mvt rfl ?_
    refine g_split rfl rfl rfl (fun g2 => ?_) (fun g2 => ?_)
    · refine o_mvt (g_yes rfl rfl rfl g2) ?_
      refine op_run (r_lss rfl rfl) (g_yes rfl rfl rfl g2) ?_
      refine o_pkFt rfl g2 rfl ?_
      refine o_mvt rfl ?_
      refine g_split rfl rfl rfl (fun g3 => ?_) (fun g3 => ?_)
      · refine o_mvt (g_yes rfl rfl rfl g3) ?_
        refine o_mvt (g_yes rfl rfl rfl g3) ?_
        refine op_run (r_nilCheck rfl) (g_yes rfl rfl rfl g3) ?_
        refine op_run (r_fieldAddr rfl rfl rfl rfl rfl) (g_yes rfl rfl rfl g3) ?_
        refine op_run (r_load rfl rfl rfl (hB.cell rfl)) (g_yes rfl rfl rfl g3) ?_
        refine op_run (r_gtr rfl rfl) (g_yes rfl rfl rfl g3) ?_
        refine o_pkFt rfl g3 rfl ?_
        refine o_mvt rfl ?_
        refine g_split rfl rfl rfl (fun g5 => ?_) (fun g5 => ?_)
        · refine o_mvt (g_yes rfl rfl rfl g5) ?_
          refine o_mvt (g_yes rfl rfl rfl g5) ?_
          refine op_run (r_nilCheck rfl) (g_yes rfl rfl rfl g5) ?_
          refine op_run (r_fieldAddr rfl rfl rfl rfl rfl) (g_yes rfl rfl rfl g5) ?_
          refine op_run (r_load rfl rfl rfl (hB.cell rfl)) (g_yes rfl rfl rfl g5) ?_
          refine o_mvt (g_yes rfl rfl rfl g5) ?_
          refine op_run ((r_sub rfl rfl).val (congrArg (Value.int .i64) (wrap_i64 (by have := of_decide_eq_false g3; have := of_decide_eq_false g5; omega) (by have := of_decide_eq_false g3; have := of_decide_eq_false g5; omega)))) (g_yes rfl rfl rfl g5) ?_
          refine op_run (r_gtr rfl rfl) (g_yes rfl rfl rfl g5) ?_
          refine o_pkFt rfl g5 rfl ?_
          refine ops_nil ?_
          exact ⟨by (repeat (first | with_reducible exact offM_refl _ _ | refine offM_updc rfl ?_ | refine offM_upd rfl ?_ | refine offM_updo rfl ?_ | refine offM_updo_none ?_ | refine offM_head rfl rfl ?_)), congrArg (fun b => [Value.bool b]) (by have := of_decide_eq_false g2; have := of_decide_eq_false g3; have := of_decide_eq_false g5; rw [decide_eq_decide]; constructor <;> intro hh <;> omega), rfl⟩
        · refine op_skip (g_no rfl rfl rfl g5) ?_
          refine op_skip (g_no rfl rfl rfl g5) ?_
          refine op_skip (g_no rfl rfl rfl g5) ?_
          refine op_skip (g_no rfl rfl rfl g5) ?_
          refine op_skip (g_no rfl rfl rfl g5) ?_
          refine op_skip (g_no rfl rfl rfl g5) ?_
          refine op_skip (g_no rfl rfl rfl g5) ?_
          refine op_skip (g_no rfl rfl rfl g5) ?_
          refine o_pkTc rfl g5 rfl ?_
          refine ops_nil ?_
          exact ⟨by (repeat (first | with_reducible exact offM_refl _ _ | refine offM_updc rfl ?_ | refine offM_upd rfl ?_ | refine offM_updo rfl ?_ | refine offM_updo_none ?_ | refine offM_head rfl rfl ?_)), congrArg (fun b => [Value.bool b]) (by have := of_decide_eq_true g5; symm; apply decide_eq_true; omega), rfl⟩
      · refine op_skip (g_no rfl rfl rfl g3) ?_
        refine op_skip (g_no rfl rfl rfl g3) ?_
        refine op_skip (g_no rfl rfl rfl g3) ?_
        refine op_skip (g_no rfl rfl rfl g3) ?_
        refine op_skip (g_no rfl rfl rfl g3) ?_
        refine op_skip (g_no rfl rfl rfl g3) ?_
        refine o_pkTc rfl g3 rfl ?_
        refine o_mvt rfl ?_
        refine op_skip (g_no rfl rfl rfl rfl) ?_
        refine op_skip (g_no rfl rfl rfl rfl) ?_
        refine op_skip (g_no rfl rfl rfl rfl) ?_
        refine op_skip (g_no rfl rfl rfl rfl) ?_
        refine op_skip (g_no rfl rfl rfl rfl) ?_
        refine op_skip (g_no rfl rfl rfl rfl) ?_
        refine op_skip (g_no rfl rfl rfl rfl) ?_
        refine op_skip (g_no rfl rfl rfl rfl) ?_
        refine o_pkTc rfl rfl rfl ?_
        refine ops_nil ?_
        exact ⟨by (repeat (first | with_reducible exact offM_refl _ _ | refine offM_updc rfl ?_ | refine offM_upd rfl ?_ | refine offM_updo rfl ?_ | refine offM_updo_none ?_ | refine offM_head rfl rfl ?_)), congrArg (fun b => [Value.bool b]) (by have := of_decide_eq_true g3; symm; apply decide_eq_true; omega), rfl⟩
    · refine op_skip (g_no rfl rfl rfl g2) ?_
      refine op_skip (g_no rfl rfl rfl g2) ?_
      refine o_pkTc rfl g2 rfl ?_
      refine o_mvt rfl ?_
      refine op_skip (g_no rfl rfl rfl rfl) ?_
      refine op_skip (g_no rfl rfl rfl rfl) ?_
      refine op_skip (g_no rfl rfl rfl rfl) ?_
      refine op_skip (g_no rfl rfl rfl rfl) ?_
      refine op_skip (g_no rfl rfl rfl rfl) ?_
      refine op_skip (g_no rfl rfl rfl rfl) ?_
      refine o_pkTc rfl rfl rfl ?_
      refine o_mvt rfl ?_
      refine op_skip (g_no rfl rfl rfl rfl) ?_
      refine op_skip (g_no rfl rfl rfl rfl) ?_
      refine op_skip (g_no rfl rfl rfl rfl) ?_
      refine op_skip (g_no rfl rfl rfl rfl) ?_
      refine op_skip (g_no rfl rfl rfl rfl) ?_
      refine op_skip (g_no rfl rfl rfl rfl) ?_
      refine op_skip (g_no rfl rfl rfl rfl) ?_
      refine op_skip (g_no rfl rfl rfl rfl) ?_
      refine o_pkTc rfl rfl rfl ?_
      refine ops_nil ?_
      exact ⟨by (repeat (first | with_reducible exact offM_refl _ _ | refine offM_updc rfl ?_ | refine offM_upd rfl ?_ | refine offM_updo rfl ?_ | refine offM_updo_none ?_ | refine offM_head rfl rfl ?_)), congrArg (fun b => [Value.bool b]) (by have := of_decide_eq_true g2; symm; apply decide_eq_true; omega), rfl⟩
  · rintro J11 vs w11 ⟨rfl, rfl⟩ -
    refine W_cond_p rfl (fun h12 => ?_) (fun h12 => ?_)
    · refine W_seq ?_
      refine W_region ?_
      refine o_asc rfl ?_
      refine ops_nil ?_
      refine W_ret ?_
      refine ret1 (.int .i64 2) rfl ?_ ?_; rfl
      rw [if_pos h12]; exact ⟨rfl, rfl⟩
    · refine W_skip ?_
      refine W_seq ?_
      refine W_seq ?_
      refine W_region ?_
      refine o_mvt rfl ?_
      refine o_mvc rfl ?_
      refine ops_nil ?_
      refine W_block ?_
      obtain ⟨a, rfl⟩ := Int.eq_ofNat_of_zero_le (show 0 ≤ at_ by omega)
      obtain ⟨m, rfl⟩ := Int.eq_ofNat_of_zero_le (show 0 ≤ n by omega)
      refine W_loop [37] [9, 10, 11, 37, 38, 39, 40, 41, 42, 43, 44, 45, 46, 47, 48, 49, 50, 51, 52, 53, 54, 55, 56, 57, 58, 59, 60, 61, 62, 63, 64, 65, 66, 67, 68] (fun vs w' => ∃ (i : Nat) (ws' : List Nat), vs = [.int .i64 i] ∧ i ≤ m ∧ Blk w' g (ws'.map c64 ++ ex) 51 ∧ ws'.length = ws.length ∧ (∀ x ∈ ws', x < 2 ^ 64) ∧ (∀ (k x : Nat), ws'[k]? = some x → ∀ j, j < 64 → x.testBit j = turnF f a i tk (64 * k + j)) ∧ Keep (· ≠ g) w11 w') (fun vs _ => match vs with | [.int _ i] => m - i.toNat | _ => 0) ⟨0, ws, rfl, by omega, hG, rfl, hws, (fun k x hx j hj => by rw [hbits k x hx j hj]; unfold turnF; rw [if_neg (by omega)]), Keep.refl _⟩ ?_
      rintro J vs w2 ⟨i, ws', rfl, hi, hG2, hwl2, hws2, hbits2, hk2⟩ -
      have hB2 := hk2.blk' hB (by omega)
      have hadd : IntKind.i64.wrap ((a : Int) + (i : Int)) = ((a + i : Nat) : Int) := by rw [wrap_i64 (by omega) (by omega)]; omega
      refine W_seq ?_
      refine W_region ?_
      refine op_run (r_lss rfl rfl) rfl ?_
      refine ops_nil ?_
      refine W_seq ?_
      refine W_cond_p rfl (fun h15 => ?_) (fun h15 => ?_)
      · refine W_skip ?_
        refine W_seq ?_
        refine W_block ?_
        refine W_seq ?_
        refine W_region ?_
        refine o_mvt rfl ?_
        refine o_ast rfl ?_
        refine ops_nil ?_
        refine W_seq ?_
        refine W_region ?_
        refine o_mvt rfl ?_
        refine o_mvt rfl ?_
        refine op_run ((r_add rfl rfl).val (congrArg (Value.int .i64) hadd)) rfl ?_
        have him : i < m := by omega
        have hinc := inc64' i (by omega)
        have hkl : (a + i) / 64 < ws'.length := by omega
        have hx64 := hws2 _ (List.getElem_mem hkl)
        have hj64 : (a + i) % 64 < 64 := by omega
        refine op_call rfl rfl rfl (sp_bit _ (a + i) (by omega)) ?_; rintro v16 w16 ⟨rfl, rfl⟩
        refine o_mvt rfl ?_
        refine op_run (r_extract rfl rfl) rfl ?_
        refine op_run (r_extract rfl rfl) rfl ?_
        refine o_ast rfl ?_
        refine o_ast rfl ?_
        refine ops_nil ?_
        refine W_seq ?_
        refine W_region ?_
        refine o_mvt rfl ?_
        refine op_run (r_nilCheck rfl) rfl ?_
        refine op_run (r_fieldAddr rfl rfl rfl rfl rfl) rfl ?_
        refine op_run (r_load rfl rfl rfl (hB2.cell rfl)) rfl ?_
        refine o_mvt rfl ?_
        refine op_run (r_idxS1 rfl rfl rfl rfl (by omega) (by omega)) rfl ?_
        refine op_run (r_load rfl rfl rfl (hG2.cell (get0 hkl))) rfl ?_
        refine o_mvt rfl ?_
        refine op_run (r_andNot rfl rfl) rfl ?_
        refine op_run (r_idxS1 rfl rfl rfl rfl (by omega) (by omega)) rfl ?_
        refine o_store (v := c64 (clr (ws'[(a + i) / 64]) ((a + i) % 64))) rfl (.trans rfl (congrArg (Value.int .u64) (clr_val _ _))) rfl rfl hG2 (by rw [List.length_append, List.length_map]; omega) rfl ?_; intro w21 hB21 hk21 hs21
        rw [set0 hkl] at hB21
        have hB21b := hk21.blk' hB2 (by omega)
        have hkl3 : (a + i) / 64 < (ws'.set ((a + i) / 64) (clr (ws'[(a + i) / 64]) ((a + i) % 64))).length := by rw [List.length_set]; exact hkl
        have hget3 : (ws'.set ((a + i) / 64) (clr (ws'[(a + i) / 64]) ((a + i) % 64)))[(a + i) / 64] = clr (ws'[(a + i) / 64]) ((a + i) % 64) := List.getElem_set_self _
        have hp64 : 2 ^ ((a + i) % 64) < 2 ^ 64 := Nat.pow_lt_pow_right (by omega) hj64
        refine ops_nil ?_
        refine W_seq ?_
        refine W_region ?_
        refine o_mvt rfl ?_
        refine ops_nil ?_
        refine W_cond rfl (fun h22 => ?_) (fun h22 => ?_)
        · refine W_region ?_
          refine o_mvt rfl ?_
          refine op_run (r_nilCheck rfl) rfl ?_
          refine op_run (r_fieldAddr rfl rfl rfl rfl rfl) rfl ?_
          refine op_run (r_load rfl rfl rfl (hB21b.cell rfl)) rfl ?_
          refine o_mvt rfl ?_
          refine op_run (r_idxS1 rfl rfl rfl rfl (by omega) (by omega)) rfl ?_
          refine op_run (r_load rfl rfl rfl (hB21.cell (get0 hkl3))) rfl ?_
          refine o_mvt rfl ?_
          refine op_run (r_or rfl rfl) rfl ?_
          refine op_run (r_idxS1 rfl rfl rfl rfl (by omega) (by omega)) rfl ?_
          refine o_store (v := c64 (clr (ws'[(a + i) / 64]) ((a + i) % 64) ||| 2 ^ ((a + i) % 64))) rfl (.trans rfl (congrArg (Value.int .u64) (by rw [hget3]; exact bitw_or (k := .u64) rfl _ _ (clr_lt _ _) hp64))) rfl rfl hB21 (by rw [List.length_append, List.length_map]; omega) rfl ?_; intro w27 hB27 hk27 hs27
          rw [set0 hkl3, List.set_set] at hB27
          refine ops_nil ?_
          refine W_region ?_
          refine op_run (r_add rfl rfl) rfl ?_
          refine o_mvt rfl ?_
          refine ops_nil ?_
          refine ⟨by (repeat (first | with_reducible exact offM_refl _ _ | refine offM_updc rfl ?_ | refine offM_upd rfl ?_ | refine offM_updo rfl ?_ | refine offM_updo_none ?_ | refine offM_head rfl rfl ?_)), ⟨i + 1, _, ?_, by omega, hB27, by rw [List.length_set]; exact hwl2, mem_set_lt hws2 (Nat.or_lt_two_pow (clr_lt _ _) hp64), ?_, (hk2.trans hk21).trans hk27⟩, ?_⟩
          · rw [← hinc]; rfl
          · refine bits_step hbits2 hkl fun j hj => ?_
            rw [Nat.testBit_or, clr_bit _ _ _ hj, Nat.testBit_two_pow, h22]
            by_cases e : j = (a + i) % 64
            · simp [e]
            · have e' : ¬ (a + i) % 64 = j := fun h => e h.symm
              simp [e, e']
          · show m - (IntKind.i64.wrap ((i : Int) + 1)).toNat < m - (i : Int).toNat
            rw [hinc]; omega
        · refine W_skip ?_
          refine W_region ?_
          refine op_run (r_add rfl rfl) rfl ?_
          refine o_mvt rfl ?_
          refine ops_nil ?_
          refine ⟨by (repeat (first | with_reducible exact offM_refl _ _ | refine offM_updc rfl ?_ | refine offM_upd rfl ?_ | refine offM_updo rfl ?_ | refine offM_updo_none ?_ | refine offM_head rfl rfl ?_)), ⟨i + 1, _, ?_, by omega, hB21, by rw [List.length_set]; exact hwl2, mem_set_lt hws2 (clr_lt _ _), ?_, hk2.trans hk21⟩, ?_⟩
          · rw [← hinc]; rfl
          · refine bits_step hbits2 hkl fun j hj => ?_
            rw [clr_bit _ _ _ hj, h22]
          · show m - (IntKind.i64.wrap ((i : Int) + 1)).toNat < m - (i : Int).toNat
            rw [hinc]; omega
      · refine W_exit ?_
        refine W_seq ?_
        refine W_region ?_
        refine o_asc rfl ?_
        refine ops_nil ?_
        refine W_ret ?_
        refine ret1 (.int .i64 0) rfl ?_ ?_; rfl
        rw [if_neg h12]
        have e : i = m := by omega
        subst e
        refine ⟨rfl, ⟨g, c, ws', ex, by rw [hwl2]; exact hB2, by omega, hcm, hG2, hgb, hAb, hAg, by omega, hs1, hs2, hws2, hbits2, ?_⟩, hk2.mono ?_⟩
        · intro q hq
          simp only [Int.toNat_natCast]
          unfold turnF; rw [if_neg (by omega), hout q hq]
        · intro k _ hk e; subst e; exact hk hAg
end Go.Proofs.Ytcmkfembphakiaa.B
