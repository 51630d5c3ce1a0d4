/-
  pack.In reads a number, and bytes.
-/
import Derived.Test.YtcbbodjcgjbfaaaPackIn
namespace Go.Proofs.Ytcbbodjcgjbfaaa.B
open Go
set_option linter.unusedVariables false
set_option maxHeartbeats 2000000
set_option maxRecDepth 100000
attribute [local irreducible] W OpsW OpsQ retP
/-- A number is read: at shift s, v in hand. -/
def decN (most : Nat) : Nat → Nat → List UInt8 → Option (Nat × List UInt8)
  | _, _, [] => none
  | s, v, x :: xs =>
    if 63 < s ∨ 2 ^ 64 ≤ v + x.toNat % 128 * 2 ^ s ∨ (x.toNat = 0 ∧ 0 < s) then none
    else if 128 ≤ x.toNat then decN most (s + 7) (v + x.toNat % 128 * 2 ^ s) xs
    else if most < v + x.toNat % 128 * 2 ^ s then none else some (v + x.toNat % 128 * 2 ^ s, xs)
def numR (most : Nat) (bs : List UInt8) (bad : Bool) : Nat × List UInt8 × Bool := match decN most 0 0 bs with
  | none => (0, [], true)
  | some (v, r) => (v, r, bad)
theorem numR_none {most : Nat} {bs : List UInt8} {bad : Bool} (h : decN most 0 0 bs = none) : numR most bs bad = (0, [], true) := by unfold numR; rw [h]
theorem numR_some {most v : Nat} {bs r : List UInt8} {bad : Bool} (h : decN most 0 0 bs = some (v, r)) : numR most bs bad = (v, r, bad) := by unfold numR; rw [h]
theorem andNot128 : ∀ z : Fin 256, bitw .andNot .u8 (z.val : Int) 128 = ((z.val % 128 : Nat) : Int) := by decide +kernel
theorem lo7 (x : UInt8) : bitw .andNot .u8 (x.toNat : Int) 128 = ((x.toNat % 128 : Nat) : Int) := andNot128 ⟨x.toNat, x.toNat_lt⟩
theorem shl_val (p s : Nat) (hs : s ≤ 63) : IntKind.u64.wrap (((p : Nat) : Int) * 2 ^ (min ((s : Nat) : Int).toNat IntKind.u64.bits)) = ((p * 2 ^ s % 2 ^ 64 : Nat) : Int) := by
  have e : min ((s : Nat) : Int).toNat IntKind.u64.bits = s := by rw [Int.toNat_natCast]; exact Nat.min_eq_left (by show s ≤ 64; omega)
  have h1 : ((p : Nat) : Int) * 2 ^ s = ((p * 2 ^ s : Nat) : Int) := by push_cast; rfl
  rw [e, wrap_u64, h1]
  generalize p * 2 ^ s = m
  omega
theorem pow_split {s : Nat} (hs : s ≤ 63) : 2 ^ 64 = 2 ^ s * 2 ^ (64 - s) := by rw [← Nat.pow_add]; congr 1; omega
theorem shl_mul {p s : Nat} (hs : s ≤ 63) : p * 2 ^ s % 2 ^ 64 = 2 ^ s * (p % 2 ^ (64 - s)) := by
  rw [pow_split hs, Nat.mul_comm p, Nat.mul_mod_mul_left]
theorem or_add {v p s : Nat} (hv : v < 2 ^ s) (hs : s ≤ 63) : v ||| (p * 2 ^ s % 2 ^ 64) = v + p * 2 ^ s % 2 ^ 64 := by
  rw [shl_mul hs, Nat.mul_comm (2 ^ s), ← Nat.shiftLeft_eq, Nat.or_comm, ← Nat.shiftLeft_add_eq_or_of_lt hv, Nat.add_comm]
theorem no_ovf {v p s : Nat} (hv : v < 2 ^ s) (hs : s ≤ 63) : ((v + p * 2 ^ s % 2 ^ 64) / 2 ^ s = p ↔ v + p * 2 ^ s < 2 ^ 64) := by
  have hp : 0 < 2 ^ s := Nat.pow_pos (by omega)
  rw [shl_mul hs, Nat.add_mul_div_left _ _ hp, Nat.div_eq_of_lt hv, Nat.zero_add, pow_split hs]
  constructor
  · intro h
    have h1 : p < 2 ^ (64 - s) := by rw [← h]; exact Nat.mod_lt _ (Nat.pow_pos (by omega))
    have h2 : 2 ^ s * (p + 1) ≤ 2 ^ s * 2 ^ (64 - s) := Nat.mul_le_mul_left _ h1
    rw [Nat.mul_add, Nat.mul_one, Nat.mul_comm _ p] at h2
    omega
  · intro h
    apply Nat.mod_eq_of_lt
    rcases Nat.lt_or_ge p (2 ^ (64 - s)) with h1 | h1
    · exact h1
    · have h2 := Nat.mul_le_mul_left (2 ^ s) h1
      rw [Nat.mul_comm _ p] at h2
      omega
theorem inc7 (s : Nat) (h : s ≤ 100) : IntKind.i64.wrap ((s : Int) + 7) = ((s + 7 : Nat) : Int) := by rw [wrap_i64 (by omega) (by omega)]; omega
theorem decN_cons {most s v : Nat} {x : UInt8} {xs : List UInt8} : decN most s v (x :: xs) =
    if 63 < s ∨ 2 ^ 64 ≤ v + x.toNat % 128 * 2 ^ s ∨ (x.toNat = 0 ∧ 0 < s) then none
    else if 128 ≤ x.toNat then decN most (s + 7) (v + x.toNat % 128 * 2 ^ s) xs
    else if most < v + x.toNat % 128 * 2 ^ s then none else some (v + x.toNat % 128 * 2 ^ s, xs) := rfl

theorem in_Number (w : World) (b : Nat) (A : Nat → Prop) (bs : List UInt8) (bad : Bool) (most : Nat) (hAb : ¬ A b) (h : InC w b A bs bad) :
    Ret Try.prog 25 [.pointer (some ⟨b, 0, none⟩), .int .u64 most].toArray w fun r w' =>
      r = .int .u64 (numR most bs bad).1 ∧ InC w' b A (numR most bs bad).2.1 (numR most bs bad).2.2 ∧ Keep (· ≠ b) w w' := by
  refine enter (fn := Try.f25) (n := 76) Try.func25 rfl rfl (by simp) ?_
  refine W_seq ?_
  refine W_region ?_
  refine o_asc rfl ?_
  refine ops_nil ?_
  refine W_seq ?_
  refine W_region ?_
  refine o_asc rfl ?_
  refine ops_nil ?_
  refine W_block ?_
  refine W_loop [4, 5] [4, 5, 6, 7, 8, 9, 10, 11, 12, 13, 14, 15, 16, 17, 18, 19, 20, 21, 22, 23, 24, 25, 26, 27, 28, 29, 30, 31, 32, 33, 34, 35, 36, 37, 38, 39, 40, 41, 42, 43, 44, 45, 46, 47, 48, 49, 50, 51, 52, 53, 54, 55, 56, 57, 58, 59, 60, 61, 62, 63, 64, 65, 66, 67, 68, 69, 70, 71, 72, 73, 74, 75] (fun vs w' => ∃ (s v : Nat) (bs' : List UInt8), vs = [.int .u64 v, .int .i64 s] ∧ v < 2 ^ 64 ∧ v < 2 ^ s ∧ s ≤ 70 ∧ InC w' b A bs' bad ∧ decN most 0 0 bs = decN most s v bs' ∧ Keep (· ≠ b) w w') (fun vs _ => match vs with | [_, .int _ s] => 80 - s.toNat | _ => 0) ⟨0, 0, bs, rfl, by omega, by omega, by omega, h, rfl, Keep.refl _⟩ ?_
  rintro J vs w1 ⟨s, v, bs', rfl, hv, hvs, hs, ⟨vb, hB, hx, hIA⟩, hdec, hk1⟩ -
  have hxl := hx.len_le
  obtain ⟨a, c, rfl, hc, hcm⟩ := hx.form
  refine W_seq ?_
  refine W_block ?_
  refine W_seq ?_
  refine W_cut [20] [11, 12, 13, 14, 15, 16, 17, 18, 19, 20] (fun vs w2 => vs = [.bool (decide (bs'.length = 0 ∨ 63 < s))] ∧ w2 = w1) ?_ ?_
  · refine W_region ?_
    refine o_mvt rfl ?_
    refine op_run (r_nilCheck rfl) rfl ?_
    refine op_run (r_fieldAddr rfl rfl rfl rfl rfl) rfl ?_
    refine op_run (r_load rfl rfl rfl (hB.cell rfl)) rfl ?_
    refine op_run (r_len rfl rfl rfl) rfl ?_
    refine op_run (r_eql rfl rfl) rfl ?_
    refine o_mvt rfl ?_
    refine g_split rfl rfl rfl (fun g4 => ?_) (fun g4 => ?_)
    · refine o_mvt (g_yes rfl rfl rfl g4) ?_
      refine op_run (r_gtr rfl rfl) (g_yes rfl rfl rfl g4) ?_
      refine o_pkFt rfl g4 rfl ?_
      refine ops_nil ?_
      exact ⟨by (repeat (first | with_reducible exact offM_refl _ _ | refine offM_updc rfl ?_ | refine offM_upd rfl ?_ | refine offM_updo rfl ?_ | refine offM_updo_none ?_ | refine offM_head rfl rfl ?_)), congrArg (fun b => [Value.bool b]) (by have := of_decide_eq_false g4; rw [decide_eq_decide]; constructor <;> intro hh <;> omega), rfl⟩
    · refine op_skip (g_no rfl rfl rfl g4) ?_
      refine op_skip (g_no rfl rfl rfl g4) ?_
      refine o_pkTc rfl g4 rfl ?_
      refine ops_nil ?_
      exact ⟨by (repeat (first | with_reducible exact offM_refl _ _ | refine offM_updc rfl ?_ | refine offM_upd rfl ?_ | refine offM_updo rfl ?_ | refine offM_updo_none ?_ | refine offM_head rfl rfl ?_)), congrArg (fun b => [Value.bool b]) (by have := of_decide_eq_true g4; symm; apply decide_eq_true; omega), rfl⟩
  · rintro J7 vs w7 ⟨rfl, rfl⟩ -
    refine W_cond_p rfl (fun h8 => ?_) (fun h8 => ?_)
    · refine W_seq ?_
      refine W_region ?_
      refine o_mvt rfl ?_
      refine op_call rfl rfl rfl (in_fail _ b _ _ hB) ?_; rintro v9 w9 ⟨hB9, hk9⟩
      refine ops_nil ?_
      refine W_seq ?_
      refine W_region ?_
      refine o_asc rfl ?_
      refine ops_nil ?_
      refine W_ret ?_
      refine ret1 (.int .u64 0) rfl ?_ ?_; rfl
      have hd : decN most 0 0 bs = none := by
        rw [hdec]
        match bs' with
        | [] => rfl
        | x :: xs => rw [decN_cons, if_pos (.inl (by simp at h8; omega))]
      rw [numR_none hd]
      exact ⟨rfl, InC.failed hB9, hk1.trans hk9⟩
    · refine W_skip ?_
      refine W_seq ?_
      refine W_region ?_
      refine o_mvt rfl ?_
      refine op_run (r_nilCheck rfl) rfl ?_
      refine op_run (r_fieldAddr rfl rfl rfl rfl rfl) rfl ?_
      obtain ⟨x, xs, rfl⟩ : ∃ x xs, bs' = x :: xs := by
        match bs' with
        | [] => simp at h8
        | x :: xs => exact ⟨x, xs, rfl⟩
      have hs63 : s ≤ 63 := by omega
      have hlen : (x :: xs).length = xs.length + 1 := rfl
      obtain ⟨b0, off0, c0, e0, _, _, hcell⟩ := hx.at (by omega)
      cases e0
      have hx7 := x.toNat_lt
      have hor : bitw .or .u64 ((v : Nat) : Int) ((x.toNat % 128 * 2 ^ s % 2 ^ 64 : Nat) : Int) = ((v + x.toNat % 128 * 2 ^ s % 2 ^ 64 : Nat) : Int) := by
        rw [bitw_or (k := .u64) rfl v (x.toNat % 128 * 2 ^ s % 2 ^ 64) hv (Nat.mod_lt _ (Nat.two_pow_pos 64)), or_add hvs hs63]
      have hshr : ((v + x.toNat % 128 * 2 ^ s % 2 ^ 64 : Nat) : Int).fdiv (2 ^ (min ((s : Nat) : Int).toNat IntKind.u64.bits)) = (((v + x.toNat % 128 * 2 ^ s % 2 ^ 64) / 2 ^ s : Nat) : Int) := by
        rw [fdiv_nat, Nat.min_eq_left (by show s ≤ 64; omega)]
      have hnov := no_ovf (p := x.toNat % 128) hvs hs63
      refine op_run (r_load rfl rfl rfl (hB.cell rfl)) rfl ?_
      refine op_run (r_idxS1 rfl rfl rfl rfl (by omega) (by omega)) rfl ?_
      refine op_run (r_load rfl rfl rfl (hcell 0 _ rfl)) rfl ?_
      refine o_ast rfl ?_
      refine ops_nil ?_
      refine W_seq ?_
      refine W_region ?_
      refine o_mvt rfl ?_
      refine o_mvt rfl ?_
      refine op_run (r_nilCheck rfl) rfl ?_
      refine op_run (r_fieldAddr rfl rfl rfl rfl rfl) rfl ?_
      refine op_run (r_load rfl rfl rfl (hB.cell rfl)) rfl ?_
      refine op_run (r_sliceS_lo rfl rfl rfl rfl (by omega) (by omega)) rfl ?_
      refine op_run (r_nilCheck rfl) rfl ?_
      refine op_run (r_fieldAddr rfl rfl rfl rfl rfl) rfl ?_
      refine o_store (v := subSl (some ⟨b0, off0, none⟩) 1 1 (x :: xs).length c) rfl rfl rfl rfl hB (by exact Nat.zero_lt_succ _) rfl ?_; intro w16 hB16 hk16 hs16
      have hne : InB (· ≠ b) (.slice (some ⟨b0, off0, none⟩) (x :: xs).length c) := fun k hk e => hAb (by have := hIA k hk; rwa [e] at this)
      have hx16 : By w16 (subSl (some ⟨b0, off0, none⟩) 1 1 (x :: xs).length c) xs := by
        have h2 := hx.sub (l := 1) (h := (x :: xs).length) (m := c) (by omega) (Nat.le_refl _) (by omega) (by omega)
        rw [List.take_length, List.drop_one, List.tail_cons] at h2
        exact h2.keep hk16 (InB.sub hne)
      have hin : InC w16 b A xs bad := ⟨_, hB16, hx16, hIA.sub⟩
      have hk16' := hk1.trans hk16
      refine ops_nil ?_
      refine W_seq ?_
      refine W_region ?_
      refine o_mvt rfl ?_
      refine op_run ((r_andNot rfl rfl).val (congrArg (Value.int .u8) (lo7 x))) rfl ?_
      refine op_run ((r_conv rfl rfl rfl).val (congrArg (Value.int .u64) (wrap_nat rfl _ (by show _ < 2 ^ 64; omega)))) rfl ?_
      refine o_ast rfl ?_
      refine ops_nil ?_
      refine W_seq ?_
      refine W_region ?_
      refine o_mvt rfl ?_
      refine o_mvt rfl ?_
      refine o_mvt rfl ?_
      refine op_run ((r_shl rfl rfl (by omega)).val (congrArg (Value.int .u64) (shl_val _ s hs63))) rfl ?_
      refine op_run ((r_or rfl rfl).val (congrArg (Value.int .u64) hor)) rfl ?_
      refine o_ast rfl ?_
      refine ops_nil ?_
      refine W_seq ?_
      refine W_region ?_
      refine o_mvt rfl ?_
      refine op_run (r_lss rfl rfl) rfl ?_
      refine o_ast rfl ?_
      refine ops_nil ?_
      refine W_block ?_
      refine W_seq ?_
      refine W_seq ?_
      refine W_region ?_
      refine o_mvt rfl ?_
      refine o_mvt rfl ?_
      refine op_run ((r_shr rfl rfl (by omega)).val (congrArg (Value.int .u64) (hshr))) rfl ?_
      refine o_mvt rfl ?_
      refine op_run (r_neq rfl rfl) rfl ?_
      refine o_ast rfl ?_
      refine ops_nil ?_
      refine W_cond_p rfl (fun h19 => ?_) (fun h19 => ?_)
      · refine W_skip ?_
        refine W_yes rfl ((decide_eq_true h19)) ?_
        refine W_seq ?_
        refine W_region ?_
        refine o_mvt rfl ?_
        refine op_call rfl rfl rfl (in_fail _ b _ _ hB16) ?_; rintro v21 w21 ⟨hB21, hk21⟩
        refine ops_nil ?_
        refine W_seq ?_
        refine W_region ?_
        refine o_asc rfl ?_
        refine ops_nil ?_
        refine W_ret ?_
        refine ret1 (.int .u64 0) rfl ?_ ?_; rfl
        have hov : ¬ v + x.toNat % 128 * 2 ^ s < 2 ^ 64 := fun hh => h19 (by have := hnov.2 hh; omega)
        have hd : decN most 0 0 bs = none := by rw [hdec, decN_cons, if_pos (.inr (.inl (by omega)))]
        rw [numR_none hd]
        exact ⟨rfl, InC.failed hB21, hk16'.trans hk21⟩
      · refine W_region ?_
        refine o_mvt rfl ?_
        refine o_mvt rfl ?_
        have hov : v + x.toNat % 128 * 2 ^ s < 2 ^ 64 := hnov.1 (by have := Decidable.not_not.1 h19; omega)
        have hmod : x.toNat % 128 * 2 ^ s % 2 ^ 64 = x.toNat % 128 * 2 ^ s := Nat.mod_eq_of_lt (by omega)
        refine g_split rfl rfl rfl (fun g34 => ?_) (fun g34 => ?_)
        · refine o_mvt (g_yes rfl rfl rfl g34) ?_
          refine op_run (r_eql rfl rfl) (g_yes rfl rfl rfl g34) ?_
          refine o_pkTt rfl g34 rfl ?_
          refine o_mvt rfl ?_
          refine g_split rfl rfl rfl (fun g35 => ?_) (fun g35 => ?_)
          · refine o_mvt (g_yes rfl rfl rfl g35) ?_
            refine op_run (r_gtr rfl rfl) (g_yes rfl rfl rfl g35) ?_
            refine o_pkTt rfl g35 rfl ?_
            refine o_ast rfl ?_
            refine ops_nil ?_
            refine W_cond_p rfl (fun h36 => ?_) (fun h36 => ?_)
            · refine W_seq ?_
              refine W_region ?_
              refine o_mvt rfl ?_
              refine op_call rfl rfl rfl (in_fail _ b _ _ hB16) ?_; rintro v37 w37 ⟨hB37, hk37⟩
              refine ops_nil ?_
              refine W_seq ?_
              refine W_region ?_
              refine o_asc rfl ?_
              refine ops_nil ?_
              refine W_ret ?_
              refine ret1 (.int .u64 0) rfl ?_ ?_; rfl
              have hd : decN most 0 0 bs = none := by rw [hdec, decN_cons, if_pos (.inr (.inr ⟨by have := of_decide_eq_true g35; omega, by omega⟩))]
              rw [numR_none hd]
              exact ⟨rfl, InC.failed hB37, hk16'.trans hk37⟩
            · refine W_cut [64] [64, 65, 66, 67, 68, 69, 70] (fun vs w39 => vs = [.bool (decide (most < v + x.toNat % 128 * 2 ^ s))] ∧ w39 = w16) ?_ ?_
              · refine W_region ?_
                refine o_mvt rfl ?_
                refine o_mvt rfl ?_
                refine o_mvt (g_yes rfl rfl rfl g34) ?_
                refine o_mvt (g_yes rfl rfl rfl g34) ?_
                refine op_run (r_gtr rfl rfl) (g_yes rfl rfl rfl g34) ?_
                refine o_pkTt rfl g34 rfl ?_
                refine o_ast rfl ?_
                refine ops_nil ?_
                exact ⟨by (repeat (first | with_reducible exact offM_refl _ _ | refine offM_updc rfl ?_ | refine offM_upd rfl ?_ | refine offM_updo rfl ?_ | refine offM_updo_none ?_ | refine offM_head rfl rfl ?_)), congrArg (fun b => [Value.bool b]) (by rw [decide_eq_decide]; omega), rfl⟩
              · rintro J41 vs w41 ⟨rfl, rfl⟩ -
                refine W_cond_p rfl (fun h42 => ?_) (fun h42 => ?_)
                · refine W_seq ?_
                  refine W_region ?_
                  refine o_mvt rfl ?_
                  refine op_call rfl rfl rfl (in_fail _ b _ _ hB16) ?_; rintro v43 w43 ⟨hB43, hk43⟩
                  refine ops_nil ?_
                  refine W_seq ?_
                  refine W_region ?_
                  refine o_asc rfl ?_
                  refine ops_nil ?_
                  refine W_ret ?_
                  refine ret1 (.int .u64 0) rfl ?_ ?_; rfl
                  have hd : decN most 0 0 bs = none := by
                    rw [hdec, decN_cons, if_neg (by rintro (h1 | h1 | h1) <;> omega), if_neg (by have := of_decide_eq_true g34; omega), if_pos h42]
                  rw [numR_none hd]
                  exact ⟨rfl, InC.failed hB43, hk16'.trans hk43⟩
                · refine W_seq ?_
                  refine W_region ?_
                  refine o_mvt rfl ?_
                  refine o_ast rfl ?_
                  refine ops_nil ?_
                  refine W_yes rfl g34 ?_
                  refine W_seq ?_
                  refine W_region ?_
                  refine o_mvt rfl ?_
                  refine o_ast rfl ?_
                  refine ops_nil ?_
                  refine W_ret ?_
                  refine ret1 (.int .u64 (v + x.toNat % 128 * 2 ^ s % 2 ^ 64 : Nat)) rfl ?_ ?_; rfl
                  have hd : decN most 0 0 bs = some (v + x.toNat % 128 * 2 ^ s, xs) := by
                    rw [hdec, decN_cons, if_neg (by rintro (h1 | h1 | h1) <;> omega), if_neg (by have := of_decide_eq_true g34; omega), if_neg h42]
                  rw [numR_some hd]
                  exact ⟨by rw [hmod], hin, hk16'⟩
          · refine op_skip (g_no rfl rfl rfl g35) ?_
            refine op_skip (g_no rfl rfl rfl g35) ?_
            refine o_pkFc rfl g35 rfl ?_
            refine o_ast rfl ?_
            refine ops_nil ?_
            refine W_no rfl rfl ?_
            refine W_cut [64] [64, 65, 66, 67, 68, 69, 70] (fun vs w46 => vs = [.bool (decide (most < v + x.toNat % 128 * 2 ^ s))] ∧ w46 = w16) ?_ ?_
            · refine W_region ?_
              refine o_mvt rfl ?_
              refine o_mvt rfl ?_
              refine o_mvt (g_yes rfl rfl rfl g34) ?_
              refine o_mvt (g_yes rfl rfl rfl g34) ?_
              refine op_run (r_gtr rfl rfl) (g_yes rfl rfl rfl g34) ?_
              refine o_pkTt rfl g34 rfl ?_
              refine o_ast rfl ?_
              refine ops_nil ?_
              exact ⟨by (repeat (first | with_reducible exact offM_refl _ _ | refine offM_updc rfl ?_ | refine offM_upd rfl ?_ | refine offM_updo rfl ?_ | refine offM_updo_none ?_ | refine offM_head rfl rfl ?_)), congrArg (fun b => [Value.bool b]) (by rw [decide_eq_decide]; omega), rfl⟩
            · rintro J48 vs w48 ⟨rfl, rfl⟩ -
              refine W_cond_p rfl (fun h49 => ?_) (fun h49 => ?_)
              · refine W_seq ?_
                refine W_region ?_
                refine o_mvt rfl ?_
                refine op_call rfl rfl rfl (in_fail _ b _ _ hB16) ?_; rintro v50 w50 ⟨hB50, hk50⟩
                refine ops_nil ?_
                refine W_seq ?_
                refine W_region ?_
                refine o_asc rfl ?_
                refine ops_nil ?_
                refine W_ret ?_
                refine ret1 (.int .u64 0) rfl ?_ ?_; rfl
                have hd : decN most 0 0 bs = none := by
                  rw [hdec, decN_cons, if_neg (by have hg := of_decide_eq_false g35; rintro (h1 | h1 | h1) <;> omega), if_neg (by have := of_decide_eq_true g34; omega), if_pos h49]
                rw [numR_none hd]
                exact ⟨rfl, InC.failed hB50, hk16'.trans hk50⟩
              · refine W_seq ?_
                refine W_region ?_
                refine o_mvt rfl ?_
                refine o_ast rfl ?_
                refine ops_nil ?_
                refine W_yes rfl g34 ?_
                refine W_seq ?_
                refine W_region ?_
                refine o_mvt rfl ?_
                refine o_ast rfl ?_
                refine ops_nil ?_
                refine W_ret ?_
                refine ret1 (.int .u64 (v + x.toNat % 128 * 2 ^ s % 2 ^ 64 : Nat)) rfl ?_ ?_; rfl
                have hd : decN most 0 0 bs = some (v + x.toNat % 128 * 2 ^ s, xs) := by
                  rw [hdec, decN_cons, if_neg (by have hg := of_decide_eq_false g35; rintro (h1 | h1 | h1) <;> omega), if_neg (by have := of_decide_eq_true g34; omega), if_neg h49]
                rw [numR_some hd]
                exact ⟨by rw [hmod], hin, hk16'⟩
        · refine op_skip (g_no rfl rfl rfl g34) ?_
          refine op_skip (g_no rfl rfl rfl g34) ?_
          refine o_pkFc rfl g34 rfl ?_
          refine o_mvt rfl ?_
          refine op_skip (g_no rfl rfl rfl rfl) ?_
          refine op_skip (g_no rfl rfl rfl rfl) ?_
          refine o_pkFc rfl rfl rfl ?_
          refine o_ast rfl ?_
          refine ops_nil ?_
          refine W_no rfl rfl ?_
          refine W_cut [64] [64, 65, 66, 67, 68, 69, 70] (fun vs w53 => vs = [.bool false] ∧ w53 = w16) ?_ ?_
          · refine W_region ?_
            refine o_mvt rfl ?_
            refine o_mvt rfl ?_
            refine op_skip (g_no rfl rfl rfl g34) ?_
            refine op_skip (g_no rfl rfl rfl g34) ?_
            refine op_skip (g_no rfl rfl rfl g34) ?_
            refine o_pkFc rfl g34 rfl ?_
            refine o_ast rfl ?_
            refine ops_nil ?_
            exact ⟨by (repeat (first | with_reducible exact offM_refl _ _ | refine offM_updc rfl ?_ | refine offM_upd rfl ?_ | refine offM_updo rfl ?_ | refine offM_updo_none ?_ | refine offM_head rfl rfl ?_)), rfl, rfl⟩
          · rintro J55 vs w55 ⟨rfl, rfl⟩ -
            refine W_no rfl (rfl) ?_
            refine W_seq ?_
            refine W_region ?_
            refine o_mvt rfl ?_
            refine o_ast rfl ?_
            refine ops_nil ?_
            refine W_no rfl g34 ?_
            refine W_skip ?_
            refine W_region ?_
            refine o_mvt rfl ?_
            refine op_run (r_add rfl rfl) rfl ?_
            refine o_ast rfl ?_
            refine ops_nil ?_
            refine ⟨by (repeat (first | with_reducible exact offM_refl _ _ | refine offM_updc rfl ?_ | refine offM_upd rfl ?_ | refine offM_updo rfl ?_ | refine offM_updo_none ?_ | refine offM_head rfl rfl ?_)), ⟨s + 7, v + x.toNat % 128 * 2 ^ s, xs, ?_, hov, ?_, by omega, hin, ?_, hk16'⟩, ?_⟩
            · refine (show _ = [Value.int .u64 ((v + x.toNat % 128 * 2 ^ s % 2 ^ 64 : Nat) : Int), Value.int .i64 (IntKind.i64.wrap ((s : Int) + 7))] from rfl).trans ?_
              rw [hmod, inc7 s (by omega)]
            · have h1 : (x.toNat % 128 + 1) * 2 ^ s ≤ 128 * 2 ^ s := Nat.mul_le_mul_right _ (by omega)
              rw [Nat.add_mul, Nat.one_mul] at h1
              rw [Nat.pow_add]; omega
            · rw [hdec, decN_cons, if_neg (by have := of_decide_eq_false g34; rintro (h1 | h1 | h1) <;> omega), if_pos (by have := of_decide_eq_false g34; omega)]
            · show 80 - (IntKind.i64.wrap ((s : Int) + 7)).toNat < 80 - (s : Int).toNat
              rw [inc7 s (by omega)]; omega
theorem decN_le : ∀ (bs : List UInt8) (most s v n : Nat) (r : List UInt8), decN most s v bs = some (n, r) → n ≤ most
  | [], _, _, _, _, _, h => by cases h
  | x :: xs, most, s, v, n, r, h => by
    rw [decN_cons] at h
    split at h
    · cases h
    · split at h
      · exact decN_le xs _ _ _ _ _ h
      · split at h
        · cases h
        · cases h; omega
theorem numR_le (most : Nat) (bs : List UInt8) (bad : Bool) : (numR most bs bad).1 ≤ most := by
  cases h : decN most 0 0 bs with
  | none => rw [numR_none h]; exact Nat.zero_le _
  | some p => obtain ⟨v, r⟩ := p; rw [numR_some h]; exact decN_le _ _ _ _ _ _ h
theorem conv_i64 (n : Nat) (h : n < 2 ^ 63) : IntKind.i64.wrap ((n : Nat) : Int) = (n : Int) := wrap_i64 (by omega) (by omega)

end Go.Proofs.Ytcbbodjcgjbfaaa.B
