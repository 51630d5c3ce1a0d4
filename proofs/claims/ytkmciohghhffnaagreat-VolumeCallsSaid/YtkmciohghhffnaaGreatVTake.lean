/-
  volume.take.
-/
import Derived.Test.YtkmciohghhffnaaGreatVDec
import Derived.Test.YtkmciohghhffnaaGreatMapE
import Derived.Test.YtkmciohghhffnaaGreatVol4
namespace Go.Proofs.YtkmciohghhffnaaGreat.B
open Go
set_option linter.unusedVariables false
set_option maxHeartbeats 2000000
set_option maxRecDepth 100000
attribute [local irreducible] W OpsW OpsQ retP
theorem getA_fresh {bl : List (Int × Bk)} {n : Int} (h : ∀ p ∈ bl, p.1 < n) : getA (mapP bkV bl) n = none := by
  rw [getA_look]
  cases hv : lookP bl n with
  | none => rfl
  | some v => have := h _ (lookP_mem hv); exact absurd (show n < n from this) (by omega)
theorem mapP_snoc {α β γ : Type} (f : β → γ) (l : List (α × β)) (a : α) (b : β) : mapP f l ++ [(a, f b)] = mapP f (l ++ [(a, b)]) := by unfold mapP; rw [List.map_append]; rfl
/-- Cells ahead of others. -/
def preC (acc : List (Int × Bk)) : Option (List (Int × Bk) × List UInt8) → Option (List (Int × Bk) × List UInt8)
  | none => none
  | some r => some (acc ++ r.1, r.2)
theorem preC_nil (o : Option (List (Int × Bk) × List UInt8)) : preC [] o = o := by cases o <;> rfl
theorem cellsR_no {k : Nat} {last : Int} {bs : List UInt8} (h : ((numR 1048575 bs false).1 : Int) ≤ last ∨ (digR (numR 1048575 bs false).2.1 (numR 1048575 bs false).2.2).2.2 = true) : cellsR (k + 1) last bs = none := by
  unfold cellsR; exact if_pos h
theorem cellsR_ok {k : Nat} {last : Int} {bs : List UInt8} {acc : List (Int × Bk)} (h1 : ¬ ((numR 1048575 bs false).1 : Int) ≤ last) (h2 : (digR (numR 1048575 bs false).2.1 (numR 1048575 bs false).2.2).2.2 = false) :
    preC acc (cellsR (k + 1) last bs) = preC (acc ++ [((((numR 1048575 bs false).1 : Nat) : Int), (digR (numR 1048575 bs false).2.1 (numR 1048575 bs false).2.2).1)]) (cellsR k (numR 1048575 bs false).1 (digR (numR 1048575 bs false).2.1 (numR 1048575 bs false).2.2).2.1) := by
  conv => lhs; unfold cellsR
  simp only
  rw [if_neg (by rintro (h | h); exact h1 h; rw [h2] at h; cases h)]
  cases cellsR k (numR 1048575 bs false).1 (digR (numR 1048575 bs false).2.1 (numR 1048575 bs false).2.2).2.1 with
  | none => rfl
  | some r => show some (acc ++ (_ :: r.1), r.2) = some ((acc ++ [_]) ++ r.1, r.2); rw [List.append_assoc]; rfl
theorem and1 (q : Nat) (h : q < 2 ^ 64) : bitw .and .u64 ((q : Nat) : Int) 1 = ((q % 2 : Nat) : Int) := by
  have := bitw_and (k := .u64) rfl q 1 h (by decide)
  rw [Nat.and_one_is_mod] at this
  exact this
theorem shv1 (y : Nat) : (y : Int).fdiv (2 ^ (min (1 : Int).toNat IntKind.u64.bits)) = ((y / 2 : Nat) : Int) := fdiv_nat y 1 64
/-- What take tells. -/
def TakeQ (w : World) (b : Nat) (A : Nat → Prop) (bs : List UInt8) (bad : Bool) (r : Value) (w' : World) : Prop :=
  ∃ (fr : Bool) (x : Nat) (ok : Bool) (bl : List (Int × Bk)) (rest : List UInt8) (bad' : Bool), r = .tuple #[.agg (volR (((numR 2097153 bs bad).1 / 2 : Nat) : Int) fr (.map (some x))).toArray, .bool ok] ∧ w.heap.size ≤ x ∧ MapG intK w' x (mapP bkV bl) ∧ InC w' b A rest bad' ∧ Keep (· ≠ b) w w' ∧
    (ok = true → bad = false ∧ bad' = false ∧ volR1 bs = some (⟨(((numR 2097153 bs bad).1 / 2 : Nat) : Int), fr, bl⟩, rest)) ∧ (ok = false → bad = true ∨ volR1 bs = none)
theorem vl_take (w : World) (b : Nat) (A : Nat → Prop) (bs : List UInt8) (bad : Bool) (hAb : ¬ A b) (hAl : ∀ k, A k → k < w.heap.size) (h : InC w b A bs bad) :
    Ret Tryz.prog 43 [.pointer (some ⟨b, 0, none⟩)].toArray w (TakeQ w b A bs bad) := by
  have hq := numR_le 2097153 bs bad
  have hbl : b < w.heap.size := by obtain ⟨_, hB, _⟩ := h; exact hB.lt
  refine enter (fn := Tryz.f43) (n := 54) Tryz.func43 rfl rfl (by simp) ?_
  refine W_seq ?_
  refine W_region ?_
  refine o_alloc rfl rfl rfl ?_; intro w1 b1 e1 hB1 hk1 hs1
  have hB1 : Blk w1 b1 (volR 0 false (.map none)) 66 := hB1
  have h1 := h.keep hk1 trivial (fun _ _ => trivial)
  refine o_asc rfl ?_
  refine ops_nil ?_
  refine W_seq ?_
  refine W_region ?_
  refine o_mvt rfl ?_
  refine op_call rfl rfl rfl (in_Number w1 b A bs bad 2097153 hAb h1) ?_; rintro v2 w2 ⟨rfl, hR2, hk2⟩
  have hB12 := hk2.blk' hB1 (show b1 ≠ b by omega)
  refine o_ast rfl ?_
  refine ops_nil ?_
  refine W_seq ?_
  refine W_region ?_
  refine o_mvt rfl ?_
  refine op_run ((r_shr rfl rfl (by decide)).val (congrArg (Value.int .u64) (shv1 (numR 2097153 bs bad).1))) rfl ?_
  refine op_run ((r_conv rfl rfl rfl).val (congrArg (Value.int .i64) (show IntKind.i64.wrap (((numR 2097153 bs bad).1 / 2 : Nat) : Int) = (((numR 2097153 bs bad).1 / 2 : Nat) : Int) from conv_i64 _ (by omega)))) rfl ?_
  refine o_mvt rfl ?_
  refine op_run ((r_and rfl rfl).val (congrArg (Value.int .u64) (and1 (numR 2097153 bs bad).1 (by omega)))) rfl ?_
  refine op_run (r_eql rfl rfl) rfl ?_
  refine o_makeMapG intK rfl ?_; intro w3 b3 e3 hM3 hk3 hs3
  have hR3 := hR2.keep hk3 trivial (fun _ _ => trivial)
  have hB13 := hk3.blk' hB12 trivial
  have hz2 := hk2.size
  refine op_run (r_build (volR (((numR 2097153 bs bad).1 / 2 : Nat) : Int) (decide ((((numR 2097153 bs bad).1 % 2 : Nat) : Int) = 1)) (.map (some b3))) (_) ([(0, .int .i64 (((numR 2097153 bs bad).1 / 2 : Nat) : Int)), (1, .bool (decide ((((numR 2097153 bs bad).1 % 2 : Nat) : Int) = 1))), (2, .map (some b3))]) rfl rfl rfl rfl rfl (rfl)) rfl ?_
  refine o_storeA (cs := volR (((numR 2097153 bs bad).1 / 2 : Nat) : Int) (decide ((((numR 2097153 bs bad).1 % 2 : Nat) : Int) = 1)) (.map (some b3))) rfl rfl (by first | rfl | exact binV_one _ | exact dgR_one _ | exact refR_one _ | exact secR_one _ | exact all_c8 _ | exact volR_one rfl) (by first | rfl | (rw [binV_len]; rfl) | (rw [dgR_len]; rfl) | (rw [refR_len]; rfl) | (rw [secR_len]; rfl) | (rw [List.length_map, tagF_len]; rfl)) hB13 (by show 0 + 3 ≤ 3; decide) rfl ?_; intro w5 hB5 hk5 hs5
  have hB5' : Blk w5 b1 (volR (((numR 2097153 bs bad).1 / 2 : Nat) : Int) (decide ((((numR 2097153 bs bad).1 % 2 : Nat) : Int) = 1)) (.map (some b3))) 66 := hB5
  have hlt13 := hB13.lt
  have hne1 : ∀ k, A k → k ≠ b1 := fun k hk => by have := hAl k hk; omega
  have hR5 := hR3.keep hk5 (show b ≠ b1 by omega) hne1
  have hM5 := hM3.keep hk5 (show b3 ≠ b1 by omega)
  have hkb5 : Keep (· ≠ b) w w5 := (((hk1.all.trans hk2).trans hk3.all)).new hk5 (by omega)
  refine ops_nil ?_
  refine W_seq ?_
  refine W_region ?_
  refine o_asc rfl ?_
  refine ops_nil ?_
  refine W_seq ?_
  refine W_region ?_
  refine o_mvt rfl ?_
  refine op_run (r_fieldAddr rfl rfl rfl rfl rfl) rfl ?_
  refine op_run (r_load rfl rfl rfl (hB5'.cell rfl)) rfl ?_
  refine op_run ((r_conv rfl rfl rfl).val (congrArg (Value.int .u64) (show IntKind.u64.wrap (((numR 2097153 bs bad).1 / 2 : Nat) : Int) = (((numR 2097153 bs bad).1 / 2 : Nat) : Int) from by rw [wrap_u64]; omega))) rfl ?_
  refine op_call rfl rfl rfl (in_Number w5 b A _ _ ((numR 2097153 bs bad).1 / 2) hAb hR5) ?_; rintro v7 w7 ⟨rfl, hR7, hk7⟩
  obtain ⟨N2, hN2⟩ : ∃ N, numR ((numR 2097153 bs bad).1 / 2) (numR 2097153 bs bad).2.1 (numR 2097153 bs bad).2.2 = N := ⟨_, rfl⟩
  have hm := numR_le ((numR 2097153 bs bad).1 / 2) (numR 2097153 bs bad).2.1 (numR 2097153 bs bad).2.2
  rw [hN2] at hm hR7 ⊢
  obtain ⟨m, bs2, bad2⟩ := N2
  have hm : m ≤ (numR 2097153 bs bad).1 / 2 := hm
  have hR7 : InC w7 b A bs2 bad2 := hR7
  have hB7 := hk7.blk' hB5' (show b1 ≠ b by omega)
  have hM7 := hM5.keep hk7 (show b3 ≠ b by omega)
  have hkb7 := hkb5.trans hk7
  refine op_run ((r_conv rfl rfl rfl).val (congrArg (Value.int .i64) (show IntKind.i64.wrap ((m : Nat) : Int) = ((m : Nat) : Int) from conv_i64 _ (by omega)))) rfl ?_
  refine o_ast rfl ?_
  refine ops_nil ?_
  refine W_seq ?_
  refine W_seq ?_
  refine W_region ?_
  refine o_asc rfl ?_
  refine ops_nil ?_
  refine W_block ?_
  refine W_loop [5, 7] [3, 5, 7, 8, 25, 26, 27, 28, 29, 30, 31, 32, 33, 34, 35, 36, 37, 38, 39, 40, 41, 42, 43, 44, 45, 46, 47, 48, 49] (fun vs w' => ∃ (last : Int) (i : Nat) (acc : List (Int × Bk)) (rest : List UInt8) (bd : Bool), vs = [.int .i64 last, .int .i64 i] ∧ i ≤ m ∧ MapG intK w' b3 (mapP bkV acc) ∧ InC w' b A rest bd ∧ Keep (· ≠ b) w w' ∧ Blk w' b1 (volR (((numR 2097153 bs bad).1 / 2 : Nat) : Int) (decide ((((numR 2097153 bs bad).1 % 2 : Nat) : Int) = 1)) (.map (some b3))) 66 ∧ -1 ≤ last ∧ (∀ p ∈ acc, p.1 ≤ last) ∧ (bd = false → bad2 = false ∧ cellsR m (-1) bs2 = preC acc (cellsR (m - i) last rest)) ∧ (bd = true → bad2 = true ∨ cellsR m (-1) bs2 = none)) (fun vs _ => match vs with | [_, .int _ y] => m - y.toNat | _ => 0) ⟨-1, 0, [], bs2, bad2, rfl, Nat.zero_le _, hM7, hR7, hkb7, hB7, by omega, (fun p hp => by cases hp), (fun e => ⟨e, by rw [preC_nil]; rfl⟩), (fun e => .inl e)⟩ ?_
  rintro J8 vs w8 ⟨last, i, acc, rest, bd, rfl, hi, hM8, hR8, hkb8, hB8, hlast, hacc, hgo, hno⟩ -
  have hz8 := hkb8.size
  refine W_seq ?_
  refine W_cut [32] [25, 26, 27, 28, 29, 30, 31, 32] (fun vs w9 => vs = [.bool (decide (i < m ∧ bd = false))] ∧ w9 = w8) ?_ ?_
  · refine W_region ?_
    refine o_mvt rfl ?_
    refine o_mvt rfl ?_
    refine op_run (r_lss rfl rfl) rfl ?_
    refine o_mvt rfl ?_
    refine g_split rfl rfl rfl (fun g10 => ?_) (fun g10 => ?_)
    · refine o_mvt (g_yes rfl rfl rfl g10) ?_
      refine op_call rfl rfl (g_yes rfl rfl rfl g10) (in_Wrong w8 b A rest bd hR8) ?_; rintro v11 w11 ⟨rfl, rfl⟩
      refine op_run (r_not rfl) (g_yes rfl rfl rfl g10) ?_
      refine o_pkTt rfl g10 rfl ?_
      refine ops_nil ?_
      exact ⟨by (repeat (first | with_reducible exact offM_refl _ _ | refine offM_updc rfl ?_ | refine offM_upd rfl ?_ | refine offM_updo rfl ?_ | refine offM_updo_none ?_ | refine offM_head rfl rfl ?_)), congrArg (fun b => [Value.bool b]) (by have g := of_decide_eq_true g10; rw [show decide (i < m ∧ bd = false) = decide (bd = false) by rw [decide_eq_decide]; exact ⟨fun h => h.2, fun h => ⟨by omega, h⟩⟩]; cases bd <;> rfl), rfl⟩
    · refine op_skip (g_no rfl rfl rfl g10) ?_
      refine op_skip (g_no rfl rfl rfl g10) ?_
      refine op_skip (g_no rfl rfl rfl g10) ?_
      refine o_pkFc rfl g10 rfl ?_
      refine ops_nil ?_
      exact ⟨by (repeat (first | with_reducible exact offM_refl _ _ | refine offM_updc rfl ?_ | refine offM_upd rfl ?_ | refine offM_updo rfl ?_ | refine offM_updo_none ?_ | refine offM_head rfl rfl ?_)), congrArg (fun b => [Value.bool b]) (by have g := of_decide_eq_false g10; symm; apply decide_eq_false; rintro ⟨h, _⟩; omega), rfl⟩
  · rintro J14 vs w14 ⟨rfl, rfl⟩ -
    refine W_cond rfl (fun h15 => ?_) (fun h15 => ?_)
    · refine W_skip ?_
      refine W_seq ?_
      refine W_block ?_
      refine W_seq ?_
      refine W_region ?_
      refine o_mvt rfl ?_
      obtain ⟨him, hbd⟩ := of_decide_eq_true h15
      subst hbd
      obtain ⟨hb2, hC⟩ := hgo rfl
      have hle := numR_le 1048575 rest false
      obtain ⟨k, hk⟩ : ∃ k, m - i = k + 1 := ⟨m - i - 1, by omega⟩
      rw [hk] at hC
      have hinc := inc64' i (by omega)
      refine op_call rfl rfl rfl (in_Number w14 b A rest false 1048575 hAb hR8) ?_; rintro v16 w16 ⟨rfl, hR16, hk16⟩
      have hB16 := hk16.blk' hB8 (show b1 ≠ b by omega)
      have hM16 := hM8.keep hk16 (show b3 ≠ b by omega)
      refine op_run ((r_conv rfl rfl rfl).val (congrArg (Value.int .i64) (show IntKind.i64.wrap (((numR 1048575 rest false).1 : Nat) : Int) = (((numR 1048575 rest false).1 : Nat) : Int) from conv_i64 _ (by omega)))) rfl ?_
      refine o_ast rfl ?_
      refine ops_nil ?_
      refine W_seq ?_
      refine W_seq ?_
      refine W_region ?_
      refine o_mvt rfl ?_
      refine o_mvt rfl ?_
      refine op_run (r_leq rfl rfl) rfl ?_
      refine ops_nil ?_
      refine W_cond_p rfl (fun h17 => ?_) (fun h17 => ?_)
      · refine W_seq ?_
        refine W_region ?_
        refine op_run (r_loadA (volR (((numR 2097153 bs bad).1 / 2 : Nat) : Int) (decide ((((numR 2097153 bs bad).1 % 2 : Nat) : Int) = 1)) (.map (some b3))) rfl rfl rfl (by first | rfl | (rw [binV_len]; rfl) | (rw [dgR_len]; rfl) | (rw [refR_len]; rfl) | (rw [secR_len]; rfl) | (rw [List.length_map, tagF_len]; rfl)) (hB16.all)) rfl ?_
        refine o_storeA (cs := volR (((numR 2097153 bs bad).1 / 2 : Nat) : Int) (decide ((((numR 2097153 bs bad).1 % 2 : Nat) : Int) = 1)) (.map (some b3))) rfl rfl (by first | rfl | exact binV_one _ | exact dgR_one _ | exact refR_one _ | exact secR_one _ | exact all_c8 _ | exact volR_one rfl) (by first | rfl | (rw [binV_len]; rfl) | (rw [dgR_len]; rfl) | (rw [refR_len]; rfl) | (rw [secR_len]; rfl) | (rw [List.length_map, tagF_len]; rfl)) hB16 (by show 0 + 3 ≤ 3; decide) rfl ?_; intro w19 hB19 hk19 hs19
        refine o_asc rfl ?_
        refine ops_nil ?_
        refine W_ret ?_
        refine retAT ((volR (((numR 2097153 bs bad).1 / 2 : Nat) : Int) (decide ((((numR 2097153 bs bad).1 % 2 : Nat) : Int) = 1)) (.map (some b3)))) ((.bool false)) rfl rfl rfl rfl rfl (by first | rfl | (rw [binV_len]; rfl) | (rw [dgR_len]; rfl) | (rw [refR_len]; rfl) | (rw [secR_len]; rfl) | (rw [List.length_map, tagF_len]; rfl)) (hB19.all) ?_
        refine ⟨_, b3, false, acc, _, _, rfl, by omega, hM16.keep hk19 (show b3 ≠ b1 by omega), hR16.keep hk19 (show b ≠ b1 by omega) hne1, (hkb8.trans hk16).new hk19 (by omega), (fun e => by cases e), fun _ => ?_⟩
        by_cases hbad : bad = true
        · exact .inl hbad
        · have hbad : bad = false := by simpa using hbad
          refine .inr ?_
          unfold volR1
          simp only
          rw [← hbad, hN2]
          show (if bad2 = true then none else _) = none
          rw [hb2, if_neg (by decide)]
          show (match cellsR m (-1) bs2 with | none => none | some r => _) = none
          rw [hC, cellsR_no (.inl h17)]; rfl
      · refine W_skip ?_
        refine W_gate 6 (fun w' => Keep (· ≠ b) w16 w') (by kernel_rfl) ((Keep.drawn w16).all) (fun hS => ?_)
        refine gt_run 0 (fun w' hS' => (r_fieldAddr rfl rfl rfl rfl rfl)) rfl (by kernel_rfl) (by kernel_rfl) (by kernel_rfl) (by kernel_rfl) rfl hS ?_
        refine gt_run 1 (fun w' hS' => (r_load rfl rfl rfl (((hS'.blk' hB16 (show b1 ≠ b by omega)).cell rfl)))) rfl (by kernel_rfl) (by kernel_rfl) (by kernel_rfl) (by kernel_rfl) rfl hS ?_
        refine gt_mvt 2 rfl (by kernel_rfl) (by kernel_rfl) (by kernel_rfl) (by kernel_rfl) rfl hS ?_
        refine gt_mvt 3 rfl (by kernel_rfl) (by kernel_rfl) (by kernel_rfl) (by kernel_rfl) rfl hS ?_
        refine gp_mvt 5 rfl (by kernel_rfl) (by kernel_rfl) (by kernel_rfl) (by kernel_rfl) rfl hS ?_
        refine gt_one 4 (by kernel_rfl) (one_of rfl ?_)
        refine op_call rfl rfl rfl (in_Digest _ b A _ _ hAb (fun k hk => by have := hAl k hk; have := hk16.size; have := hS.size; omega) (hR16.keep (Keep.drawn w16) trivial (fun _ _ => trivial))) ?_; rintro v23 w23 ⟨rfl, hR23, hk23⟩
        refine ops_nil ⟨(hS.trans hk23), fun hS => ?_⟩
        refine gt_past 6 (by kernel_rfl) (by kernel_rfl) (one_of rfl ?_)
        refine o_mapEntryG (a := ((((numR 1048575 rest false).1 : Nat) : Int))) (keyOk_int rfl) rfl rfl rfl ti_bk ((hM16.keep hS (show b3 ≠ b by omega))) ((getA_fresh (fun p hp => by have := hacc p hp; omega))) rfl ?_; intro w25 s25 hE25 hk25 hs25
        refine ops_nil ?_
        refine gt_past 7 (by kernel_rfl) (by kernel_rfl) (one_of rfl ?_)
        refine op_run (r_extract rfl rfl) rfl ?_
        refine ops_nil ?_
        refine gt_past 8 (by kernel_rfl) (by kernel_rfl) (one_of rfl ?_)
        refine o_entryStoreG (v := (bkV (digR (numR 1048575 rest false).2.1 (numR 1048575 rest false).2.2).1)) rfl rfl rfl (hE25) rfl ?_; intro w26 hM26 hk26 hs26
        refine ops_nil ?_
        refine gt_past 9 (by kernel_rfl) (by kernel_rfl) (one_of rfl ?_)
        refine o_ast rfl ?_
        refine ops_nil ?_
        refine gt_done (by kernel_rfl) ?_
        refine W_region ?_
        refine o_mvt rfl ?_
        refine op_run (r_add rfl rfl) rfl ?_
        refine o_ast rfl ?_
        refine ops_nil ?_
        have hMn := hM26
        rw [mapP_snoc] at hMn
        have hA3 : ∀ k, A k → k ≠ b3 := fun k hk => by have := hAl k hk; omega
        have hzS := hS.size
        refine ⟨by (repeat (first | with_reducible exact offM_refl _ _ | refine offM_updc rfl ?_ | refine offM_upd rfl ?_ | refine offM_updo rfl ?_ | refine offM_updo_none ?_ | refine offM_head rfl rfl ?_)), ⟨_, i + 1, acc ++ [((((numR 1048575 rest false).1 : Nat) : Int), (digR (numR 1048575 rest false).2.1 (numR 1048575 rest false).2.2).1)], (digR (numR 1048575 rest false).2.1 (numR 1048575 rest false).2.2).2.1, (digR (numR 1048575 rest false).2.1 (numR 1048575 rest false).2.2).2.2, congrArg (fun z : Int => [_, Value.int .i64 z]) hinc, by omega, hMn, ?_, ?_, ?_, ?_, ?_, ?_, ?_⟩, ?_⟩
        · exact (hR23.keep hk25 (show b ≠ b3 by omega) hA3).keep hk26 (show b ≠ b3 by omega) hA3
        · exact (((hkb8.trans hk16).trans hS).new hk25 (by omega)).new hk26 (by omega)
        · exact hk26.blk' (hk25.blk' (hS.blk' hB16 (show b1 ≠ b by omega)) (hB8.ne_map hM8)) (hB8.ne_map hM8)
        · omega
        · intro p hp
          rcases List.mem_append.1 hp with hp | hp
          · have := hacc p hp; omega
          · rw [List.mem_singleton.1 hp]; exact Int.le_refl _
        · intro e
          refine ⟨hb2, ?_⟩
          rw [hC, show m - (i + 1) = k by omega]
          exact cellsR_ok h17 e
        · intro e
          exact .inr (by rw [hC, cellsR_no (.inr e)]; rfl)
        · show m - (IntKind.i64.wrap ((i : Int) + 1)).toNat < m - (i : Int).toNat
          rw [hinc]; omega
    · refine W_exit ?_
      refine W_seq ?_
      refine W_gate 4 (fun w' => Keep All w14 w') (by kernel_rfl) (Keep.drawn w14) (fun hS => ?_)
      refine gt_run 0 (fun w' hS' => (r_loadA (volR (((numR 2097153 bs bad).1 / 2 : Nat) : Int) (decide ((((numR 2097153 bs bad).1 % 2 : Nat) : Int) = 1)) (.map (some b3))) rfl rfl rfl (by first | rfl | (rw [binV_len]; rfl) | (rw [dgR_len]; rfl) | (rw [refR_len]; rfl) | (rw [secR_len]; rfl) | (rw [List.length_map, tagF_len]; rfl)) ((hS'.blk' hB8 trivial).all))) rfl (by kernel_rfl) (by kernel_rfl) (by kernel_rfl) (by kernel_rfl) rfl hS ?_
      refine gt_mvt 1 rfl (by kernel_rfl) (by kernel_rfl) (by kernel_rfl) (by kernel_rfl) rfl hS ?_
      refine gt_one 2 (by kernel_rfl) (one_of rfl ?_)
      refine op_call rfl rfl rfl (in_Wrong _ b A rest bd (hR8.keep hS trivial (fun _ _ => trivial))) ?_; rintro v30 w30 ⟨rfl, rfl⟩
      refine ops_nil ⟨hS, fun hS => ?_⟩
      refine gp_run 3 (fun w' hS' => (r_not rfl)) rfl (by kernel_rfl) (by kernel_rfl) (by kernel_rfl) (by kernel_rfl) rfl hS ?_
      refine gt_past 4 (by kernel_rfl) (by kernel_rfl) (one_of rfl ?_)
      refine o_storeA (cs := volR (((numR 2097153 bs bad).1 / 2 : Nat) : Int) (decide ((((numR 2097153 bs bad).1 % 2 : Nat) : Int) = 1)) (.map (some b3))) rfl rfl (by first | rfl | exact binV_one _ | exact dgR_one _ | exact refR_one _ | exact secR_one _ | exact all_c8 _ | exact volR_one rfl) (by first | rfl | (rw [binV_len]; rfl) | (rw [dgR_len]; rfl) | (rw [refR_len]; rfl) | (rw [secR_len]; rfl) | (rw [List.length_map, tagF_len]; rfl)) (hS.blk' hB8 trivial) (by show 0 + 3 ≤ 3; decide) rfl ?_; intro w32 hB32 hk32 hs32
      refine ops_nil ?_
      refine gt_past 5 (by kernel_rfl) (by kernel_rfl) (one_of rfl ?_)
      refine o_ast rfl ?_
      refine ops_nil ?_
      refine gt_done (by kernel_rfl) ?_
      refine W_ret ?_
      refine retAT ((volR (((numR 2097153 bs bad).1 / 2 : Nat) : Int) (decide ((((numR 2097153 bs bad).1 % 2 : Nat) : Int) = 1)) (.map (some b3)))) ((.bool (!bd))) rfl rfl rfl rfl rfl (by first | rfl | (rw [binV_len]; rfl) | (rw [dgR_len]; rfl) | (rw [refR_len]; rfl) | (rw [secR_len]; rfl) | (rw [List.length_map, tagF_len]; rfl)) (hB32.all) ?_
      have hq2 : decide ((((numR 2097153 bs bad).1 % 2 : Nat) : Int) = 1) = decide ((numR 2097153 bs bad).1 % 2 = 1) := by rw [decide_eq_decide]; omega
      refine ⟨_, b3, !bd, acc, rest, bd, rfl, by omega, (hM8.keep hS trivial).keep hk32 (show b3 ≠ b1 by omega), (hR8.keep hS trivial (fun _ _ => trivial)).keep hk32 (show b ≠ b1 by omega) hne1, (hkb8.trans hS.all).new hk32 (by omega), fun e => ?_, fun e => ?_⟩
      · have hbd : bd = false := by simpa using e
        obtain ⟨hb2, hC⟩ := hgo hbd
        have hie : i = m := by
          have := of_decide_eq_false h15
          exact Classical.byContradiction fun hh => this ⟨by omega, hbd⟩
        rw [hie, Nat.sub_self] at hC
        have hbad : bad = false := by
          cases hbb : bad with
          | false => rfl
          | true =>
            rw [hbb] at hN2
            rw [numR_bad] at hN2
            have h2 := congrArg (fun N => N.2.2) hN2
            rw [numR_bad, show ((m, bs2, bad2) : Nat × List UInt8 × Bool).2.2 = bad2 from rfl, hb2] at h2
            cases h2
        refine ⟨hbad, hbd, ?_⟩
        unfold volR1
        simp only
        rw [hbad] at hN2 hq2
        rw [hN2]
        show (if bad2 = true then none else _) = _
        rw [hb2, if_neg (by decide)]
        show (match cellsR m (-1) bs2 with | none => none | some r => _) = _
        rw [hC, hbad, hq2]
        show some (_, rest) = _
        rw [List.append_nil]
      · have hbd : bd = true := by simpa using e
        by_cases hbad : bad = true
        · exact .inl hbad
        · have hbad : bad = false := by simpa using hbad
          refine .inr ?_
          unfold volR1
          simp only
          rw [hbad] at hN2
          rw [hN2]
          show (if bad2 = true then none else _) = none
          rcases hno hbd with hb2 | hb2
          · rw [if_pos hb2]
          · split
            · rfl
            · show (match cellsR m (-1) bs2 with | none => none | some r => _) = none
              rw [hb2]
end Go.Proofs.YtkmciohghhffnaaGreat.B
