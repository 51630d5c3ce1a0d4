/-
  BlobTurned: the walk.
-/
import Derived.Test.YtdjndaodggecjaaBlobR
import Derived.Test.YtdjndaodggecjaaBlobF
import Derived.Test.YtdjndaodggecjaaDisk8
import Derived.Test.YtdjndaodggecjaaMLib
namespace Go.Proofs.Ytdjndaodggecjaa.B
open Go
set_option linter.unusedVariables false
set_option maxHeartbeats 2000000
set_option maxRecDepth 100000
attribute [local irreducible] W OpsW OpsQ retP
theorem bytesAt_set {M : List Sec} {a len k : Nat} {s s' : Sec} (h : a + sectorsN len ≤ M.length) (hk : len ≤ k) (hs : M[a + k / 64]? = some s) (hs' : ∀ j, j ≠ k % 64 → s'.val[j]? = s.val[j]?) :
    bytesAt (M.set (a + k / 64) s') a len = bytesAt M a len := by
  apply List.ext_getElem?
  intro i
  have h2 : a + sectorsN len ≤ (M.set (a + k / 64) s').length := by rw [List.length_set]; exact h
  by_cases hi : i < len
  · have hge := sectorsN_ge len
    obtain ⟨s0, hs0⟩ : ∃ s, M[a + i / 64]? = some s := ⟨_, List.getElem?_eq_getElem (by omega)⟩
    rw [bytesAt_get hi hs0]
    by_cases he : i / 64 = k / 64
    · have hs1 : (M.set (a + k / 64) s')[a + i / 64]? = some s' := by rw [he, List.getElem?_set_self (List.getElem?_eq_some_iff.1 hs).1]
      rw [bytesAt_get hi hs1]
      rw [he, hs] at hs0
      injection hs0 with e
      subst e
      exact hs' _ (by omega)
    · have hs1 : (M.set (a + k / 64) s')[a + i / 64]? = some s0 := by rw [List.getElem?_set_ne (by omega)]; exact hs0
      rw [bytesAt_get hi hs1]
  · rw [List.getElem?_eq_none (by rw [bytesAt_len h2]; omega), List.getElem?_eq_none (by rw [bytesAt_len h]; omega)]
/-- A byte of a sector, changed. -/
def turnS (s : Sec) (j : Nat) (t : UInt8) : Sec := ⟨s.val.set j (s.val.getD j 0 ^^^ t), by rw [List.length_set]; exact s.2⟩
theorem secR_turn (s : Sec) (j : Nat) (t : UInt8) : (secR s).set j (c8 (s.val.getD j 0 ^^^ t)) = secR (turnS s j t) := by unfold secR turnS; rw [List.map_set]
theorem turnS_other (s : Sec) (j : Nat) (t : UInt8) : ∀ i, i ≠ j → (turnS s j t).val[i]? = s.val[i]? := fun i hi => by unfold turnS; exact List.getElem?_set_ne (Ne.symm hi)
theorem walk_BlobTurned (w : World) (v : Value) (at_ : Int) (t : UInt8) (bs : List UInt8) (hv : By w v bs) :
    Ret Try.prog 6 [v, .int .i64 at_, .int .u8 t.toNat].toArray w fun u w' => u = .bool true ∧ Keep All w w' := by
  obtain ⟨a0, c0, rfl, hc0, hcm0⟩ := hv.form
  obtain ⟨m, hm, hand⟩ := and_mask at_ 65535 (by decide)
  refine enter (fn := Try.f6) (n := 105) Try.func6 rfl rfl (by simp) ?_
  refine W_seq ?_
  refine W_region ?_
  refine o_asc rfl ?_
  refine ops_nil ?_
  refine W_seq ?_
  refine W_seq ?_
  refine W_region ?_
  refine op_call rfl rfl rfl (speaks07 w) ?_; rintro v1 w1 ⟨rfl, hk1⟩
  refine op_run (r_not rfl) rfl ?_
  refine ops_nil ?_
  refine W_no rfl (rfl) ?_
  refine W_skip ?_
  refine W_seq ?_
  refine W_cut [24] [18, 19, 20, 21, 22, 23, 24] (fun vs w4 => vs = [.bool (decide (1000 < bs.length ∨ (t.toNat : Int) = 0))] ∧ w4 = w1) ?_ ?_
  · refine W_region ?_
    refine o_mvt rfl ?_
    refine op_run (r_len rfl rfl rfl) rfl ?_
    refine op_run (r_gtr rfl rfl) rfl ?_
    refine o_mvt rfl ?_
    refine g_split rfl rfl rfl (fun g5 => ?_) (fun g5 => ?_)
    · refine o_mvt (g_yes rfl rfl rfl g5) ?_
      refine op_run (r_eql rfl rfl) (g_yes rfl rfl rfl g5) ?_
      refine o_pkFt rfl g5 rfl ?_
      refine ops_nil ?_
      exact ⟨by (repeat (first | with_reducible exact offM_refl _ _ | refine offM_updc rfl ?_ | refine offM_upd rfl ?_ | refine offM_updo rfl ?_ | refine offM_updo_none ?_ | refine offM_head rfl rfl ?_)), congrArg (fun b => [Value.bool b]) (by have g5 := of_decide_eq_false g5; rw [decide_eq_decide]; omega), rfl⟩
    · refine op_skip (g_no rfl rfl rfl g5) ?_
      refine op_skip (g_no rfl rfl rfl g5) ?_
      refine o_pkTc rfl g5 rfl ?_
      refine ops_nil ?_
      exact ⟨by (repeat (first | with_reducible exact offM_refl _ _ | refine offM_updc rfl ?_ | refine offM_upd rfl ?_ | refine offM_updo rfl ?_ | refine offM_updo_none ?_ | refine offM_head rfl rfl ?_)), congrArg (fun b => [Value.bool b]) (by have g5 := of_decide_eq_true g5; symm; apply decide_eq_true; omega), rfl⟩
  · rintro J8 vs w8 ⟨rfl, rfl⟩ -
    refine W_cond_p rfl (fun h9 => ?_) (fun h9 => ?_)
    · refine W_seq ?_
      refine W_region ?_
      refine o_asc rfl ?_
      refine ops_nil ?_
      refine W_ret ?_
      refine ret1 (.bool true) rfl ?_ ?_; rfl
      exact ⟨rfl, hk1⟩
    · refine W_skip ?_
      refine W_seq ?_
      refine W_region ?_
      have hbl : bs.length ≤ 1000 := by omega
      have hsl := sectorsN_le bs.length
      have hsp := sectorsN_pos bs.length
      refine op_call rfl rfl rfl (DV.new w8 20 (by decide) (by decide)) ?_; rintro v11 w11 ⟨bD, rfl, hD11⟩
      refine o_mvt rfl ?_
      refine op_run (r_extract rfl rfl) rfl ?_
      refine op_run (r_extract rfl rfl) rfl ?_
      refine o_ast rfl ?_
      refine o_ast rfl ?_
      refine ops_nil ?_
      refine W_seq ?_
      refine W_cut [34] [29, 30, 31, 32, 33, 34] (fun vs w12 => vs = [.bool false] ∧ w12 = w11) ?_ ?_
      · refine W_region ?_
        refine o_mvt rfl ?_
        refine op_run (r_neq rfl rfl) rfl ?_
        refine o_mvt rfl ?_
        refine g_split rfl rfl rfl (fun g13 => ?_) (fun g13 => ?_)
        · refine o_mvt (g_yes rfl rfl rfl g13) ?_
          refine op_run (r_isNilP rfl rfl) (g_yes rfl rfl rfl g13) ?_
          refine o_pkFt rfl g13 rfl ?_
          refine ops_nil ?_
          exact ⟨by (repeat (first | with_reducible exact offM_refl _ _ | refine offM_updc rfl ?_ | refine offM_upd rfl ?_ | refine offM_updo rfl ?_ | refine offM_updo_none ?_ | refine offM_head rfl rfl ?_)), rfl, rfl⟩
        · refine op_skip (g_no rfl rfl rfl g13) ?_
          refine op_skip (g_no rfl rfl rfl g13) ?_
          refine o_pkTc rfl g13 rfl ?_
          refine ops_nil ?_
          exact absurd g13 (by decide)
      · rintro J16 vs w16 ⟨rfl, rfl⟩ -
        refine W_no rfl (rfl) ?_
        refine W_skip ?_
        refine W_seq ?_
        refine W_region ?_
        refine o_mvt rfl ?_
        refine o_mvt rfl ?_
        refine op_call rfl rfl rfl (bl_Write w8 _ bD _ _ _ w16 hD11 3 _ bs (Stays.of (hv.k hk1)) (by omega) (by decide) (by decide) (by decide)) ?_; rintro v19 w19 ⟨rfl, hD19, hk19⟩
        have hfit : fitsP (Int.toNat 20) 3 (sectorsN bs.length) := by unfold fitsP; refine ⟨by decide, by decide, ?_⟩; show _ ≤ (20 : Int) - 3; omega
        rw [if_pos hfit] at hD19
        rw [if_pos hfit, if_pos hfit]
        obtain ⟨M1, hM1⟩ : ∃ M, M = putAt (List.replicate (Int.toNat 20) Sec.zero) (Int.toNat 3) (laidL bs) := ⟨_, rfl⟩
        rw [← hM1] at hD19
        have hML : M1.length = 20 := hD19.len
        have hbM : bytesAt M1 3 bs.length = bs := by rw [hM1]; exact bytesAt_put (by rw [List.length_replicate]; show 3 + _ ≤ 20; omega)
        refine o_mvt rfl ?_
        refine op_run (r_extract rfl rfl) rfl ?_
        refine op_run (r_extract rfl rfl) rfl ?_
        refine o_alloc rfl rfl rfl ?_; intro w20 b20 e20 hB20 hk20 hs20
        refine o_storeA (cs := refR (ofR 3 bs)) rfl rfl (by first | rfl | exact dgR_one _ | exact refR_one _ | exact secR_one _ | exact all_c8 _) (by first | rfl | (rw [dgR_len]; rfl) | (rw [refR_len]; rfl) | (rw [secR_len]; rfl) | (rw [List.length_map, tagF_len]; rfl)) hB20 (by exact Nat.le_of_eq (by simp [refR_len])) rfl ?_; intro w21 hB21 hk21 hs21
        have hB21 : Blk w21 b20 (refR (ofR 3 bs)) 26 := by
          have h := hB21
          rwa [splice_all (by simp [refR_len])] at h
        have hD21 := hD19.fresh hk20 (Nat.le_of_eq e20.symm) hk21 (by omega)
        refine o_ast rfl ?_
        refine ops_nil ?_
        refine W_seq ?_
        refine W_seq ?_
        refine W_region ?_
        refine o_mvt rfl ?_
        refine op_run (r_neq rfl rfl) rfl ?_
        refine ops_nil ?_
        refine W_no rfl (rfl) ?_
        refine W_skip ?_
        refine W_seq ?_
        refine W_region ?_
        refine o_mvt rfl ?_
        refine op_run ((r_and rfl rfl).val (congrArg (Value.int .i64) (show bitw .and .i64 at_ 65535 = ((m : Nat) : Int) from hand))) rfl ?_
        refine o_mvt rfl ?_
        refine op_run (r_len rfl rfl rfl) rfl ?_
        refine op_call rfl rfl rfl (bl_Sectors w21 (bs.length : Int) (by omega)) ?_; rintro v24 w24 ⟨rfl, rfl⟩
        rw [if_neg (show ¬ (bs.length : Int) < 0 by omega), Int.toNat_natCast]
        have hmul : IntKind.i64.wrap (64 * (sectorsN bs.length : Int)) = ((64 * sectorsN bs.length : Nat) : Int) := (wrap_i64 (by omega) (by omega)).trans (by omega)
        obtain ⟨k, hk⟩ : ∃ k, k = m % (64 * sectorsN bs.length) := ⟨_, rfl⟩
        have hkl : k < 64 * sectorsN bs.length := by rw [hk]; exact Nat.mod_lt _ (by omega)
        refine op_run ((r_mul rfl rfl).val (congrArg (Value.int .i64) hmul)) rfl ?_
        refine op_run ((r_rem rfl rfl (by omega)).val (congrArg (Value.int .i64) (show ((m : Nat) : Int).tmod ((64 * sectorsN bs.length : Nat) : Int) = (k : Int) from by rw [hk]; exact tmod_nat' _ _))) rfl ?_
        refine o_ast rfl ?_
        refine ops_nil ?_
        refine W_seq ?_
        refine W_region ?_
        refine o_mvt rfl ?_
        refine o_mvt rfl ?_
        refine op_run ((r_quo rfl rfl (by decide)).val (congrArg (Value.int .i64) (show IntKind.i64.wrap (((k : Nat) : Int).tdiv 64) = ((k / 64 : Nat) : Int) from (congrArg IntKind.i64.wrap (tdiv_nat k 64)).trans (wrap_i64 (by omega) (by omega))))) rfl ?_
        refine op_run ((r_add rfl rfl).val (congrArg (Value.int .i64) (show IntKind.i64.wrap (3 + ((k / 64 : Nat) : Int)) = ((3 + k / 64 : Nat) : Int) from (wrap_i64 (by omega) (by omega)).trans (by omega)))) rfl ?_
        refine op_call rfl rfl rfl (hD21.read ((3 + k / 64 : Nat) : Int) (by omega)) ?_; rintro v26 w26 ⟨s, e, rfl, hs, hk26⟩
        have hin : (0 : Int) ≤ ((3 + k / 64 : Nat) : Int) ∧ ((3 + k / 64 : Nat) : Int) < ((Int.toNat 20 : Nat) : Int) := by show _ ∧ _ < (20 : Int); omega
        have hsM : M1[3 + k / 64]? = some s := by
          rcases hs with ⟨_, _, h3⟩ | ⟨h3, _⟩
          · rwa [Int.toNat_natCast] at h3
          · exact absurd hin h3
        obtain ⟨j, hj⟩ : ∃ j, j = k % 64 := ⟨_, rfl⟩
        have hj64 : j < 64 := by omega
        have hsj : s.val[j]? = some (s.val.getD j 0) := by rw [List.getD_eq_getElem?_getD, List.getElem?_eq_getElem (by rw [s.2]; exact hj64)]; rfl
        refine o_mvt rfl ?_
        refine op_run (r_extract rfl rfl) rfl ?_
        refine op_run (r_extract rfl rfl) rfl ?_
        refine o_alloc rfl rfl rfl ?_; intro w27 b27 e27 hB27 hk27 hs27
        refine o_storeA (cs := secR s) rfl rfl (by first | rfl | exact dgR_one _ | exact refR_one _ | exact secR_one _ | exact all_c8 _) (by first | rfl | (rw [dgR_len]; rfl) | (rw [refR_len]; rfl) | (rw [secR_len]; rfl) | (rw [List.length_map, tagF_len]; rfl)) hB27 (by exact Nat.le_of_eq (by simp [secR_len])) rfl ?_; intro w28 hB28 hk28 hs28
        have hB28 : Blk w28 b27 (secR s) 33 := by
          have h := hB28
          rwa [splice_all (by simp [secR_len])] at h
        have hD28 := (hD21.keep hk26).fresh hk27 (Nat.le_of_eq e27.symm) hk28 (by omega)
        refine o_ast rfl ?_
        refine ops_nil ?_
        refine W_seq ?_
        refine W_region ?_
        refine o_mvt rfl ?_
        refine op_run ((r_rem rfl rfl (by decide)).val (congrArg (Value.int .i64) (show ((k : Nat) : Int).tmod 64 = (j : Int) from by rw [hj]; exact tmod_nat' k 64))) rfl ?_
        refine op_run (r_idxA1 rfl rfl rfl rfl (by omega) (by omega)) rfl ?_
        refine op_run (r_load rfl rfl rfl (v := c8 (s.val.getD j 0)) (hB28.cell (show (secR s)[0 + ((j : Nat) : Int).toNat]? = some (c8 (s.val.getD j 0)) by rw [Int.toNat_natCast, Nat.zero_add]; unfold secR; rw [List.getElem?_map, hsj]; rfl))) rfl ?_
        refine o_mvt rfl ?_
        refine op_run ((r_xor rfl rfl).val (congrArg (Value.int .u8) (show bitw .xor .u8 (((s.val.getD j 0).toNat : Nat) : Int) ((t.toNat : Nat) : Int) = (((s.val.getD j 0 ^^^ t).toNat : Nat) : Int) from (bitw_xor rfl _ _ (s.val.getD j 0).toNat_lt t.toNat_lt).trans (by rw [UInt8.toNat_xor])))) rfl ?_
        refine op_run (r_idxA1 rfl rfl rfl rfl (by omega) (by omega)) rfl ?_
        refine o_store (v := c8 (s.val.getD j 0 ^^^ t)) rfl rfl rfl rfl hB28 (by rw [Int.toNat_natCast, secR_len]; omega) rfl ?_; intro w32 hB32 hk32 hs32
        have hB32 : Blk w32 b27 (secR (turnS s j t)) 33 := by
          have h := hB32
          rwa [Int.toNat_natCast, Nat.zero_add, secR_turn] at h
        have hD32 := hD28.other (.inr rfl) (by have := hD21.kw.size; have := hk26.size; have := hk27.size; omega) hk32
        refine ops_nil ?_
        refine W_seq ?_
        refine W_region ?_
        refine o_mvt rfl ?_
        refine o_mvt rfl ?_
        refine op_run ((r_quo rfl rfl (by decide)).val (congrArg (Value.int .i64) (show IntKind.i64.wrap (((k : Nat) : Int).tdiv 64) = ((k / 64 : Nat) : Int) from (congrArg IntKind.i64.wrap (tdiv_nat k 64)).trans (wrap_i64 (by omega) (by omega))))) rfl ?_
        refine op_run ((r_add rfl rfl).val (congrArg (Value.int .i64) (show IntKind.i64.wrap (3 + ((k / 64 : Nat) : Int)) = ((3 + k / 64 : Nat) : Int) from (wrap_i64 (by omega) (by omega)).trans (by omega)))) rfl ?_
        refine op_run (r_loadA (secR (turnS s j t)) rfl rfl rfl (by first | rfl | (rw [dgR_len]; rfl) | (rw [refR_len]; rfl) | (rw [secR_len]; rfl) | (rw [List.length_map, tagF_len]; rfl)) (hB32.all)) rfl ?_
        refine op_call rfl rfl rfl (hD32.set ((3 + k / 64 : Nat) : Int) (turnS s j t) (by omega)) ?_; rintro v34 w34 ⟨rfl, hD34, hk34⟩
        rw [if_pos hin, Int.toNat_natCast] at hD34
        have hr20 : b20 < w32.heap.size := by have := hk21.size; have := hk26.size; have := hk27.size; have := hk28.size; have := hk32.size; omega
        have hB34 : Blk w34 b20 (refR (ofR 3 bs)) 26 := hk34.blk' (hk32.blk' (hk28.blk' (hk27.blk' (hk26.blk' hB21 trivial) trivial) (by have := lt_of_get hB21; have := hk26.size; omega)) (by have := lt_of_get hB21; have := hk26.size; omega)) (.inl (.inr rfl))
        refine ops_nil ?_
        refine W_seq ?_
        refine W_region ?_
        refine o_mvt rfl ?_
        refine op_run (r_loadA (refR (ofR 3 bs)) rfl rfl rfl (by first | rfl | (rw [dgR_len]; rfl) | (rw [refR_len]; rfl) | (rw [secR_len]; rfl) | (rw [List.length_map, tagF_len]; rfl)) (hB34.all)) rfl ?_
        refine op_call rfl rfl rfl (bl_Read w8 _ bD _ _ _ w34 hD34 (ofR 3 bs) (by omega) (show -2 ^ 63 ≤ (3 : Int) by decide) (show (3 : Int) < 2 ^ 63 by decide)) ?_; rintro v36 w36 ⟨vx, rfl, hby36, hin36, hk36⟩
        obtain ⟨ax, cx, rfl, _, _⟩ := hby36.form
        have hkE := (hk1.trans hD34.kw).trans hk36
        obtain ⟨M2, hM2⟩ : ∃ M, M = M1.set (3 + k / 64) (turnS s j t) := ⟨_, rfl⟩
        rw [← hM2] at hby36 ⊢
        have hML2 : M2.length = 20 := by rw [hM2, List.length_set]; exact hML
        refine o_mvt rfl ?_
        refine op_run (r_extract rfl rfl) rfl ?_
        refine op_run (r_extract rfl rfl) rfl ?_
        refine o_ast rfl ?_
        refine o_ast rfl ?_
        refine ops_nil ?_
        refine W_seq ?_
        refine W_seq ?_
        refine W_region ?_
        refine o_mvt rfl ?_
        refine o_mvt rfl ?_
        refine op_run (r_len rfl rfl rfl) rfl ?_
        refine op_run (r_geq rfl rfl) rfl ?_
        refine ops_nil ?_
        refine W_cond_p rfl (fun h37 => ?_) (fun h37 => ?_)
        · refine W_seq ?_
          refine W_region ?_
          refine o_mvt rfl ?_
          refine op_run (r_eql rfl rfl) rfl ?_
          refine o_mvt rfl ?_
          have hrd : rdB M2 (ofR 3 bs) = some bs := by
            have e : bytesAt M2 3 bs.length = bs := by rw [hM2, bytesAt_set (by rw [hML]; omega) (by omega) hsM (by rw [← hj]; exact turnS_other s j t)]; exact hbM
            have e1 : (ofR 3 bs).at_.toNat = 3 := rfl
            have e2 : (ofR 3 bs).len.toNat = bs.length := by unfold ofR; simp
            unfold rdB
            rw [e1, e2, e, if_pos]
            refine ⟨⟨⟨?_, ?_⟩, ?_⟩, rfl⟩
            · show (0 : Int) ≤ (bs.length : Int); omega
            · show (bs.length : Int) ≤ 65536; omega
            · rw [e2, hML2]; exact hfit
          refine g_split rfl rfl rfl (fun g38 => ?_) (fun g => absurd g (by simp [hrd]))
          refine o_mvt (g_yes rfl rfl rfl g38) ?_
          refine o_mvt (g_yes rfl rfl rfl g38) ?_
          refine op_call rfl rfl (g_yes rfl rfl rfl g38) (ref01_Same _ _ _ _ bs hby36 (hv.k hkE)) ?_; rintro v39 w39 ⟨rfl, hk39⟩
          refine o_pkTt rfl g38 rfl ?_
          refine o_ast rfl ?_
          refine ops_nil ?_
          refine W_ret ?_
          refine ret1 (.bool (decide ((rdB M2 (ofR 3 bs)).getD [] = bs))) rfl ?_ ?_; rfl
          exact ⟨congrArg Value.bool (decide_eq_true (by rw [hrd]; rfl)), hkE.trans hk39⟩
        · refine W_skip ?_
          refine W_seq ?_
          refine W_quiet (Keep All w36) (by kernel_rfl) (by kernel_rfl) (Keep.drawn _) ?_
          refine q_mvt rfl ?_
          refine q_run (fun _ _ => (r_eql rfl rfl)) rfl ?_
          refine q_mvt rfl ?_
          refine q_split rfl rfl rfl (fun g42 => ?_) (fun g42 => ?_)
          · refine q_mvt (g_yes rfl rfl rfl g42) ?_
            refine q_run (fun _ _ => (r_len rfl rfl rfl)) (g_yes rfl rfl rfl g42) ?_
            refine q_run (fun _ _ => (r_eql rfl rfl)) (g_yes rfl rfl rfl g42) ?_
            refine q_pkTt rfl g42 rfl ?_
            refine q_mvt rfl ?_
            have hno : rdB M2 (ofR 3 bs) = none := by
              cases hr : rdB M2 (ofR 3 bs) with
              | none => rfl
              | some y => rw [hr] at g42; exact absurd g42 (by simp)
            refine q_split rfl rfl rfl (fun g => absurd g (by simp [hno])) (fun g43 => ?_)
            refine q_skip (g_no rfl rfl rfl g43) ?_
            refine q_skip (g_no rfl rfl rfl g43) ?_
            refine q_skip (g_no rfl rfl rfl g43) ?_
            refine q_skip (g_und rfl rfl rfl) ?_
            refine q_skip (g_und rfl rfl rfl) ?_
            refine q_skip (g_und rfl rfl rfl) ?_
            refine q_skip (g_und rfl rfl rfl) ?_
            refine q_skip (g_no rfl rfl rfl g43) ?_
            refine q_pkTc rfl g43 rfl ?_
            refine q_ast rfl ?_
            refine q_nil ?_; intro w44 hk44
            refine W_ret ?_
            refine ret1 (.bool true) rfl ?_ ?_; rfl
            exact ⟨rfl, hkE.trans hk44⟩
          · refine q_skip (g_no rfl rfl rfl g42) ?_
            refine q_skip (g_no rfl rfl rfl g42) ?_
            refine q_skip (g_no rfl rfl rfl g42) ?_
            refine q_pkFc rfl g42 rfl ?_
            refine q_mvt rfl ?_
            refine q_mvt (g_yes rfl rfl rfl rfl) ?_
            refine q_run (fun _ _ => (r_eql rfl rfl)) (g_yes rfl rfl rfl rfl) ?_
            refine q_mvt (g_yes rfl rfl rfl rfl) ?_
            obtain ⟨y, hy⟩ : ∃ y, rdB M2 (ofR 3 bs) = some y := by
              cases hr : rdB M2 (ofR 3 bs) with
              | none => rw [hr] at g42; exact absurd g42 (by simp)
              | some y => exact ⟨y, rfl⟩
            obtain ⟨hyl, hyt⟩ := rdB_some hy
            have hyl : y.length = bs.length := by have h : (y.length : Int) = (bs.length : Int) := hyl; omega
            have hoe : ofR 3 y = ofR 3 bs := by
              have h := (ofR_iff (r := ofR 3 bs) (bs := y) (by show (y.length : Int) = (bs.length : Int); omega)).2 hyt
              exact h
            refine q_split rfl rfl rfl (fun g46 => ?_) (fun g => absurd g (by simp [hy]))
            refine q_mvt (g_yes rfl rfl rfl g46) ?_
            refine q_call rfl rfl (g_yes rfl rfl rfl g46) (fun _ hk => (rf07_Of _ 3 _ ((rdB M2 (ofR 3 bs)).getD []) (hby36.k hk) (by rw [hy]; show y.length ≤ _; omega)).mono fun e w'' ⟨u, he, h1, h2⟩ => ⟨u, he, h1, hk.trans h2⟩) ?_
            refine q_run (fun _ hk => r_loadA (refR (ofR 3 bs)) rfl rfl rfl (by first | rfl | (rw [dgR_len]; rfl) | (rw [refR_len]; rfl) | (rw [secR_len]; rfl) | (rw [List.length_map, tagF_len]; rfl)) ((hk.blk' (hk36.blk' hB34 trivial) trivial).all)) (g_yes rfl rfl rfl g46) ?_
            refine q_run (fun _ _ => (r_eqlC (p := True) rfl rfl rfl rfl (by kernel_rfl) (okC_ref _) (okC_ref _) rfl (by rw [hy]; show refR (ofR 3 y) = refR (ofR 3 bs) ↔ True; rw [hoe]; exact ⟨fun _ => trivial, fun _ => rfl⟩))) (g_yes rfl rfl rfl g46) ?_
            refine q_pkTt rfl g46 (g_yes rfl rfl rfl rfl) ?_
            refine q_pkFt rfl rfl rfl ?_
            refine q_ast rfl ?_
            refine q_nil ?_; intro w50 hk50
            refine W_ret ?_
            refine ret1 (.bool (decide True)) rfl ?_ ?_; rfl
            exact ⟨congrArg Value.bool (by simp), hkE.trans hk50⟩
end Go.Proofs.Ytdjndaodggecjaa.B
