/-
  BinTurned: the walk.
-/
import Derived.Test.YtigehkfdfecfoaaBn6
import Derived.Test.YtigehkfdfecfoaaDisk8
import Derived.Test.YtigehkfdfecfoaaTurnS
namespace Go.Proofs.Ytigehkfdfecfoaa.B
open Go
set_option linter.unusedVariables false
set_option maxHeartbeats 2000000
set_option maxRecDepth 100000
attribute [local irreducible] W OpsW OpsQ retP
theorem putAt_turn {M l : List Sec} {a q : Nat} {z : Sec} (h : a + l.length ≤ M.length) (hq : q < l.length) : (putAt M a l).set (a + q) z = putAt M a (l.set q z) := by
  unfold putAt
  have h1 : (M.take a).length = a := by rw [List.length_take]; omega
  rw [List.length_set, List.append_assoc, List.append_assoc, List.set_append_right _ _ (by omega), h1, Nat.add_sub_cancel_left, List.set_append_left _ _ hq]
theorem heads_turn {L : List Bk} {q : Nat} {z : Sec} : ((L.map padB).set q z).map headB = L.set q (headB z) := by
  rw [List.map_set, heads_pads]
theorem xor_ne {v t : UInt8} (ht : t ≠ 0) : v ^^^ t ≠ v := fun h => ht (by
  have h2 := congrArg (fun z => v ^^^ z) h
  simpa [← UInt8.xor_assoc] using h2)
theorem head_turn {x : Bk} {k : Nat} {t : UInt8} (hk : k < 48) (ht : t ≠ 0) : headB (turnS (padB x) k t) ≠ x := by
  intro h
  have hxl := x.2
  obtain ⟨v, hv⟩ : ∃ v, x.val[k]? = some v := ⟨_, List.getElem?_eq_getElem (by omega)⟩
  have hp : (padB x).val[k]? = some v := by
    have h1 := congrArg Subtype.val (headB_pad x)
    have h2 : ((padB x).val.take 48)[k]? = some v := by rw [show (padB x).val.take 48 = x.val from h1]; exact hv
    rwa [List.getElem?_take, if_pos hk] at h2
  have h3 : ((turnS (padB x) k t).val.take 48)[k]? = some (v ^^^ t) := by
    rw [List.getElem?_take, if_pos hk]
    unfold turnS
    simp only
    rw [List.getElem?_set_self (List.getElem?_eq_some_iff.1 hp).1, List.getD_eq_getElem?_getD, hp]; rfl
  have h4 : ((turnS (padB x) k t).val.take 48) = x.val := congrArg Subtype.val h
  rw [h4, hv] at h3
  injection h3 with h3
  exact xor_ne ht h3.symm
theorem readB_other {M : List Sec} {a : Nat} {L : List Bk} {n : Int} {d : Dig} (h : a + L.length ≤ M.length) {i q : Nat} {x : Bk} {z : Sec} (hi : L[i]? = some x) (hq : i ≠ q) (hql : q < L.length) :
    readB ((putAt M a (L.map padB)).set (a + q) z) ⟨n, a, L.length, d⟩ i (fgB x) = (x, 0) := by
  have hl : (L.map padB).length = L.length := List.length_map _
  have hil := (List.getElem?_eq_some_iff.1 hi).1
  have hg : ((putAt M a (L.map padB)).set (a + q) z)[a + i]? = some (padB x) := by
    rw [List.getElem?_set_ne (by omega), putAt_get (by omega), if_pos ⟨by omega, by omega⟩, Nat.add_sub_cancel_left, List.getElem?_map, hi]; rfl
  unfold readB
  simp only
  rw [if_neg (by omega), if_neg (by unfold fitsB; rw [List.length_set, putAt_len (by omega)]; omega), show ((a : Int) + (i : Int)).toNat = a + i by omega, hg]
  simp only [headB_pad, if_true]
theorem readB_self {M : List Sec} {a : Nat} {L : List Bk} {n : Int} {d : Dig} (h : a + L.length ≤ M.length) {q : Nat} {f : Dig} {z : Sec} (hql : q < L.length) :
    readB ((putAt M a (L.map padB)).set (a + q) z) ⟨n, a, L.length, d⟩ q f = if fgB (headB z) = f then (headB z, 0) else (Bk.zero, 7) := by
  have hl : (L.map padB).length = L.length := List.length_map _
  have hg : ((putAt M a (L.map padB)).set (a + q) z)[a + q]? = some z := List.getElem?_set_self (by rw [putAt_len (by omega)]; omega)
  unfold readB
  simp only
  rw [if_neg (by omega), if_neg (by unfold fitsB; rw [List.length_set, putAt_len (by omega)]; omega), show ((a : Int) + (q : Int)).toNat = a + q by omega, hg]
theorem allB_turn {M : List Sec} {a : Nat} {L : List Bk} {n : Int} {d : Dig} (h : a + L.length ≤ M.length) {q : Nat} {z : Sec} (hql : q < L.length) :
    allB ((putAt M a (L.map padB)).set (a + q) z) ⟨n, a, L.length, d⟩ = if rootB (L.set q (headB z)) = d then some (L.set q (headB z)) else none := by
  have hl : (L.map padB).length = L.length := List.length_map _
  have e : ((((putAt M a (L.map padB)).set (a + q) z).drop a).take L.length).map headB = L.set q (headB z) := by
    have h2 := putAt_mid (M := M) (a := a) (l := (L.map padB).set q z) (by rw [List.length_set]; omega)
    rw [List.length_set, hl] at h2
    rw [putAt_turn (by omega) (by omega), h2, heads_turn]
  unfold allB
  simp only [Int.toNat_natCast]
  rw [e]
  by_cases hd : rootB (L.set q (headB z)) = d
  · rw [if_pos hd, if_pos ⟨⟨by omega, by unfold fitsB; rw [List.length_set, putAt_len (by omega)]; omega⟩, hd⟩]
  · rw [if_neg hd, if_neg fun hh => hd hh.2]
theorem walk_BinTurned (w : World) (v : Value) (at_ which : Int) (t : UInt8) (L : List Bk) (hv : Sl w v L.length 48 (rows blkR L)) :
    Ret Try.prog 4 [v, .int .i64 at_, .int .i64 which, .int .u8 t.toNat].toArray w fun u w' => u = .bool true ∧ Keep All w w' := by
  obtain ⟨a0, c0, rfl, hc0, hcm0⟩ := hv.form
  obtain ⟨m1, hm1, hand1⟩ := and_mask at_ 65535 (by decide)
  obtain ⟨m2, hm2, hand2⟩ := and_mask which 65535 (by decide)
  refine enter (fn := Try.f4) (n := 174) Try.func4 rfl rfl (by simp) ?_
  refine W_seq ?_
  refine W_region ?_
  refine o_asc rfl ?_
  refine ops_nil ?_
  refine W_seq ?_
  refine W_seq ?_
  refine W_region ?_
  refine op_call rfl rfl rfl (speaks10 w) ?_; rintro v1 w1 ⟨rfl, hk1⟩
  refine op_run (r_not rfl) rfl ?_
  refine ops_nil ?_
  refine W_no rfl (rfl) ?_
  refine W_skip ?_
  refine W_seq ?_
  refine W_cut [36] [25, 26, 27, 28, 29, 30, 31, 32, 33, 34, 35, 36] (fun vs w4 => vs = [.bool (decide (L.length < 1 ∨ 30 < L.length ∨ (t.toNat : Int) = 0))] ∧ w4 = w1) ?_ ?_
  · refine W_region ?_
    refine o_mvt rfl ?_
    refine op_run (r_len rfl rfl rfl) rfl ?_
    refine op_run (r_lss rfl rfl) rfl ?_
    refine o_mvt rfl ?_
    refine g_split rfl rfl rfl (fun g5 => ?_) (fun g5 => ?_)
    · refine o_mvt (g_yes rfl rfl rfl g5) ?_
      refine op_run (r_len rfl rfl rfl) (g_yes rfl rfl rfl g5) ?_
      refine op_run (r_gtr rfl rfl) (g_yes rfl rfl rfl g5) ?_
      refine o_pkFt rfl g5 rfl ?_
      refine o_mvt rfl ?_
      refine g_split rfl rfl rfl (fun g6 => ?_) (fun g6 => ?_)
      · refine o_mvt (g_yes rfl rfl rfl g6) ?_
        refine op_run (r_eql rfl rfl) (g_yes rfl rfl rfl g6) ?_
        refine o_pkFt rfl g6 rfl ?_
        refine ops_nil ?_
        exact ⟨by (repeat (first | with_reducible exact offM_refl _ _ | refine offM_updc rfl ?_ | refine offM_upd rfl ?_ | refine offM_updo rfl ?_ | refine offM_updo_none ?_ | refine offM_head rfl rfl ?_)), congrArg (fun b => [Value.bool b]) (by have g5 := of_decide_eq_false g5; have g6 := of_decide_eq_false g6; rw [decide_eq_decide]; omega), rfl⟩
      · refine op_skip (g_no rfl rfl rfl g6) ?_
        refine op_skip (g_no rfl rfl rfl g6) ?_
        refine o_pkTc rfl g6 rfl ?_
        refine ops_nil ?_
        exact ⟨by (repeat (first | with_reducible exact offM_refl _ _ | refine offM_updc rfl ?_ | refine offM_upd rfl ?_ | refine offM_updo rfl ?_ | refine offM_updo_none ?_ | refine offM_head rfl rfl ?_)), congrArg (fun b => [Value.bool b]) (by have g6 := of_decide_eq_true g6; symm; apply decide_eq_true; omega), rfl⟩
    · refine op_skip (g_no rfl rfl rfl g5) ?_
      refine op_skip (g_no rfl rfl rfl g5) ?_
      refine op_skip (g_no rfl rfl rfl g5) ?_
      refine o_pkTc rfl g5 rfl ?_
      refine o_mvt rfl ?_
      refine op_skip (g_no rfl rfl rfl rfl) ?_
      refine op_skip (g_no rfl rfl rfl rfl) ?_
      refine o_pkTc rfl rfl rfl ?_
      refine ops_nil ?_
      exact ⟨by (repeat (first | with_reducible exact offM_refl _ _ | refine offM_updc rfl ?_ | refine offM_upd rfl ?_ | refine offM_updo rfl ?_ | refine offM_updo_none ?_ | refine offM_head rfl rfl ?_)), congrArg (fun b => [Value.bool b]) (by have g5 := of_decide_eq_true g5; symm; apply decide_eq_true; omega), rfl⟩
  · rintro J10 vs w10 ⟨rfl, rfl⟩ -
    refine W_cond_p rfl (fun h11 => ?_) (fun h11 => ?_)
    · refine W_seq ?_
      refine W_region ?_
      refine o_asc rfl ?_
      refine ops_nil ?_
      refine W_ret ?_
      refine ret1 (.bool true) rfl ?_ ?_; rfl
      exact ⟨rfl, hk1⟩
    · refine W_skip ?_
      refine W_seq ?_
      refine W_region ?_
      have hL1 : 1 ≤ L.length := by omega
      have hL30 : L.length ≤ 30 := by omega
      have ht : t ≠ 0 := fun e => h11 (.inr (.inr (by rw [e]; rfl)))
      refine op_call rfl rfl rfl (DV.new w10 40 (by decide) (by decide)) ?_; rintro v13 w13 ⟨bD, rfl, hD13⟩
      refine o_mvt rfl ?_
      refine op_run (r_extract rfl rfl) rfl ?_
      refine op_run (r_extract rfl rfl) rfl ?_
      refine o_ast rfl ?_
      refine o_ast rfl ?_
      refine ops_nil ?_
      refine W_seq ?_
      refine W_cut [46] [41, 42, 43, 44, 45, 46] (fun vs w14 => vs = [.bool false] ∧ w14 = w13) ?_ ?_
      · refine W_region ?_
        refine o_mvt rfl ?_
        refine op_run (r_neq rfl rfl) rfl ?_
        refine o_mvt rfl ?_
        refine g_split rfl rfl rfl (fun g15 => ?_) (fun g15 => ?_)
        · refine o_mvt (g_yes rfl rfl rfl g15) ?_
          refine op_run (r_isNilP rfl rfl) (g_yes rfl rfl rfl g15) ?_
          refine o_pkFt rfl g15 rfl ?_
          refine ops_nil ?_
          exact ⟨by (repeat (first | with_reducible exact offM_refl _ _ | refine offM_updc rfl ?_ | refine offM_upd rfl ?_ | refine offM_updo rfl ?_ | refine offM_updo_none ?_ | refine offM_head rfl rfl ?_)), rfl, rfl⟩
        · refine op_skip (g_no rfl rfl rfl g15) ?_
          refine op_skip (g_no rfl rfl rfl g15) ?_
          refine o_pkTc rfl g15 rfl ?_
          refine ops_nil ?_
          exact absurd g15 (by decide)
      · rintro J18 vs w18 ⟨rfl, rfl⟩ -
        refine W_no rfl (rfl) ?_
        refine W_skip ?_
        refine W_seq ?_
        refine W_region ?_
        refine o_mvt rfl ?_
        refine o_mvt rfl ?_
        refine op_call rfl rfl rfl (bn_Write w10 _ bD _ _ _ w18 hD13 0 5 _ L (StaysL.of (hv.keepE hk1 fun _ _ => trivial)) (by omega) (by omega) (by decide) (by decide)) ?_; rintro v21 w21 ⟨rfl, hD21, hk21⟩
        have hf : fitsB (Int.toNat 40) 5 L.length := ⟨by decide, by decide, by show _ ≤ ((40 : Nat) : Int) - 5; omega⟩
        have hE : wrE (Int.toNat 40) 0 5 L = 0 := (if_neg (by rintro (h | h); omega; rw [h] at hL1; cases hL1)).trans (if_pos hf)
        obtain ⟨B, hBq⟩ : ∃ B : Bn, B = ⟨0, (5 : Nat), L.length, rootB L⟩ := ⟨_, rfl⟩
        obtain ⟨M1, hM1⟩ : ∃ M, M = putAt (List.replicate 40 Sec.zero) 5 (L.map padB) := ⟨_, rfl⟩
        have hEB : wrB (Int.toNat 40) 0 5 L = B := (if_pos hE).trans hBq.symm
        have hEM : wrM (Int.toNat 40) (List.replicate (Int.toNat 40) Sec.zero) 0 5 L = M1 := (if_pos hE).trans hM1.symm
        rw [hEM] at hD21
        rw [hE, hEB]
        refine o_mvt rfl ?_
        refine op_run (r_extract rfl rfl) rfl ?_
        refine op_run (r_extract rfl rfl) rfl ?_
        refine o_alloc rfl rfl rfl ?_; intro w22 b22 e22 hB22 hk22 hs22
        refine o_storeA (cs := binV B) rfl rfl (by first | rfl | exact binV_one _ | exact dgR_one _ | exact refR_one _ | exact secR_one _ | exact all_c8 _ | exact blkR_one _) (by first | rfl | (rw [binV_len]; rfl) | (rw [dgR_len]; rfl) | (rw [refR_len]; rfl) | (rw [secR_len]; rfl) | (rw [List.length_map, tagF_len]; rfl) | (rw [blkR_len]; rfl)) hB22 (by simp [binV_len]) rfl ?_; intro w23 hB23 hk23 hs23
        have hB23 : Blk w23 b22 (binV B) 31 := by
          have h := hB23
          rwa [splice_all (by simp [binV_len])] at h
        have hD23 := hD21.fresh hk22 (Nat.le_of_eq e22.symm) hk23 (by omega)
        have hML : M1.length = 40 := hD23.len
        have hkw23 := hk1.trans hD23.kw
        obtain ⟨k, hk⟩ : ∃ k, k = m1 % 48 := ⟨_, rfl⟩
        obtain ⟨q, hq⟩ : ∃ q, q = m2 % L.length := ⟨_, rfl⟩
        have hk48 : k < 48 := by omega
        have hql : q < L.length := by rw [hq]; exact Nat.mod_lt _ (by omega)
        refine o_ast rfl ?_
        refine ops_nil ?_
        refine W_seq ?_
        refine W_seq ?_
        refine W_region ?_
        refine o_mvt rfl ?_
        refine op_run (r_neq rfl rfl) rfl ?_
        refine ops_nil ?_
        refine W_no rfl (rfl) ?_
        refine W_skip ?_
        refine W_seq ?_
        refine W_quiet (Keep All w23) (by kernel_rfl) (by kernel_rfl) (Keep.drawn _) ?_
        refine q_mvt rfl ?_
        refine q_run (fun _ _ => ((r_and rfl rfl).val (congrArg (Value.int .i64) (show bitw .and .i64 at_ 65535 = ((m1 : Nat) : Int) from hand1)))) rfl ?_
        refine q_run (fun _ _ => ((r_rem rfl rfl (by decide)).val (congrArg (Value.int .i64) (show ((m1 : Nat) : Int).tmod 48 = (k : Int) from by rw [hk]; exact tmod_nat' m1 48)))) rfl ?_
        refine q_mvt rfl ?_
        refine q_run (fun _ _ => ((r_and rfl rfl).val (congrArg (Value.int .i64) (show bitw .and .i64 which 65535 = ((m2 : Nat) : Int) from hand2)))) rfl ?_
        refine q_mvt rfl ?_
        refine q_run (fun _ _ => (r_len rfl rfl rfl)) rfl ?_
        refine q_run (fun _ _ => ((r_rem rfl rfl (by omega)).val (congrArg (Value.int .i64) (show ((m2 : Nat) : Int).tmod (L.length : Int) = (q : Int) from by rw [hq]; exact tmod_nat' _ _)))) rfl ?_
        refine q_ast rfl ?_
        refine q_ast rfl ?_
        refine q_nil ?_; intro w28 hk28
        have hD28 := hD23.keep hk28
        refine W_seq ?_
        refine W_region ?_
        refine o_mvt rfl ?_
        refine o_mvt rfl ?_
        refine op_run ((r_add rfl rfl).val (congrArg (Value.int .i64) (show IntKind.i64.wrap (5 + (q : Int)) = ((5 + q : Nat) : Int) from (wrap_i64 (by omega) (by omega)).trans (by omega)))) rfl ?_
        refine op_call rfl rfl rfl (hD28.read ((5 + q : Nat) : Int) (by omega)) ?_; rintro v29 w29 ⟨s, e0, rfl, hs, hk29⟩
        have hin : (0 : Int) ≤ ((5 + q : Nat) : Int) ∧ ((5 + q : Nat) : Int) < ((Int.toNat 40 : Nat) : Int) := by show _ ∧ _ < ((40 : Nat) : Int); omega
        have hsM : M1[5 + q]? = some s := by
          rcases hs with ⟨_, _, h3⟩ | ⟨h3, _⟩
          · rwa [Int.toNat_natCast] at h3
          · exact absurd hin h3
        obtain ⟨xq, hxq⟩ : ∃ x, L[q]? = some x := ⟨_, List.getElem?_eq_getElem hql⟩
        have hLp : (L.map padB).length = L.length := List.length_map _
        have hsp : s = padB xq := by
          rw [hM1, putAt_get (by rw [List.length_replicate]; omega), if_pos ⟨by omega, by omega⟩, Nat.add_sub_cancel_left, List.getElem?_map, hxq] at hsM
          exact (Option.some.inj hsM).symm
        have hsj : s.val[k]? = some (s.val.getD k 0) := by rw [List.getD_eq_getElem?_getD, List.getElem?_eq_getElem (by rw [s.2]; omega)]; rfl
        refine o_mvt rfl ?_
        refine op_run (r_extract rfl rfl) rfl ?_
        refine op_run (r_extract rfl rfl) rfl ?_
        refine o_alloc rfl rfl rfl ?_; intro w30 b30 e30 hB30 hk30 hs30
        refine o_storeA (cs := secR s) rfl rfl (by first | rfl | exact binV_one _ | exact dgR_one _ | exact refR_one _ | exact secR_one _ | exact all_c8 _ | exact blkR_one _) (by first | rfl | (rw [binV_len]; rfl) | (rw [dgR_len]; rfl) | (rw [refR_len]; rfl) | (rw [secR_len]; rfl) | (rw [List.length_map, tagF_len]; rfl) | (rw [blkR_len]; rfl)) hB30 (by exact Nat.le_of_eq (by simp [secR_len])) rfl ?_; intro w31 hB31 hk31 hs31
        have hB31 : Blk w31 b30 (secR s) 37 := by
          have h := hB31
          rwa [splice_all (by simp [secR_len])] at h
        have hD31 := (hD28.keep hk29).fresh hk30 (Nat.le_of_eq e30.symm) hk31 (by omega)
        refine o_ast rfl ?_
        refine ops_nil ?_
        refine W_seq ?_
        refine W_region ?_
        refine o_mvt rfl ?_
        refine op_run (r_idxA1 rfl rfl rfl rfl (by omega) (by omega)) rfl ?_
        refine op_run (r_load rfl rfl rfl (v := c8 (s.val.getD k 0)) (hB31.cell (show (secR s)[0 + ((k : Nat) : Int).toNat]? = some (c8 (s.val.getD k 0)) by rw [Int.toNat_natCast, Nat.zero_add]; unfold secR; rw [List.getElem?_map, hsj]; rfl))) rfl ?_
        refine o_mvt rfl ?_
        refine op_run ((r_xor rfl rfl).val (congrArg (Value.int .u8) (show bitw .xor .u8 (((s.val.getD k 0).toNat : Nat) : Int) ((t.toNat : Nat) : Int) = (((s.val.getD k 0 ^^^ t).toNat : Nat) : Int) from (bitw_xor rfl _ _ (s.val.getD k 0).toNat_lt t.toNat_lt).trans (by rw [UInt8.toNat_xor])))) rfl ?_
        refine op_run (r_idxA1 rfl rfl rfl rfl (by omega) (by omega)) rfl ?_
        refine o_store (v := c8 (s.val.getD k 0 ^^^ t)) rfl rfl rfl rfl hB31 (by rw [Int.toNat_natCast, secR_len]; omega) rfl ?_; intro w35 hB35 hk35 hs35
        have hB35 : Blk w35 b30 (secR (turnS s k t)) 37 := by
          have h := hB35
          rwa [Int.toNat_natCast, Nat.zero_add, secR_turn] at h
        have hz28 := hk28.size
        have hz29 := hk29.size
        have hz30 := hk30.size
        have hz1023 := hD23.kw.size
        have hD35 := hD31.other (.inr rfl) (by omega) hk35
        refine ops_nil ?_
        refine W_seq ?_
        refine W_region ?_
        refine o_mvt rfl ?_
        refine o_mvt rfl ?_
        refine op_run ((r_add rfl rfl).val (congrArg (Value.int .i64) (show IntKind.i64.wrap (5 + (q : Int)) = ((5 + q : Nat) : Int) from (wrap_i64 (by omega) (by omega)).trans (by omega)))) rfl ?_
        refine op_run (r_loadA (secR (turnS s k t)) rfl rfl rfl (by first | rfl | (rw [binV_len]; rfl) | (rw [dgR_len]; rfl) | (rw [refR_len]; rfl) | (rw [secR_len]; rfl) | (rw [List.length_map, tagF_len]; rfl) | (rw [blkR_len]; rfl)) (hB35.all)) rfl ?_
        refine op_call rfl rfl rfl (hD35.set ((5 + q : Nat) : Int) (turnS s k t) (by omega)) ?_; rintro v37 w37 ⟨rfl, hD37, hk37⟩
        rw [if_pos hin, Int.toNat_natCast] at hD37
        have hlt23 := hB23.lt
        have hB35b : Blk w35 b22 (binV B) 31 := hk35.blk' (hk31.blk' (hk30.blk' (hk29.blk' (hk28.blk' hB23 trivial) trivial) trivial) (by omega)) (by omega)
        have hB37 : Blk w37 b22 (binV B) 31 := hk37.blk' hB35b (.inl (.inr rfl))
        obtain ⟨M2, hM2⟩ : ∃ M, M = M1.set (5 + q) (turnS s k t) := ⟨_, rfl⟩
        rw [← hM2] at hD37
        obtain ⟨z, hz⟩ : ∃ z, z = headB (turnS s k t) := ⟨_, rfl⟩
        have hzx : z ≠ xq := by rw [hz, hsp]; exact head_turn hk48 ht
        have hkw37 := hk1.trans hD37.kw
        refine ops_nil ?_
        refine W_seq ?_
        refine W_seq ?_
        refine W_region ?_
        refine o_mvt rfl ?_
        refine op_run (r_len rfl rfl rfl) rfl ?_
        refine o_mvc rfl ?_
        refine ops_nil ?_
        refine W_block ?_
        refine W_loop [83] [8, 17, 18, 19, 20, 83, 84, 85, 86, 87, 88, 89, 90, 91, 92, 93, 94, 95, 96, 97, 98, 99, 100, 101, 102, 103, 104, 105, 106, 107, 108, 109, 110, 111, 112, 113, 114, 115, 116, 117, 118, 119, 120, 121, 122, 123, 124, 125, 126, 127, 128, 129, 130, 131, 132, 133, 134, 135, 136, 137, 138, 139, 140, 141, 142, 143] (fun vs w' => ∃ i : Nat, vs = [.int .i64 i] ∧ i ≤ L.length ∧ Keep All w37 w') (fun vs _ => match vs with | [.int _ k] => L.length - k.toNat | _ => 0) ⟨0, rfl, Nat.zero_le _, Keep.refl _⟩ ?_
        rintro J38 vs w38 ⟨i, rfl, hi, hk38⟩ -
        refine W_seq ?_
        refine W_region ?_
        refine op_run (r_lss rfl rfl) rfl ?_
        refine ops_nil ?_
        refine W_seq ?_
        refine W_cond_p rfl (fun h39 => ?_) (fun h39 => ?_)
        · refine W_skip ?_
          refine W_seq ?_
          refine W_block ?_
          refine W_seq ?_
          refine W_region ?_
          refine o_mvt rfl ?_
          have hkl : i < L.length := by omega
          obtain ⟨x, hx⟩ : ∃ x, x = L[i] := ⟨_, rfl⟩
          have hxk : L[i]? = some x := by rw [List.getElem?_eq_getElem hkl, hx]
          obtain ⟨bz, oz, rfl, hcz⟩ := rows_at' (i := i) blkR_len (hv.keepE (hkw37.trans hk38) fun _ _ => trivial) hkl (by decide)
          rw [← hx] at hcz
          have hA : ¬ i = q → readB M2 B (i : Int) (fgB x) = (x, 0) := fun hne => by rw [hM2, hM1, hBq]; exact readB_other (by rw [List.length_replicate]; omega) hxk hne hql
          have hC : i = q → readB M2 B (i : Int) (fgB x) = if fgB z = fgB x then (z, 0) else (Bk.zero, 7) := fun he => by rw [he, hM2, hM1, hBq, hz]; exact readB_self (by rw [List.length_replicate]; omega) hql
          have hCx : i = q → z ≠ x := fun he => by
            rw [he, hxq] at hxk
            injection hxk with hxk
            rw [← hxk]; exact hzx
          obtain ⟨⟨y, e⟩, hye⟩ : ∃ p, p = readB M2 B (i : Int) (fgB x) := ⟨_, rfl⟩
          rw [← hye] at hA hC
          refine op_run (r_idxS rfl rfl rfl ti_bk (by omega) (by omega)) rfl ?_
          refine op_run (r_loadA (blkR x) rfl rfl rfl (by first | rfl | (rw [binV_len]; rfl) | (rw [dgR_len]; rfl) | (rw [refR_len]; rfl) | (rw [secR_len]; rfl) | (rw [List.length_map, tagF_len]; rfl) | (rw [blkR_len]; rfl)) ((by intro u v hu; rw [Int.toNat_natCast]; exact hcz u v hu))) rfl ?_
          refine o_alloc rfl rfl rfl ?_; intro w42 b42 e42 hB42 hk42 hs42
          refine o_ast rfl ?_
          refine o_storeA (cs := blkR x) rfl rfl (by first | rfl | exact binV_one _ | exact dgR_one _ | exact refR_one _ | exact secR_one _ | exact all_c8 _ | exact blkR_one _) (by first | rfl | (rw [binV_len]; rfl) | (rw [dgR_len]; rfl) | (rw [refR_len]; rfl) | (rw [secR_len]; rfl) | (rw [List.length_map, tagF_len]; rfl) | (rw [blkR_len]; rfl)) hB42 (by exact Nat.le_of_eq (by simp [blkR_len])) rfl ?_; intro w43 hB43 hk43 hs43
          have hB43 : Blk w43 b42 (blkR x) 40 := by
            have h := hB43
            rwa [splice_all (by simp [blkR_len])] at h
          have hk3743 : Keep All w37 w43 := hk38.trans (hk42.new hk43 (by omega))
          have hB43b := hk3743.blk' hB37 trivial
          have hD43 := hD37.keep hk3743
          refine ops_nil ?_
          refine W_cut [19, 20] [19, 20, 88, 89, 90, 91, 92, 93, 94, 95, 96] (fun vs w44 => ∃ b19, vs = [.pointer (some ⟨b19, 0, none⟩), .int .i64 e] ∧ Blk w44 b19 (blkR y) 40 ∧ Keep All w43 w44) ?_ ?_
          · refine W_held (fun w2 => Keep All w43 w2) (by kernel_rfl) (Keep.drawn _) (fun hS => ?_)
            refine any_mvt 0 rfl (by kernel_rfl) (by kernel_rfl) (by kernel_rfl) rfl hS ?_
            refine any_run 1 (fun w' hS' => (r_loadA (binV B) rfl rfl rfl (by first | rfl | (rw [binV_len]; rfl) | (rw [dgR_len]; rfl) | (rw [refR_len]; rfl) | (rw [secR_len]; rfl) | (rw [List.length_map, tagF_len]; rfl) | (rw [blkR_len]; rfl)) ((hS'.blk' hB43b trivial).all))) rfl (by kernel_rfl) (by kernel_rfl) (by kernel_rfl) rfl hS ?_
            refine any_mvt 2 rfl (by kernel_rfl) (by kernel_rfl) (by kernel_rfl) rfl hS ?_
            refine any_run 3 (fun w' hS' => (r_loadA (blkR x) rfl rfl rfl (by first | rfl | (rw [binV_len]; rfl) | (rw [dgR_len]; rfl) | (rw [refR_len]; rfl) | (rw [secR_len]; rfl) | (rw [List.length_map, tagF_len]; rfl) | (rw [blkR_len]; rfl)) ((hS'.blk' hB43 trivial).all))) rfl (by kernel_rfl) (by kernel_rfl) (by kernel_rfl) rfl hS ?_
            refine any_two 4 9 (by kernel_rfl) (one_of rfl ?_) (one_of rfl ?_)
            · refine op_call rfl rfl rfl (rf10_Finger _ x) ?_; rintro v48 w48 ⟨rfl, hk48'⟩
              refine ops_nil ⟨hS.trans hk48', fun hS => ?_⟩
              refine any_two 5 9 (by kernel_rfl) (one_of rfl ?_) (one_of rfl ?_)
              · refine op_call rfl rfl rfl (bn_Read w10 _ bD _ _ M2 _ (hD43.keep hS) B (i : Int) (fgB x) (by omega) (by rw [hBq]; show -2 ^ 63 ≤ ((5 : Nat) : Int); decide) (by rw [hBq]; show ((5 : Nat) : Int) < 2 ^ 63; decide)) ?_; rintro v50 w50 ⟨rfl, hk50⟩
                rw [← hye]
                refine ops_nil ⟨hS.trans hk50, fun hS => ?_⟩
                refine any_mvt 6 rfl (by kernel_rfl) (by kernel_rfl) (by kernel_rfl) rfl hS ?_
                refine any_run 7 (fun w' hS' => (r_extract rfl rfl)) rfl (by kernel_rfl) (by kernel_rfl) (by kernel_rfl) rfl hS ?_
                refine any_run 8 (fun w' hS' => (r_extract rfl rfl)) rfl (by kernel_rfl) (by kernel_rfl) (by kernel_rfl) rfl hS ?_
                refine any_one 9 (by kernel_rfl) (one_of rfl ?_)
                refine o_alloc rfl rfl rfl ?_; intro w52 b52 e52 hB52 hk52 hs52
                have hz52 := hS.size
                refine ops_nil ⟨hS.trans hk52, fun hS => ?_⟩
                refine any_one 10 (by kernel_rfl) (one_of rfl ?_)
                refine o_storeA (cs := blkR y) rfl rfl (by first | rfl | exact binV_one _ | exact dgR_one _ | exact refR_one _ | exact secR_one _ | exact all_c8 _ | exact blkR_one _) (by first | rfl | (rw [binV_len]; rfl) | (rw [dgR_len]; rfl) | (rw [refR_len]; rfl) | (rw [secR_len]; rfl) | (rw [List.length_map, tagF_len]; rfl) | (rw [blkR_len]; rfl)) hB52 (by exact Nat.le_of_eq (by simp [blkR_len])) rfl ?_; intro w54 hB54 hk54 hs54
                have hB54 : Blk w54 b52 (blkR y) 40 := by
                  have h := hB54
                  rwa [splice_all (by simp [blkR_len])] at h
                refine ops_nil ⟨hS.new hk54 (by omega), fun hS => ?_⟩
                refine any_ast 11 rfl (by kernel_rfl) (by kernel_rfl) (by kernel_rfl) rfl hS ?_
                refine any_done (by kernel_rfl) ?_
                exact ⟨by (repeat (first | with_reducible exact offM_refl _ _ | refine offM_updc rfl ?_ | refine offM_upd rfl ?_ | refine offM_updo rfl ?_ | refine offM_updo_none ?_ | refine offM_head rfl rfl ?_)), b52, rfl, hB54, hS⟩
              · refine o_alloc rfl rfl rfl ?_; intro w57 b57 e57 hB57 hk57 hs57
                have hz57 := hS.size
                refine ops_nil ⟨hS.trans hk57, fun hS => ?_⟩
                refine any_one 5 (by kernel_rfl) (one_of rfl ?_)
                refine op_call rfl rfl rfl (bn_Read w10 _ bD _ _ M2 _ (hD43.keep hS) B (i : Int) (fgB x) (by omega) (by rw [hBq]; show -2 ^ 63 ≤ ((5 : Nat) : Int); decide) (by rw [hBq]; show ((5 : Nat) : Int) < 2 ^ 63; decide)) ?_; rintro v59 w59 ⟨rfl, hk59⟩
                rw [← hye]
                refine ops_nil ⟨hS.trans hk59, fun hS => ?_⟩
                refine any_mvt 6 rfl (by kernel_rfl) (by kernel_rfl) (by kernel_rfl) rfl hS ?_
                refine any_run 7 (fun w' hS' => (r_extract rfl rfl)) rfl (by kernel_rfl) (by kernel_rfl) (by kernel_rfl) rfl hS ?_
                refine any_run 8 (fun w' hS' => (r_extract rfl rfl)) rfl (by kernel_rfl) (by kernel_rfl) (by kernel_rfl) rfl hS ?_
                refine any_one 10 (by kernel_rfl) (one_of rfl ?_)
                refine o_storeA (cs := blkR y) rfl rfl (by first | rfl | exact binV_one _ | exact dgR_one _ | exact refR_one _ | exact secR_one _ | exact all_c8 _ | exact blkR_one _) (by first | rfl | (rw [binV_len]; rfl) | (rw [dgR_len]; rfl) | (rw [refR_len]; rfl) | (rw [secR_len]; rfl) | (rw [List.length_map, tagF_len]; rfl) | (rw [blkR_len]; rfl)) (hk59.blk' hB57 trivial) (by exact Nat.le_of_eq (by simp [blkR_len])) rfl ?_; intro w61 hB61 hk61 hs61
                have hB61 : Blk w61 b57 (blkR y) 40 := by
                  have h := hB61
                  rwa [splice_all (by simp [blkR_len])] at h
                refine ops_nil ⟨hS.new hk61 (by omega), fun hS => ?_⟩
                refine any_ast 11 rfl (by kernel_rfl) (by kernel_rfl) (by kernel_rfl) rfl hS ?_
                refine any_done (by kernel_rfl) ?_
                exact ⟨by (repeat (first | with_reducible exact offM_refl _ _ | refine offM_updc rfl ?_ | refine offM_upd rfl ?_ | refine offM_updo rfl ?_ | refine offM_updo_none ?_ | refine offM_head rfl rfl ?_)), b57, rfl, hB61, hS⟩
            · refine o_alloc rfl rfl rfl ?_; intro w64 b64 e64 hB64 hk64 hs64
              have hz64 := hS.size
              refine ops_nil ⟨hS.trans hk64, fun hS => ?_⟩
              refine any_one 4 (by kernel_rfl) (one_of rfl ?_)
              refine op_call rfl rfl rfl (rf10_Finger _ x) ?_; rintro v66 w66 ⟨rfl, hk66⟩
              refine ops_nil ⟨hS.trans hk66, fun hS => ?_⟩
              refine any_one 5 (by kernel_rfl) (one_of rfl ?_)
              refine op_call rfl rfl rfl (bn_Read w10 _ bD _ _ M2 _ (hD43.keep hS) B (i : Int) (fgB x) (by omega) (by rw [hBq]; show -2 ^ 63 ≤ ((5 : Nat) : Int); decide) (by rw [hBq]; show ((5 : Nat) : Int) < 2 ^ 63; decide)) ?_; rintro v68 w68 ⟨rfl, hk68⟩
              rw [← hye]
              refine ops_nil ⟨hS.trans hk68, fun hS => ?_⟩
              refine any_mvt 6 rfl (by kernel_rfl) (by kernel_rfl) (by kernel_rfl) rfl hS ?_
              refine any_run 7 (fun w' hS' => (r_extract rfl rfl)) rfl (by kernel_rfl) (by kernel_rfl) (by kernel_rfl) rfl hS ?_
              refine any_run 8 (fun w' hS' => (r_extract rfl rfl)) rfl (by kernel_rfl) (by kernel_rfl) (by kernel_rfl) rfl hS ?_
              refine any_one 10 (by kernel_rfl) (one_of rfl ?_)
              refine o_storeA (cs := blkR y) rfl rfl (by first | rfl | exact binV_one _ | exact dgR_one _ | exact refR_one _ | exact secR_one _ | exact all_c8 _ | exact blkR_one _) (by first | rfl | (rw [binV_len]; rfl) | (rw [dgR_len]; rfl) | (rw [refR_len]; rfl) | (rw [secR_len]; rfl) | (rw [List.length_map, tagF_len]; rfl) | (rw [blkR_len]; rfl)) (hk68.blk' (hk66.blk' hB64 trivial) trivial) (by exact Nat.le_of_eq (by simp [blkR_len])) rfl ?_; intro w70 hB70 hk70 hs70
              have hB70 : Blk w70 b64 (blkR y) 40 := by
                have h := hB70
                rwa [splice_all (by simp [blkR_len])] at h
              refine ops_nil ⟨hS.new hk70 (by omega), fun hS => ?_⟩
              refine any_ast 11 rfl (by kernel_rfl) (by kernel_rfl) (by kernel_rfl) rfl hS ?_
              refine any_done (by kernel_rfl) ?_
              exact ⟨by (repeat (first | with_reducible exact offM_refl _ _ | refine offM_updc rfl ?_ | refine offM_upd rfl ?_ | refine offM_updo rfl ?_ | refine offM_updo_none ?_ | refine offM_head rfl rfl ?_)), b64, rfl, hB70, hS⟩
          · rintro J73 vs w73 ⟨b19, rfl, hB19, hk73⟩ -
            have hB73 := hk73.blk' hB43 trivial
            refine W_cut [142] [97, 98, 99, 100, 101, 102, 103, 104, 105, 106, 107, 108, 109, 110, 111, 112, 113, 114, 115, 116, 117, 118, 119, 120, 121, 122, 123, 124, 125, 126, 127, 128, 129, 130, 131, 132, 133, 134, 135, 136, 137, 138, 139, 140, 141, 142] (fun vs w74 => vs = [.bool false] ∧ Keep All w73 w74) ?_ ?_
            · refine W_quiet (Keep All w73) (by kernel_rfl) (by kernel_rfl) (Keep.drawn _) ?_
              refine q_mvt rfl ?_
              refine q_mvt rfl ?_
              refine q_run (fun _ _ => (r_neq rfl rfl)) rfl ?_
              refine q_mvt rfl ?_
              refine q_split rfl rfl rfl (fun g76 => ?_) (fun g76 => ?_)
              · refine q_mvt (g_yes rfl rfl rfl g76) ?_
                refine q_run (fun _ _ => (r_neq rfl rfl)) (g_yes rfl rfl rfl g76) ?_
                refine q_mvt (g_yes rfl rfl rfl g76) ?_
                have hqi : ¬ (i : Int) = (q : Int) := by simpa using g76
                have hqn : ¬ i = q := fun h => hqi (by rw [h])
                obtain ⟨hyx, he⟩ : y = x ∧ e = 0 := by have h := hA hqn; injection h with h1 h2; exact ⟨h1, h2⟩
                refine q_split rfl rfl rfl (fun g77 => ?_) (fun g => absurd g (by simp [he]))
                refine q_run (fun _ hk => r_loadA (blkR y) rfl rfl rfl (by first | rfl | (rw [binV_len]; rfl) | (rw [dgR_len]; rfl) | (rw [refR_len]; rfl) | (rw [secR_len]; rfl) | (rw [List.length_map, tagF_len]; rfl) | (rw [blkR_len]; rfl)) ((hk.blk' hB19 trivial).all)) (g_yes rfl rfl rfl g77) ?_
                refine q_run (fun _ hk => r_loadA (blkR x) rfl rfl rfl (by first | rfl | (rw [binV_len]; rfl) | (rw [dgR_len]; rfl) | (rw [refR_len]; rfl) | (rw [secR_len]; rfl) | (rw [List.length_map, tagF_len]; rfl) | (rw [blkR_len]; rfl)) ((hk.blk' hB73 trivial).all)) (g_yes rfl rfl rfl g77) ?_
                refine q_run (fun _ _ => (r_neqC (p := True) rfl rfl rfl rfl (by kernel_rfl) (okC_bk _) (okC_bk _) rfl (by rw [hyx]; exact ⟨fun _ => trivial, fun _ => rfl⟩))) (g_yes rfl rfl rfl g77) ?_
                refine q_pkFt rfl g77 (g_yes rfl rfl rfl g76) ?_
                refine q_pkTt rfl g76 rfl ?_
                refine q_mvt rfl ?_
                refine q_split rfl rfl rfl (fun g81 => ?_) (fun g => absurd g (by simp))
                refine q_mvt (g_yes rfl rfl rfl g81) ?_
                refine q_mvt (g_yes rfl rfl rfl g81) ?_
                refine q_run (fun _ _ => (r_eql rfl rfl)) (g_yes rfl rfl rfl g81) ?_
                refine q_mvt (g_yes rfl rfl rfl g81) ?_
                refine q_split rfl rfl rfl (fun g => absurd g (by simp [hqi])) (fun g82 => ?_)
                refine q_skip (g_no rfl rfl rfl g82) ?_
                refine q_skip (g_no rfl rfl rfl g82) ?_
                refine q_pkFc rfl g82 (g_yes rfl rfl rfl g81) ?_
                refine q_mvt (g_yes rfl rfl rfl g81) ?_
                refine q_skip (g_no rfl rfl rfl rfl) ?_
                refine q_skip (g_no rfl rfl rfl rfl) ?_
                refine q_skip (g_no rfl rfl rfl rfl) ?_
                refine q_skip (g_no rfl rfl rfl rfl) ?_
                refine q_skip (g_und rfl rfl rfl) ?_
                refine q_skip (g_und rfl rfl rfl) ?_
                refine q_skip (g_und rfl rfl rfl) ?_
                refine q_skip (g_und rfl rfl rfl) ?_
                refine q_skip (g_und rfl rfl rfl) ?_
                refine q_skip (g_no rfl rfl rfl rfl) ?_
                refine q_pkFc rfl rfl (g_yes rfl rfl rfl g81) ?_
                refine q_pkFt rfl g81 rfl ?_
                refine q_mvt rfl ?_
                refine q_mvt (g_yes rfl rfl rfl rfl) ?_
                refine q_mvt (g_yes rfl rfl rfl rfl) ?_
                refine q_run (fun _ _ => (r_eql rfl rfl)) (g_yes rfl rfl rfl rfl) ?_
                refine q_mvt (g_yes rfl rfl rfl rfl) ?_
                refine q_split rfl rfl rfl (fun g => absurd g (by simp [hqi])) (fun g83 => ?_)
                refine q_skip (g_no rfl rfl rfl g83) ?_
                refine q_skip (g_no rfl rfl rfl g83) ?_
                refine q_pkFc rfl g83 (g_yes rfl rfl rfl rfl) ?_
                refine q_mvt (g_yes rfl rfl rfl rfl) ?_
                refine q_skip (g_no rfl rfl rfl rfl) ?_
                refine q_skip (g_no rfl rfl rfl rfl) ?_
                refine q_pkFc rfl rfl (g_yes rfl rfl rfl rfl) ?_
                refine q_pkFt rfl rfl rfl ?_
                refine q_nil ?_; intro w84 hk84
                exact ⟨by (repeat (first | with_reducible exact offM_refl _ _ | refine offM_updc rfl ?_ | refine offM_upd rfl ?_ | refine offM_updo rfl ?_ | refine offM_updo_none ?_ | refine offM_head rfl rfl ?_)), by first | rfl | exact congrArg (fun b => [Value.bool b]) (by simp), hk84⟩
              · refine q_skip (g_no rfl rfl rfl g76) ?_
                refine q_skip (g_no rfl rfl rfl g76) ?_
                refine q_skip (g_no rfl rfl rfl g76) ?_
                refine q_skip (g_und rfl rfl rfl) ?_
                refine q_skip (g_und rfl rfl rfl) ?_
                refine q_skip (g_und rfl rfl rfl) ?_
                refine q_skip (g_no rfl rfl rfl g76) ?_
                refine q_pkFc rfl g76 rfl ?_
                refine q_mvt rfl ?_
                refine q_mvt (g_yes rfl rfl rfl rfl) ?_
                refine q_mvt (g_yes rfl rfl rfl rfl) ?_
                refine q_run (fun _ _ => (r_eql rfl rfl)) (g_yes rfl rfl rfl rfl) ?_
                refine q_mvt (g_yes rfl rfl rfl rfl) ?_
                have hqi : (i : Int) = (q : Int) := by simpa using g76
                have hqn : i = q := by omega
                have hC' := hC hqn
                have hzx' := hCx hqn
                refine q_split rfl rfl rfl (fun g86 => ?_) (fun g => absurd g (by simp [hqn]))
                refine q_mvt (g_yes rfl rfl rfl g86) ?_
                refine q_run (fun _ _ => (r_eql rfl rfl)) (g_yes rfl rfl rfl g86) ?_
                refine q_pkTt rfl g86 (g_yes rfl rfl rfl rfl) ?_
                refine q_mvt (g_yes rfl rfl rfl rfl) ?_
                refine q_split rfl rfl rfl (fun g87 => ?_) (fun g87 => ?_)
                · have he : e = 0 := by simpa using g87
                  obtain ⟨hyx, hfy⟩ : ¬ y = x ∧ fgB y = fgB x := by
                    by_cases hd : fgB z = fgB x
                    · rw [if_pos hd] at hC'; injection hC' with h1 h2; rw [h1]; exact ⟨hzx', hd⟩
                    · rw [if_neg hd] at hC'; injection hC' with h1 h2; rw [he] at h2; cases h2
                  refine q_run (fun _ hk => r_loadA (blkR y) rfl rfl rfl (by first | rfl | (rw [binV_len]; rfl) | (rw [dgR_len]; rfl) | (rw [refR_len]; rfl) | (rw [secR_len]; rfl) | (rw [List.length_map, tagF_len]; rfl) | (rw [blkR_len]; rfl)) ((hk.blk' hB19 trivial).all)) (g_yes rfl rfl rfl g87) ?_
                  refine q_run (fun _ hk => r_loadA (blkR x) rfl rfl rfl (by first | rfl | (rw [binV_len]; rfl) | (rw [dgR_len]; rfl) | (rw [refR_len]; rfl) | (rw [secR_len]; rfl) | (rw [List.length_map, tagF_len]; rfl) | (rw [blkR_len]; rfl)) ((hk.blk' hB73 trivial).all)) (g_yes rfl rfl rfl g87) ?_
                  refine q_run (fun _ _ => (r_eqlC (p := y = x) rfl rfl rfl rfl (by kernel_rfl) (okC_bk _) (okC_bk _) rfl (blkR_inj))) (g_yes rfl rfl rfl g87) ?_
                  refine q_mvt (g_yes rfl rfl rfl g87) ?_
                  refine q_split rfl rfl rfl (fun g91 => ?_) (fun g => absurd g (by simp [hyx]))
                  refine q_run (fun _ hk => r_loadA (blkR y) rfl rfl rfl (by first | rfl | (rw [binV_len]; rfl) | (rw [dgR_len]; rfl) | (rw [refR_len]; rfl) | (rw [secR_len]; rfl) | (rw [List.length_map, tagF_len]; rfl) | (rw [blkR_len]; rfl)) ((hk.blk' hB19 trivial).all)) (g_yes rfl rfl rfl g91) ?_
                  refine q_call rfl rfl (g_yes rfl rfl rfl g91) (fun _ hk => (rf10_Finger _ y).mono fun e w'' ⟨u, he, h1, h2⟩ => ⟨u, he, h1, hk.trans h2⟩) ?_
                  refine q_run (fun _ hk => r_loadA (blkR x) rfl rfl rfl (by first | rfl | (rw [binV_len]; rfl) | (rw [dgR_len]; rfl) | (rw [refR_len]; rfl) | (rw [secR_len]; rfl) | (rw [List.length_map, tagF_len]; rfl) | (rw [blkR_len]; rfl)) ((hk.blk' hB73 trivial).all)) (g_yes rfl rfl rfl g91) ?_
                  refine q_call rfl rfl (g_yes rfl rfl rfl g91) (fun _ hk => (rf10_Finger _ x).mono fun e w'' ⟨u, he, h1, h2⟩ => ⟨u, he, h1, hk.trans h2⟩) ?_
                  refine q_run (fun _ _ => (r_neqC (p := True) rfl rfl rfl rfl (by kernel_rfl) (okC_dgR _) (okC_dgR _) rfl (by rw [hfy]; exact ⟨fun _ => trivial, fun _ => rfl⟩))) (g_yes rfl rfl rfl g91) ?_
                  refine q_pkFt rfl g91 (g_yes rfl rfl rfl g87) ?_
                  refine q_pkTt rfl g87 (g_yes rfl rfl rfl rfl) ?_
                  refine q_pkFt rfl rfl rfl ?_
                  refine q_mvt rfl ?_
                  refine q_split rfl rfl rfl (fun g97 => ?_) (fun g => absurd g (by simp))
                  refine q_mvt (g_yes rfl rfl rfl g97) ?_
                  refine q_mvt (g_yes rfl rfl rfl g97) ?_
                  refine q_run (fun _ _ => (r_eql rfl rfl)) (g_yes rfl rfl rfl g97) ?_
                  refine q_mvt (g_yes rfl rfl rfl g97) ?_
                  refine q_split rfl rfl rfl (fun g98 => ?_) (fun g => absurd g (by simp [hqn]))
                  refine q_mvt (g_yes rfl rfl rfl g98) ?_
                  refine q_run (fun _ _ => (r_neq rfl rfl)) (g_yes rfl rfl rfl g98) ?_
                  refine q_pkTt rfl g98 (g_yes rfl rfl rfl g97) ?_
                  refine q_mvt (g_yes rfl rfl rfl g97) ?_
                  refine q_split rfl rfl rfl (fun g => absurd g (by simp [he])) (fun g99 => ?_)
                  refine q_skip (g_no rfl rfl rfl g99) ?_
                  refine q_skip (g_no rfl rfl rfl g99) ?_
                  refine q_pkFc rfl g99 (g_yes rfl rfl rfl g97) ?_
                  refine q_pkFt rfl g97 rfl ?_
                  refine q_nil ?_; intro w100 hk100
                  exact ⟨by (repeat (first | with_reducible exact offM_refl _ _ | refine offM_updc rfl ?_ | refine offM_upd rfl ?_ | refine offM_updo rfl ?_ | refine offM_updo_none ?_ | refine offM_head rfl rfl ?_)), by first | rfl | exact congrArg (fun b => [Value.bool b]) (by simp), hk100⟩
                · refine q_skip (g_no rfl rfl rfl g87) ?_
                  refine q_skip (g_no rfl rfl rfl g87) ?_
                  refine q_skip (g_no rfl rfl rfl g87) ?_
                  refine q_skip (g_no rfl rfl rfl g87) ?_
                  refine q_skip (g_und rfl rfl rfl) ?_
                  refine q_skip (g_und rfl rfl rfl) ?_
                  refine q_skip (g_und rfl rfl rfl) ?_
                  refine q_skip (g_und rfl rfl rfl) ?_
                  refine q_skip (g_und rfl rfl rfl) ?_
                  refine q_skip (g_no rfl rfl rfl g87) ?_
                  refine q_pkFc rfl g87 (g_yes rfl rfl rfl rfl) ?_
                  refine q_pkFt rfl rfl rfl ?_
                  refine q_mvt rfl ?_
                  refine q_mvt (g_yes rfl rfl rfl rfl) ?_
                  refine q_mvt (g_yes rfl rfl rfl rfl) ?_
                  refine q_run (fun _ _ => (r_eql rfl rfl)) (g_yes rfl rfl rfl rfl) ?_
                  refine q_mvt (g_yes rfl rfl rfl rfl) ?_
                  have he0 : ¬ e = 0 := by simpa using g87
                  have he : e = 7 := by
                    by_cases hd : fgB z = fgB x
                    · rw [if_pos hd] at hC'; injection hC' with h1 h2; exact absurd h2 he0
                    · rw [if_neg hd] at hC'; injection hC' with h1 h2
                  refine q_split rfl rfl rfl (fun g102 => ?_) (fun g => absurd g (by simp [hqn]))
                  refine q_mvt (g_yes rfl rfl rfl g102) ?_
                  refine q_run (fun _ _ => (r_neq rfl rfl)) (g_yes rfl rfl rfl g102) ?_
                  refine q_pkTt rfl g102 (g_yes rfl rfl rfl rfl) ?_
                  refine q_mvt (g_yes rfl rfl rfl rfl) ?_
                  refine q_split rfl rfl rfl (fun g103 => ?_) (fun g => absurd g (by simp [he]))
                  refine q_mvt (g_yes rfl rfl rfl g103) ?_
                  refine q_run (fun _ _ => (r_neq rfl rfl)) (g_yes rfl rfl rfl g103) ?_
                  refine q_pkTt rfl g103 (g_yes rfl rfl rfl rfl) ?_
                  refine q_pkFt rfl rfl rfl ?_
                  refine q_nil ?_; intro w104 hk104
                  exact ⟨by (repeat (first | with_reducible exact offM_refl _ _ | refine offM_updc rfl ?_ | refine offM_upd rfl ?_ | refine offM_updo rfl ?_ | refine offM_updo_none ?_ | refine offM_head rfl rfl ?_)), by first | rfl | exact congrArg (fun b => [Value.bool b]) (by simp [he]), hk104⟩
            · rintro J106 vs w106 ⟨rfl, hk106⟩ -
              refine W_no rfl (rfl) ?_
              refine W_skip ?_
              refine W_region ?_
              refine op_run (r_add rfl rfl) rfl ?_
              refine o_mvt rfl ?_
              refine ops_nil ?_
              have hinc := inc64' i (by omega)
              refine ⟨by (repeat (first | with_reducible exact offM_refl _ _ | refine offM_updc rfl ?_ | refine offM_upd rfl ?_ | refine offM_updo rfl ?_ | refine offM_updo_none ?_ | refine offM_head rfl rfl ?_)), ⟨i + 1, congrArg (fun z : Int => [Value.int .i64 z]) hinc, by omega, (hk3743.trans hk73).trans hk106⟩, ?_⟩
              show L.length - (IntKind.i64.wrap ((i : Int) + 1)).toNat < L.length - (i : Int).toNat
              rw [hinc]; omega
        · refine W_exit ?_
          refine W_seq ?_
          refine W_region ?_
          refine o_mvt rfl ?_
          have hB38 := hk38.blk' hB37 trivial
          obtain ⟨L2, hL2⟩ : ∃ l, l = L.set q z := ⟨_, rfl⟩
          have hall : allB M2 B = if rootB L2 = rootB L then some L2 else none := by rw [hM2, hM1, hBq, hL2, hz]; exact allB_turn (by rw [List.length_replicate]; omega) hql
          have hLL : L2 ≠ L := fun e => by
            have h1 : L2[q]? = some z := by rw [hL2, List.getElem?_set_self hql]
            rw [e, hxq] at h1
            injection h1 with h1
            exact hzx h1.symm
          refine op_run (r_loadA (binV B) rfl rfl rfl (by first | rfl | (rw [binV_len]; rfl) | (rw [dgR_len]; rfl) | (rw [refR_len]; rfl) | (rw [secR_len]; rfl) | (rw [List.length_map, tagF_len]; rfl) | (rw [blkR_len]; rfl)) (hB38.all)) rfl ?_
          refine op_call rfl rfl rfl (bn_All w10 _ bD _ _ M2 _ (hD37.keep hk38) B (by omega) (by rw [hBq]; show -2 ^ 63 ≤ ((5 : Nat) : Int); decide) (by rw [hBq]; show ((5 : Nat) : Int) < 2 ^ 63; decide) (by decide)) ?_; rintro v111 w111 ⟨u, rfl, hS111, hk111⟩
          obtain ⟨au, cu, rfl, hcu, hcum⟩ := Sl.form hS111
          have hkF := (hkw37.trans hk38).trans hk111
          have hB111 := hk111.blk' hB38 trivial
          refine o_mvt rfl ?_
          refine op_run (r_extract rfl rfl) rfl ?_
          refine op_run (r_extract rfl rfl) rfl ?_
          refine o_ast rfl ?_
          refine o_ast rfl ?_
          refine ops_nil ?_
          refine W_seq ?_
          refine W_quiet (Keep All w111) (by kernel_rfl) (by kernel_rfl) (Keep.drawn _) ?_
          refine q_mvt rfl ?_
          refine q_run (fun _ _ => (r_eql rfl rfl)) rfl ?_
          refine q_mvt rfl ?_
          refine q_split rfl rfl rfl (fun g113 => ?_) (fun g113 => ?_)
          · refine q_mvt (g_yes rfl rfl rfl g113) ?_
            refine q_run (fun _ _ => (r_len rfl rfl rfl)) (g_yes rfl rfl rfl g113) ?_
            refine q_run (fun _ _ => (r_eql rfl rfl)) (g_yes rfl rfl rfl g113) ?_
            refine q_pkTt rfl g113 rfl ?_
            refine q_mvt rfl ?_
            have hno : allB M2 B = none := by
              cases hr : allB M2 B with
              | none => rfl
              | some y => rw [hr] at g113; exact absurd g113 (by simp)
            refine q_split rfl rfl rfl (fun g => absurd g (by simp [hno])) (fun g114 => ?_)
            refine q_skip (g_no rfl rfl rfl g114) ?_
            refine q_skip (g_no rfl rfl rfl g114) ?_
            refine q_skip (g_no rfl rfl rfl g114) ?_
            refine q_skip (g_und rfl rfl rfl) ?_
            refine q_skip (g_und rfl rfl rfl) ?_
            refine q_skip (g_und rfl rfl rfl) ?_
            refine q_skip (g_und rfl rfl rfl) ?_
            refine q_skip (g_und rfl rfl rfl) ?_
            refine q_skip (g_no rfl rfl rfl g114) ?_
            refine q_skip (g_no rfl rfl rfl g114) ?_
            refine q_skip (g_und rfl rfl rfl) ?_
            refine q_skip (g_und rfl rfl rfl) ?_
            refine q_skip (g_und rfl rfl rfl) ?_
            refine q_skip (g_und rfl rfl rfl) ?_
            refine q_skip (g_no rfl rfl rfl g114) ?_
            refine q_pkTc rfl g114 rfl ?_
            refine q_ast rfl ?_
            refine q_nil ?_; intro w115 hk115
            refine W_ret ?_
            refine ret1 (.bool true) rfl ?_ ?_; rfl
            exact ⟨rfl, hkF.trans hk115⟩
          · refine q_skip (g_no rfl rfl rfl g113) ?_
            refine q_skip (g_no rfl rfl rfl g113) ?_
            refine q_skip (g_no rfl rfl rfl g113) ?_
            refine q_pkFc rfl g113 rfl ?_
            refine q_mvt rfl ?_
            refine q_mvt (g_yes rfl rfl rfl rfl) ?_
            refine q_run (fun _ _ => (r_eql rfl rfl)) (g_yes rfl rfl rfl rfl) ?_
            refine q_mvt (g_yes rfl rfl rfl rfl) ?_
            obtain ⟨hsm, hrt⟩ : allB M2 B = some L2 ∧ rootB L2 = rootB L := by
              by_cases hd : rootB L2 = rootB L
              · rw [if_pos hd] at hall; exact ⟨hall, hd⟩
              · rw [if_neg hd] at hall; rw [hall] at g113; exact absurd g113 (by simp)
            refine q_split rfl rfl rfl (fun g117 => ?_) (fun g => absurd g (by simp [hsm]))
            refine q_mvt (g_yes rfl rfl rfl g117) ?_
            refine q_call rfl rfl (g_yes rfl rfl rfl g117) (fun _ hk => (rf10_Root _ _ L2 (by have h := Sl.keepE hS111 hk fun _ _ => trivial; rw [hsm] at h; rw [hsm]; exact h) (by rw [hL2, List.length_set]; omega)).mono fun e w'' ⟨u, he, h1, h2⟩ => ⟨u, he, h1, hk.trans h2⟩) ?_
            refine q_run (fun _ _ => (r_fieldAddr rfl rfl rfl rfl rfl)) (g_yes rfl rfl rfl g117) ?_
            refine q_run (fun _ hk => r_loadA (dgR B.root) rfl rfl rfl (by first | rfl | (rw [binV_len]; rfl) | (rw [dgR_len]; rfl) | (rw [refR_len]; rfl) | (rw [secR_len]; rfl) | (rw [List.length_map, tagF_len]; rfl) | (rw [blkR_len]; rfl)) ((fun j u hj => by rw [Addr.add_lit]; exact (hk.blk' hB111 trivial).cell (show (binV B)[0 + 3 + j]? = some u by rw [Nat.zero_add]; exact binV_dig B hj)))) (g_yes rfl rfl rfl g117) ?_
            refine q_run (fun _ _ => (r_eqlC (p := rootB L2 = rootB L) rfl rfl rfl rfl (by kernel_rfl) (okC_dgR _) (okC_dgR _) rfl (by rw [hBq]; exact dgR_inj))) (g_yes rfl rfl rfl g117) ?_
            refine q_pkTt rfl g117 (g_yes rfl rfl rfl rfl) ?_
            refine q_mvt (g_yes rfl rfl rfl rfl) ?_
            refine q_split rfl rfl rfl (fun g121 => ?_) (fun g => absurd g (by simp [hrt]))
            refine q_mvt (g_yes rfl rfl rfl g121) ?_
            refine q_mvt (g_yes rfl rfl rfl g121) ?_
            refine q_call rfl rfl (g_yes rfl rfl rfl g121) (fun _ hk => (rf10_Same _ _ _ L2 L (by have h := Sl.keepE hS111 hk fun _ _ => trivial; rw [hsm] at h; rw [hsm]; exact h) (hv.keepE (hkF.trans hk) fun _ _ => trivial)).mono fun e w'' ⟨u, he, h1, h2⟩ => ⟨u, he, h1, hk.trans h2⟩) ?_
            refine q_run (fun _ _ => (r_not rfl)) (g_yes rfl rfl rfl g121) ?_
            refine q_pkTt rfl g121 (g_yes rfl rfl rfl rfl) ?_
            refine q_pkFt rfl rfl rfl ?_
            refine q_ast rfl ?_
            refine q_nil ?_; intro w123 hk123
            refine W_ret ?_
            refine ret1 (.bool (!decide (L2 = L))) rfl ?_ ?_; rfl
            exact ⟨congrArg Value.bool (by simp [hLL]), hkF.trans hk123⟩
end Go.Proofs.Ytigehkfdfecfoaa.B
