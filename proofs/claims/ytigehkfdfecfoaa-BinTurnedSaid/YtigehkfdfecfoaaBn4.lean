/-
  Bins on the disk: Read, All.
-/
import Derived.Test.YtigehkfdfecfoaaBn3
namespace Go.Proofs.Ytigehkfdfecfoaa.B
open Go
set_option linter.unusedVariables false
set_option maxHeartbeats 2000000
set_option maxRecDepth 100000
attribute [local irreducible] W OpsW OpsQ retP
/-- The block at a place of a bin, by its fingerprint; the code. -/
def readB (M : List Sec) (b : Bn) (slot : Int) (fg : Dig) : Bk × Int :=
  if slot < 0 ∨ b.count ≤ slot then (Bk.zero, 2) else if ¬ fitsB M.length b.at_ slot then (Bk.zero, 7) else
  match M[(b.at_ + slot).toNat]? with
  | some s => if fgB (headB s) = fg then (headB s, 0) else (Bk.zero, 7)
  | none => (Bk.zero, 7)
theorem bn_Read (w : World) (K : Nat → Prop) (b N n : Nat) (M : List Sec) (w' : World) (h : DV w K b N M n w') (B : Bn) (slot : Int) (fg : Dig) (hn : n < 1000000) (ha : -2 ^ 63 ≤ B.at_) (ha2 : B.at_ < 2 ^ 63) :
    Ret Try.prog 13 [.pointer (some ⟨b, 0, none⟩), .agg (binV B).toArray, .int .i64 slot, .agg (dgR fg).toArray].toArray w' fun r w2 =>
      r = .tuple #[.agg (blkR (readB M B slot fg).1).toArray, .int .i64 (readB M B slot fg).2] ∧ Keep All w' w2 := by
  have hN := h.bound.1
  have hML := h.len
  refine enter (fn := Try.f13) (n := 47) Try.func13 rfl rfl (by simp) ?_
  refine W_seq ?_
  refine W_region ?_
  refine o_box rfl rfl rfl ?_; intro w1 b1 e1 hB1 hk1 hs1
  have hB1 : Blk w1 b1 (binV B) 31 := hB1
  refine o_box rfl rfl rfl ?_; intro w2 b2 e2 hB2 hk2 hs2
  have hB2 : Blk w2 b2 (dgR fg) 29 := hB2
  refine o_alloc rfl rfl rfl ?_; intro w3 b3 e3 hB3 hk3 hs3
  have hB3 : Blk w3 b3 (blkR Bk.zero) 40 := by rw [blkR_zero]; exact hB3
  have hk03 := (hk1.trans hk2).trans hk3
  have hB1' := hk3.blk' (hk2.blk' hB1 trivial) trivial
  have hB2' := hk3.blk' hB2 trivial
  have hD3 := h.keep hk03
  refine o_asc rfl ?_
  refine ops_nil ?_
  refine W_seq ?_
  refine W_cut [19] [12, 13, 14, 15, 16, 17, 18, 19] (fun vs w4 => vs = [.bool (decide (slot < 0 ∨ B.count ≤ slot))] ∧ w4 = w3) ?_ ?_
  · refine W_region ?_
    refine o_mvt rfl ?_
    refine op_run (r_lss rfl rfl) rfl ?_
    refine o_mvt rfl ?_
    refine g_split rfl rfl rfl (fun g5 => ?_) (fun g5 => ?_)
    · refine o_mvt (g_yes rfl rfl rfl g5) ?_
      refine op_run (r_fieldAddr rfl rfl rfl rfl rfl) (g_yes rfl rfl rfl g5) ?_
      refine op_run (r_load rfl rfl rfl (hB1'.cell rfl)) (g_yes rfl rfl rfl g5) ?_
      refine op_run (r_geq rfl rfl) (g_yes rfl rfl rfl g5) ?_
      refine o_pkFt rfl g5 rfl ?_
      refine ops_nil ?_
      exact ⟨by (repeat (first | with_reducible exact offM_refl _ _ | refine offM_updc rfl ?_ | refine offM_upd rfl ?_ | refine offM_updo rfl ?_ | refine offM_updo_none ?_ | refine offM_head rfl rfl ?_)), congrArg (fun b => [Value.bool b]) (by have := of_decide_eq_false g5; rw [decide_eq_decide]; omega), rfl⟩
    · refine op_skip (g_no rfl rfl rfl g5) ?_
      refine op_skip (g_no rfl rfl rfl g5) ?_
      refine op_skip (g_no rfl rfl rfl g5) ?_
      refine op_skip (g_no rfl rfl rfl g5) ?_
      refine o_pkTc rfl g5 rfl ?_
      refine ops_nil ?_
      exact ⟨by (repeat (first | with_reducible exact offM_refl _ _ | refine offM_updc rfl ?_ | refine offM_upd rfl ?_ | refine offM_updo rfl ?_ | refine offM_updo_none ?_ | refine offM_head rfl rfl ?_)), congrArg (fun b => [Value.bool b]) (decide_eq_true (Or.inl (of_decide_eq_true g5))).symm, rfl⟩
  · rintro J9 vs w9 ⟨rfl, rfl⟩ -
    refine W_cond_p rfl (fun h10 => ?_) (fun h10 => ?_)
    · refine W_seq ?_
      refine W_region ?_
      have hr : readB M B slot fg = (Bk.zero, 2) := if_pos h10
      refine op_run (r_buildA ((blkR Bk.zero)) (_) ([]) rfl rfl rfl rfl rfl (by rw [blkR_zero]; rfl)) rfl ?_
      refine o_storeA (cs := blkR Bk.zero) rfl rfl (by first | rfl | exact binV_one _ | exact dgR_one _ | exact refR_one _ | exact secR_one _ | exact all_c8 _ | exact blkR_one _) (by first | rfl | (rw [binV_len]; rfl) | (rw [dgR_len]; rfl) | (rw [refR_len]; rfl) | (rw [secR_len]; rfl) | (rw [List.length_map, tagF_len]; rfl) | (rw [blkR_len]; rfl)) hB3 (by simp [blkR_len]) rfl ?_; intro w12 hB12 hk12 hs12
      rw [splice_all (by simp [blkR_len])] at hB12
      refine o_asc rfl ?_
      refine ops_nil ?_
      refine W_ret ?_
      refine retAT ((blkR Bk.zero)) (.int .i64 2) rfl rfl rfl rfl rfl (by first | rfl | (rw [binV_len]; rfl) | (rw [dgR_len]; rfl) | (rw [refR_len]; rfl) | (rw [secR_len]; rfl) | (rw [List.length_map, tagF_len]; rfl) | (rw [blkR_len]; rfl)) (hB12.all) ?_
      rw [hr]
      exact ⟨rfl, hk03.new hk12 (by omega)⟩
    · refine W_skip ?_
      refine W_seq ?_
      refine W_seq ?_
      refine W_region ?_
      refine o_mvt rfl ?_
      refine op_run (r_fieldAddr rfl rfl rfl rfl rfl) rfl ?_
      refine op_run (r_load rfl rfl rfl (hB1'.cell rfl)) rfl ?_
      refine o_mvt rfl ?_
      refine op_call rfl rfl rfl (bn_fits w K b N n M _ hD3 B.at_ slot ha ha2) ?_; rintro v15 w15 ⟨rfl, rfl⟩
      refine op_run (r_not rfl) rfl ?_
      refine ops_nil ?_
      refine W_cond rfl (fun h16 => ?_) (fun h16 => ?_)
      · refine W_seq ?_
        refine W_region ?_
        have hr : readB M B slot fg = (Bk.zero, 7) := (if_neg h10).trans (if_pos (by rw [hML]; simpa using h16))
        refine op_run (r_buildA ((blkR Bk.zero)) (_) ([]) rfl rfl rfl rfl rfl (by rw [blkR_zero]; rfl)) rfl ?_
        refine o_storeA (cs := blkR Bk.zero) rfl rfl (by first | rfl | exact binV_one _ | exact dgR_one _ | exact refR_one _ | exact secR_one _ | exact all_c8 _ | exact blkR_one _) (by first | rfl | (rw [binV_len]; rfl) | (rw [dgR_len]; rfl) | (rw [refR_len]; rfl) | (rw [secR_len]; rfl) | (rw [List.length_map, tagF_len]; rfl) | (rw [blkR_len]; rfl)) hB3 (by simp [blkR_len]) rfl ?_; intro w18 hB18 hk18 hs18
        rw [splice_all (by simp [blkR_len])] at hB18
        refine o_asc rfl ?_
        refine ops_nil ?_
        refine W_ret ?_
        refine retAT ((blkR Bk.zero)) (.int .i64 7) rfl rfl rfl rfl rfl (by first | rfl | (rw [binV_len]; rfl) | (rw [dgR_len]; rfl) | (rw [refR_len]; rfl) | (rw [secR_len]; rfl) | (rw [List.length_map, tagF_len]; rfl) | (rw [blkR_len]; rfl)) (hB18.all) ?_
        rw [hr]
        exact ⟨rfl, hk03.new hk18 (by omega)⟩
      · refine W_skip ?_
        refine W_seq ?_
        refine W_region ?_
        refine o_mvt rfl ?_
        refine op_run (r_fieldAddr rfl rfl rfl rfl rfl) rfl ?_
        have hf : fitsB N B.at_ slot := by simpa using h16
        have hf0 := hf.1
        have hf1 := hf.2.1
        have hf2 := hf.2.2
        have hr0 : readB M B slot fg = match M[(B.at_ + slot).toNat]? with
            | some s => if fgB (headB s) = fg then (headB s, 0) else (Bk.zero, 7)
            | none => (Bk.zero, 7) := (if_neg h10).trans (if_neg (by rw [hML]; exact fun hh => hh hf))
        refine op_run (r_load rfl rfl rfl (hB1'.cell rfl)) rfl ?_
        refine o_mvt rfl ?_
        refine op_run ((r_add rfl rfl).val (congrArg (Value.int .i64) (show IntKind.i64.wrap (B.at_ + slot) = B.at_ + slot from wrap_i64 (by omega) (by omega)))) rfl ?_
        refine op_call rfl rfl rfl (bn_block w K b N n M _ hD3 (B.at_ + slot) hn) ?_; rintro v21 w21 ⟨s, e, rfl, hs, hk21⟩
        have hr : readB M B slot fg = if e ≠ 0 ∨ fgB (headB s) ≠ fg then (Bk.zero, 7) else (headB s, 0) := by
          rw [hr0]
          rcases hs with ⟨_, rfl, h3⟩ | ⟨h3, rfl, rfl⟩
          · rw [h3]; simp only
            by_cases hd : fgB (headB s) = fg
            · rw [if_pos hd, if_neg (by rintro (hh | hh); exact hh rfl; exact hh hd)]
            · rw [if_neg hd, if_pos (Or.inr hd)]
          · rw [List.getElem?_eq_none (show M.length ≤ (B.at_ + slot).toNat by omega), if_pos (Or.inl (by decide))]
        refine o_mvt rfl ?_
        refine op_run (r_extract rfl rfl) rfl ?_
        refine op_run (r_extract rfl rfl) rfl ?_
        refine o_alloc rfl rfl rfl ?_; intro w22 b22 e22 hB22 hk22 hs22
        refine o_storeA (cs := blkR (headB s)) rfl rfl (by first | rfl | exact binV_one _ | exact dgR_one _ | exact refR_one _ | exact secR_one _ | exact all_c8 _ | exact blkR_one _) (by first | rfl | (rw [binV_len]; rfl) | (rw [dgR_len]; rfl) | (rw [refR_len]; rfl) | (rw [secR_len]; rfl) | (rw [List.length_map, tagF_len]; rfl) | (rw [blkR_len]; rfl)) hB22 (by exact Nat.le_of_eq (by simp [blkR_len])) rfl ?_; intro w23 hB23 hk23 hs23
        have hB23 : Blk w23 b22 (blkR (headB s)) 40 := by
          have h := hB23
          rwa [splice_all (by simp [blkR_len])] at h
        have hk323 : Keep All w15 w23 := (hk21.trans hk22).new hk23 (by have := hk21.size; omega)
        have hB2'' := hk323.blk' hB2' trivial
        refine o_ast rfl ?_
        refine ops_nil ?_
        refine W_seq ?_
        refine W_cut [44] [37, 38, 39, 40, 41, 42, 43, 44] (fun vs w24 => vs = [.bool (decide (e ≠ 0 ∨ fgB (headB s) ≠ fg))] ∧ Keep All w23 w24) ?_ ?_
        · refine W_quiet (Keep All w23) (by kernel_rfl) (by kernel_rfl) (Keep.drawn _) ?_
          refine q_mvt rfl ?_
          refine q_run (fun _ _ => (r_neq rfl rfl)) rfl ?_
          refine q_mvt rfl ?_
          refine q_split rfl rfl rfl (fun g26 => ?_) (fun g26 => ?_)
          · refine q_run (fun _ hk => r_loadA (blkR (headB s)) rfl rfl rfl (by first | rfl | (rw [binV_len]; rfl) | (rw [dgR_len]; rfl) | (rw [refR_len]; rfl) | (rw [secR_len]; rfl) | (rw [List.length_map, tagF_len]; rfl) | (rw [blkR_len]; rfl)) ((hk.blk' hB23 trivial).all)) (g_yes rfl rfl rfl g26) ?_
            refine q_call rfl rfl (g_yes rfl rfl rfl g26) (fun _ hk => (bn_Finger _ (headB s)).mono fun e w'' ⟨u, he, h1, h2⟩ => ⟨u, he, h1, hk.trans h2⟩) ?_
            refine q_run (fun _ hk => r_loadA (dgR fg) rfl rfl rfl (by first | rfl | (rw [binV_len]; rfl) | (rw [dgR_len]; rfl) | (rw [refR_len]; rfl) | (rw [secR_len]; rfl) | (rw [List.length_map, tagF_len]; rfl) | (rw [blkR_len]; rfl)) ((hk.blk' hB2'' trivial).all)) (g_yes rfl rfl rfl g26) ?_
            refine q_run (fun _ _ => (r_neqC (p := fgB (headB s) = fg) rfl rfl rfl rfl (by kernel_rfl) (okC_dgR _) (okC_dgR _) rfl (dgR_inj))) (g_yes rfl rfl rfl g26) ?_
            refine q_pkFt rfl g26 rfl ?_
            refine q_nil ?_; intro w31 hk31
            exact ⟨by (repeat (first | with_reducible exact offM_refl _ _ | refine offM_updc rfl ?_ | refine offM_upd rfl ?_ | refine offM_updo rfl ?_ | refine offM_updo_none ?_ | refine offM_head rfl rfl ?_)), congrArg (fun b => [Value.bool b]) (by have he : e = 0 := (by simpa using g26); subst he; simp), hk31⟩
          · refine q_skip (g_no rfl rfl rfl g26) ?_
            refine q_skip (g_no rfl rfl rfl g26) ?_
            refine q_skip (g_no rfl rfl rfl g26) ?_
            refine q_skip (g_no rfl rfl rfl g26) ?_
            refine q_pkTc rfl g26 rfl ?_
            refine q_nil ?_; intro w33 hk33
            exact ⟨by (repeat (first | with_reducible exact offM_refl _ _ | refine offM_updc rfl ?_ | refine offM_upd rfl ?_ | refine offM_updo rfl ?_ | refine offM_updo_none ?_ | refine offM_head rfl rfl ?_)), congrArg (fun b => [Value.bool b]) (by have he : e ≠ 0 := (by simpa using g26); exact (decide_eq_true (Or.inl he)).symm), hk33⟩
        · rintro J35 vs w35 ⟨rfl, hk35⟩ -
          refine W_cond_p rfl (fun h36 => ?_) (fun h36 => ?_)
          · refine W_seq ?_
            refine W_region ?_
            rw [hr, if_pos h36]
            refine op_run (r_buildA ((blkR Bk.zero)) (_) ([]) rfl rfl rfl rfl rfl (by rw [blkR_zero]; rfl)) rfl ?_
            refine o_storeA (cs := blkR Bk.zero) rfl rfl (by first | rfl | exact binV_one _ | exact dgR_one _ | exact refR_one _ | exact secR_one _ | exact all_c8 _ | exact blkR_one _) (by first | rfl | (rw [binV_len]; rfl) | (rw [dgR_len]; rfl) | (rw [refR_len]; rfl) | (rw [secR_len]; rfl) | (rw [List.length_map, tagF_len]; rfl) | (rw [blkR_len]; rfl)) ((hk323.trans hk35).blk' hB3 trivial) (by simp [blkR_len]) rfl ?_; intro w38 hB38 hk38 hs38
            rw [splice_all (by simp [blkR_len])] at hB38
            refine o_asc rfl ?_
            refine ops_nil ?_
            refine W_ret ?_
            refine retAT ((blkR Bk.zero)) (.int .i64 7) rfl rfl rfl rfl rfl (by first | rfl | (rw [binV_len]; rfl) | (rw [dgR_len]; rfl) | (rw [refR_len]; rfl) | (rw [secR_len]; rfl) | (rw [List.length_map, tagF_len]; rfl) | (rw [blkR_len]; rfl)) (hB38.all) ?_
            exact ⟨rfl, ((hk03.trans hk323).trans hk35).new hk38 (by omega)⟩
          · refine W_skip ?_
            refine W_seq ?_
            refine W_region ?_
            rw [hr, if_neg h36]
            refine op_run (r_loadA (blkR (headB s)) rfl rfl rfl (by first | rfl | (rw [binV_len]; rfl) | (rw [dgR_len]; rfl) | (rw [refR_len]; rfl) | (rw [secR_len]; rfl) | (rw [List.length_map, tagF_len]; rfl) | (rw [blkR_len]; rfl)) ((hk35.blk' hB23 trivial).all)) rfl ?_
            refine o_storeA (cs := blkR (headB s)) rfl rfl (by first | rfl | exact binV_one _ | exact dgR_one _ | exact refR_one _ | exact secR_one _ | exact all_c8 _ | exact blkR_one _) (by first | rfl | (rw [binV_len]; rfl) | (rw [dgR_len]; rfl) | (rw [refR_len]; rfl) | (rw [secR_len]; rfl) | (rw [List.length_map, tagF_len]; rfl) | (rw [blkR_len]; rfl)) ((hk323.trans hk35).blk' hB3 trivial) (by simp [blkR_len]) rfl ?_; intro w41 hB41 hk41 hs41
            have hB41 : Blk w41 b3 (blkR (headB s)) 40 := by
              have h := hB41
              rwa [splice_all (by simp [blkR_len])] at h
            refine o_asc rfl ?_
            refine ops_nil ?_
            refine W_ret ?_
            refine retAT ((blkR (headB s))) (.int .i64 0) rfl rfl rfl rfl rfl (by first | rfl | (rw [binV_len]; rfl) | (rw [dgR_len]; rfl) | (rw [refR_len]; rfl) | (rw [secR_len]; rfl) | (rw [List.length_map, tagF_len]; rfl) | (rw [blkR_len]; rfl)) (hB41.all) ?_
            exact ⟨rfl, ((hk03.trans hk323).trans hk35).new hk41 (by omega)⟩
/-- All blocks of a bin, or none. -/
def allB (M : List Sec) (b : Bn) : Option (List Bk) :=
  if (1 ≤ b.count ∧ fitsB M.length b.at_ b.count) ∧ rootB (((M.drop b.at_.toNat).take b.count.toNat).map headB) = b.root then some (((M.drop b.at_.toNat).take b.count.toNat).map headB) else none
theorem rows_snocK (L : List Bk) (x : Bk) : rows blkR (L ++ [x]) = rows blkR L ++ blkR x := by rw [rows_app]; simp [rows]
theorem bn_All (w : World) (K : Nat → Prop) (b N n : Nat) (M : List Sec) (w' : World) (h : DV w K b N M n w') (B : Bn) (hn : n < 1000000) (ha : -2 ^ 63 ≤ B.at_) (ha2 : B.at_ < 2 ^ 63) (hN60 : N ≤ 100) :
    Ret Try.prog 16 [.pointer (some ⟨b, 0, none⟩), .agg (binV B).toArray].toArray w' fun r w2 => ∃ v, r = .tuple #[v, .int .i64 (if (allB M B).isSome then 0 else 7)] ∧ Sl w2 v ((allB M B).getD []).length 48 (rows blkR ((allB M B).getD [])) ∧ Keep All w' w2 := by
  have hML := h.len
  refine enter (fn := Try.f16) (n := 46) Try.func16 rfl rfl (by simp) ?_
  refine W_seq ?_
  refine W_region ?_
  refine o_box rfl rfl rfl ?_; intro w1 b1 e1 hB1 hk1 hs1
  have hB1 : Blk w1 b1 (binV B) 31 := hB1
  have hD1 := h.keep hk1
  refine o_asc rfl ?_
  refine o_asc rfl ?_
  refine ops_nil ?_
  refine W_seq ?_
  refine W_cut [20] [9, 10, 11, 12, 13, 14, 15, 16, 17, 18, 19, 20] (fun vs w2 => vs = [.bool (decide (¬ (1 ≤ B.count ∧ fitsB N B.at_ B.count)))] ∧ w2 = w1) ?_ ?_
  · refine W_region ?_
    refine op_run (r_fieldAddr rfl rfl rfl rfl rfl) rfl ?_
    refine op_run (r_load rfl rfl rfl (hB1.cell rfl)) rfl ?_
    refine op_run (r_lss rfl rfl) rfl ?_
    refine o_mvt rfl ?_
    refine g_split rfl rfl rfl (fun g4 => ?_) (fun g4 => ?_)
    · refine o_mvt (g_yes rfl rfl rfl g4) ?_
      refine op_run (r_fieldAddr rfl rfl rfl rfl rfl) (g_yes rfl rfl rfl g4) ?_
      refine op_run (r_load rfl rfl rfl (hB1.cell rfl)) (g_yes rfl rfl rfl g4) ?_
      refine op_run (r_fieldAddr rfl rfl rfl rfl rfl) (g_yes rfl rfl rfl g4) ?_
      refine op_run (r_load rfl rfl rfl (hB1.cell rfl)) (g_yes rfl rfl rfl g4) ?_
      refine op_call rfl rfl (g_yes rfl rfl rfl g4) (bn_fits w K b N n M _ hD1 B.at_ B.count ha ha2) ?_; rintro v7 w7 ⟨rfl, rfl⟩
      refine op_run (r_not rfl) (g_yes rfl rfl rfl g4) ?_
      refine o_pkFt rfl g4 rfl ?_
      refine ops_nil ?_
      exact ⟨by (repeat (first | with_reducible exact offM_refl _ _ | refine offM_updc rfl ?_ | refine offM_upd rfl ?_ | refine offM_updo rfl ?_ | refine offM_updo_none ?_ | refine offM_head rfl rfl ?_)), congrArg (fun b => [Value.bool b]) (by have h4 := of_decide_eq_false g4; rw [← decide_not, decide_eq_decide]; exact ⟨fun h h2 => h h2.2, fun h h2 => h ⟨by omega, h2⟩⟩), rfl⟩
    · refine op_skip (g_no rfl rfl rfl g4) ?_
      refine op_skip (g_no rfl rfl rfl g4) ?_
      refine op_skip (g_no rfl rfl rfl g4) ?_
      refine op_skip (g_no rfl rfl rfl g4) ?_
      refine op_skip (g_no rfl rfl rfl g4) ?_
      refine op_skip (g_no rfl rfl rfl g4) ?_
      refine op_skip (g_no rfl rfl rfl g4) ?_
      refine o_pkTc rfl g4 rfl ?_
      refine ops_nil ?_
      exact ⟨by (repeat (first | with_reducible exact offM_refl _ _ | refine offM_updc rfl ?_ | refine offM_upd rfl ?_ | refine offM_updo rfl ?_ | refine offM_updo_none ?_ | refine offM_head rfl rfl ?_)), congrArg (fun b => [Value.bool b]) (by have h4 := of_decide_eq_true g4; symm; exact decide_eq_true fun hh => by have := hh.1; omega), rfl⟩
  · rintro J10 vs w10 ⟨rfl, rfl⟩ -
    refine W_cond_p rfl (fun h11 => ?_) (fun h11 => ?_)
    · refine W_seq ?_
      refine W_region ?_
      refine o_asc rfl ?_
      refine o_asc rfl ?_
      refine ops_nil ?_
      refine W_ret ?_
      refine ret2 (.slice none 0 0) (.int .i64 7) rfl ?_ ?_ ?_; rfl; rfl
      have hno : allB M B = none := if_neg fun hh => h11 (by rw [← hML]; exact hh.1)
      rw [hno]
      exact ⟨_, rfl, Sl.nil _ _, hk1⟩
    · refine W_skip ?_
      refine W_seq ?_
      refine W_seq ?_
      refine W_region ?_
      refine op_run (r_fieldAddr rfl rfl rfl rfl rfl) rfl ?_
      have hok := Decidable.not_not.1 h11
      have ho1 := hok.1
      have ho2 := hok.2.1
      have ho3 := hok.2.2.1
      have ho4 := hok.2.2.2
      obtain ⟨c, hc⟩ := Int.eq_ofNat_of_zero_le (show 0 ≤ B.count by omega)
      refine op_run (r_load rfl rfl rfl (hB1.cell rfl)) rfl ?_
      refine o_mvc rfl ?_
      refine ops_nil ?_
      refine W_block ?_
      refine W_loop [4, 23] [4, 6, 7, 8, 23, 24, 25, 26, 27, 28, 29, 30, 31, 32, 33, 34, 35, 36, 37, 38, 39] (fun vs wk => ∃ (k : Nat) (u : Value), vs = [u, .int .i64 k] ∧ k ≤ c ∧ Own wk 40 48 u k (rows blkR (((M.drop B.at_.toNat).take k).map headB)) ∧ InB (fun z => w10.heap.size ≤ z) u ∧ Keep All w10 wk) (fun vs _ => match vs with | [_, .int _ k] => c - k.toNat | _ => 0) ⟨0, .slice none 0 0, rfl, Nat.zero_le _, own_nil _ _ _, InB.nil, Keep.refl _⟩ ?_
      rintro J14 vs w14 ⟨k, u, rfl, hk, hO, hin, hkw⟩ -
      refine W_seq ?_
      refine W_region ?_
      refine op_run (r_lss rfl rfl) rfl ?_
      refine ops_nil ?_
      refine W_seq ?_
      refine W_cond_p rfl (fun h15 => ?_) (fun h15 => ?_)
      · refine W_skip ?_
        refine W_seq ?_
        refine W_block ?_
        refine W_seq ?_
        refine W_region ?_
        refine o_mvt rfl ?_
        refine o_ast rfl ?_
        refine ops_nil ?_
        refine W_seq ?_
        refine W_region ?_
        refine o_mvt rfl ?_
        refine op_run (r_fieldAddr rfl rfl rfl rfl rfl) rfl ?_
        have hkc : k < c := by omega
        refine op_run (r_load rfl rfl rfl ((hkw.blk' hB1 trivial).cell rfl)) rfl ?_
        refine o_mvt rfl ?_
        refine op_run ((r_add rfl rfl).val (congrArg (Value.int .i64) (show IntKind.i64.wrap (B.at_ + ((k : Nat) : Int)) = B.at_ + ((k : Nat) : Int) from wrap_i64 (by omega) (by omega)))) rfl ?_
        refine op_call rfl rfl rfl (bn_block w K b N n M _ (hD1.keep hkw) (B.at_ + (k : Int)) hn) ?_; rintro v17 w17 ⟨s, e, rfl, hs, hk17⟩
        have hsM : M[B.at_.toNat + k]? = some s := by
          rcases hs with ⟨_, _, h3⟩ | ⟨h3, _⟩
          · rwa [show (B.at_ + (k : Int)).toNat = B.at_.toNat + k by omega] at h3
          · exact absurd ⟨by omega, by omega⟩ h3
        refine o_mvt rfl ?_
        refine op_run (r_extract rfl rfl) rfl ?_
        refine op_run (r_extract rfl rfl) rfl ?_
        refine o_alloc rfl rfl rfl ?_; intro w18 b18 e18 hB18 hk18 hs18
        refine o_storeA (cs := blkR (headB s)) rfl rfl (by first | rfl | exact binV_one _ | exact dgR_one _ | exact refR_one _ | exact secR_one _ | exact all_c8 _ | exact blkR_one _) (by first | rfl | (rw [binV_len]; rfl) | (rw [dgR_len]; rfl) | (rw [refR_len]; rfl) | (rw [secR_len]; rfl) | (rw [List.length_map, tagF_len]; rfl) | (rw [blkR_len]; rfl)) hB18 (by exact Nat.le_of_eq (by simp [blkR_len])) rfl ?_; intro w19 hB19 hk19 hs19
        have hB19 : Blk w19 b18 (blkR (headB s)) 40 := by
          have h := hB19
          rwa [splice_all (by simp [blkR_len])] at h
        have hkA : Keep All w14 w19 := (hk17.trans hk18).new hk19 (by have := hk17.size; omega)
        refine o_ast rfl ?_
        refine ops_nil ?_
        refine W_region ?_
        refine o_mvt rfl ?_
        refine op_run (r_loadA (blkR (headB s)) rfl rfl rfl (by first | rfl | (rw [binV_len]; rfl) | (rw [dgR_len]; rfl) | (rw [refR_len]; rfl) | (rw [secR_len]; rfl) | (rw [List.length_map, tagF_len]; rfl) | (rw [blkR_len]; rfl)) (hB19.all)) rfl ?_
        refine o_bsA1 (blkR (headB s)) rfl rfl (by rw [blkR_len]; exact ti_bk) (by rw [blkR_len]; rfl) (by rw [blkR_len]; decide) rfl ?_; intro w21 b21 e21 hB21 hk21 hs21
        have hS21 : Sl w21 (.slice (some ⟨b21, 0, none⟩) 1 1) 1 48 (blkR (headB s)) := (Own.blk (n := 1) (sz := 48) hB21 (blkR_len _) (by unfold maxLen; omega)).sl
        refine o_appS (v := u) rfl rfl hS21 rfl ti_bk rfl rfl (hO.keep (hkA.trans hk21) (fun _ _ => trivial)) (blkR_one _) (by unfold maxLen; omega) (by omega) rfl ?_; intro v22 w22 hown22 hk22 hb22
        have hO22 : Own w22 40 48 v22 (k + 1) (rows blkR (((M.drop B.at_.toNat).take (k + 1)).map headB)) := by
          have h1 : (M.drop B.at_.toNat)[k]? = some s := by rw [List.getElem?_drop]; exact hsM
          obtain ⟨h2, h3⟩ := List.getElem?_eq_some_iff.1 h1
          rw [List.take_succ_eq_append_getElem h2, h3, List.map_append, List.map_cons, List.map_nil, rows_snocK]
          exact hown22
        have hkB := hkw.trans (hkA.trans hk21)
        have hzB := hkB.size
        refine o_ast rfl ?_
        refine ops_nil ?_
        refine W_region ?_
        refine op_run (r_add rfl rfl) rfl ?_
        refine o_mvt rfl ?_
        refine ops_nil ?_
        have hinc := inc64' k (by omega)
        refine ⟨by (repeat (first | with_reducible exact offM_refl _ _ | refine offM_updc rfl ?_ | refine offM_upd rfl ?_ | refine offM_updo rfl ?_ | refine offM_updo_none ?_ | refine offM_head rfl rfl ?_)), ⟨k + 1, v22, congrArg (fun z : Int => [v22, Value.int .i64 z]) hinc, by omega, hO22, fun z hz => ?_, ?_⟩, ?_⟩
        · rcases hb22 z hz with h | h
          · exact hin z h
          · have := hkw.size; have := hkA.size; omega
        · exact hkB.outA (B := fun z => w10.heap.size ≤ z) (hk22.mono fun z _ h e => h (hin z e.symm)) (fun z hz => hz)
        · show c - (IntKind.i64.wrap ((k : Int) + 1)).toNat < c - (k : Int).toNat
          rw [hinc]; omega
      · refine W_exit ?_
        refine W_seq ?_
        refine W_seq ?_
        have hke : k = c := by omega
        subst hke
        obtain ⟨L, hL⟩ : ∃ L, L = ((M.drop B.at_.toNat).take k).map headB := ⟨_, rfl⟩
        have hLl : L.length = k := by rw [hL, List.length_map, List.length_take, List.length_drop]; omega
        have hSl : Sl w14 u L.length 48 (rows blkR L) := by rw [hLl, hL]; exact hO.sl
        have hB14 := hkw.blk' hB1 trivial
        have hall : allB M B = if rootB L = B.root then some L else none := by
          unfold allB
          rw [hc, Int.toNat_natCast, ← hL]
          by_cases hd : rootB L = B.root
          · rw [if_pos hd, if_pos ⟨⟨by omega, by rw [hML, ← hc]; exact hok.2⟩, hd⟩]
          · rw [if_neg hd, if_neg (fun hh => hd hh.2)]
        refine W_quiet (Keep All w14) (by kernel_rfl) (by kernel_rfl) (Keep.drawn _) ?_
        refine q_mvt rfl ?_
        refine q_call rfl rfl rfl (fun _ hk => (bn_root _ u L (hSl.keepE hk fun _ _ => trivial) (by omega)).mono fun e w'' ⟨u, he, h1, h2⟩ => ⟨u, he, h1, hk.trans h2⟩) ?_
        refine q_run (fun _ _ => (r_fieldAddr rfl rfl rfl rfl rfl)) rfl ?_
        refine q_run (fun _ hk => r_loadA (dgR B.root) rfl rfl rfl (by first | rfl | (rw [binV_len]; rfl) | (rw [dgR_len]; rfl) | (rw [refR_len]; rfl) | (rw [secR_len]; rfl) | (rw [List.length_map, tagF_len]; rfl) | (rw [blkR_len]; rfl)) ((fun j u hj => by rw [Addr.add_lit]; exact (hk.blk' hB14 trivial).cell (show (binV B)[0 + 3 + j]? = some u by rw [Nat.zero_add]; exact binV_dig B hj)))) rfl ?_
        refine q_run (fun _ _ => (r_neqC (p := rootB L = B.root) rfl rfl rfl rfl (by kernel_rfl) (okC_dgR _) (okC_dgR _) rfl (dgR_inj))) rfl ?_
        refine q_nil ?_; intro w28 hk28
        refine W_cond rfl (fun h29 => ?_) (fun h29 => ?_)
        · refine W_seq ?_
          refine W_region ?_
          refine o_asc rfl ?_
          refine o_asc rfl ?_
          refine ops_nil ?_
          refine W_ret ?_
          refine ret2 (.slice none 0 0) (.int .i64 7) rfl ?_ ?_ ?_; rfl; rfl
          have hno : allB M B = none := by rw [hall, if_neg (by simpa using h29)]
          rw [hno]
          exact ⟨_, rfl, Sl.nil _ _, (hk1.trans hkw).trans hk28⟩
        · refine W_skip ?_
          refine W_seq ?_
          refine W_region ?_
          refine o_mvt rfl ?_
          refine o_ast rfl ?_
          refine o_asc rfl ?_
          refine ops_nil ?_
          refine W_ret ?_
          refine ret2 u (.int .i64 0) rfl ?_ ?_ ?_; rfl; rfl
          have hno : allB M B = some L := by rw [hall, if_pos (by simpa using h29)]
          rw [hno]
          exact ⟨_, rfl, hSl.keepE hk28 fun _ _ => trivial, (hk1.trans hkw).trans hk28⟩
end Go.Proofs.Ytigehkfdfecfoaa.B
