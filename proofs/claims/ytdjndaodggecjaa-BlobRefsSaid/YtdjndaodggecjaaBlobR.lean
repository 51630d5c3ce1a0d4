/-
  BlobReads: the document's example; the walk.
-/
import Derived.Test.YtdjndaodggecjaaRef07b
import Derived.Test.YtdjndaodggecjaaMSha
import Derived.Test.YtdjndaodggecjaaMPack
namespace Go.Proofs.Ytdjndaodggecjaa.B
open Go
set_option linter.unusedVariables false
set_option maxHeartbeats 2000000
set_option maxRecDepth 100000
attribute [local irreducible] W OpsW OpsQ retP
theorem rdB_put {M : List Sec} {a : Nat} {bs : List UInt8} (hl : bs.length ≤ 65536) (h1 : a < M.length) (h : a + sectorsN bs.length ≤ M.length) : rdB (putAt M a (laidL bs)) (ofR (a : Int) bs) = some bs := by
  have e : bytesAt (putAt M a (laidL bs)) a bs.length = bs := bytesAt_put h
  unfold rdB
  have e1 : (ofR (a : Int) bs).at_.toNat = a := by unfold ofR; simp
  have e2 : (ofR (a : Int) bs).len.toNat = bs.length := by unfold ofR; simp
  rw [e1, e2, e, if_pos]
  refine ⟨⟨⟨?_, ?_⟩, ?_, ?_, ?_⟩, rfl⟩
  · show (0 : Int) ≤ (bs.length : Int); omega
  · show (bs.length : Int) ≤ 65536; omega
  · show (0 : Int) ≤ (a : Int); omega
  · show (a : Int) < _; rw [putAt_len (by rw [laidL_len]; exact h)]; omega
  · show ((sectorsN (ofR (a : Int) bs).len.toNat : Nat) : Int) ≤ _ - (a : Int)
    rw [e2, putAt_len (by rw [laidL_len]; exact h)]; omega
theorem speaks07 (w : World) : Ret Try.prog 8 [].toArray w fun r w' => r = .bool true ∧ Keep All w w' := by
  refine enter (fn := Try.f8) (n := 41) Try.func8 rfl rfl (by simp) ?_
  refine W_seq ?_
  refine W_region ?_
  refine o_asc rfl ?_
  refine ops_nil ?_
  refine W_seq ?_
  refine W_region ?_
  refine op_call rfl rfl rfl (DV.new w 9 (by decide) (by decide)) ?_; rintro v1 w1 ⟨bD, rfl, hD1⟩
  refine o_mvt rfl ?_
  refine op_run (r_extract rfl rfl) rfl ?_
  refine op_run (r_extract rfl rfl) rfl ?_
  refine o_ast rfl ?_
  refine o_ast rfl ?_
  refine ops_nil ?_
  refine W_seq ?_
  refine W_cut [16] [11, 12, 13, 14, 15, 16] (fun vs w2 => vs = [.bool false] ∧ w2 = w1) ?_ ?_
  · refine W_region ?_
    refine o_mvt rfl ?_
    refine op_run (r_neq rfl rfl) rfl ?_
    refine o_mvt rfl ?_
    refine g_split rfl rfl rfl (fun g3 => ?_) (fun g3 => ?_)
    · refine o_mvt (g_yes rfl rfl rfl g3) ?_
      refine op_run (r_isNilP rfl rfl) (g_yes rfl rfl rfl g3) ?_
      refine o_pkFt rfl g3 rfl ?_
      refine ops_nil ?_
      exact ⟨by (repeat (first | with_reducible exact offM_refl _ _ | refine offM_updc rfl ?_ | refine offM_upd rfl ?_ | refine offM_updo rfl ?_ | refine offM_updo_none ?_ | refine offM_head rfl rfl ?_)), rfl, rfl⟩
    · refine op_skip (g_no rfl rfl rfl g3) ?_
      refine op_skip (g_no rfl rfl rfl g3) ?_
      refine o_pkTc rfl g3 rfl ?_
      refine ops_nil ?_
      exact absurd g3 (by decide)
  · rintro J6 vs w6 ⟨rfl, rfl⟩ -
    refine W_no rfl (rfl) ?_
    refine W_skip ?_
    refine W_seq ?_
    refine W_region ?_
    refine o_mvt rfl ?_
    refine o_bs1 (v := c8 120) rfl rfl rfl rfl rfl rfl ?_; intro w9 b9 e9 hB9 hk9 hs9
    refine o_convB rfl (hB9) rfl rfl rfl ?_; intro w10 hc10 hk10 hs10
    have hD10 := hD1.fresh hk9 (Nat.le_of_eq e9.symm) hk10 (by omega)
    have hby10 : By w10 (.slice (some ⟨b9, 0, none⟩) 1 1) [120] := By.of_cells (bs := [120]) hc10 (Nat.le_refl _) (by unfold maxLen; decide)
    refine op_call rfl rfl rfl (bl_Write w _ bD _ 0 _ w10 hD10 2 _ [120] (fun w2 _ h2 => hby10.keep h2 (fun z hz => .inr (by obtain rfl : b9 = z := Option.some.inj hz; rfl))) (by decide) (by decide) (by decide) (by decide)) ?_; rintro v11 w11 ⟨rfl, hD11, hk11⟩
    rw [if_pos (show fitsP (Int.toNat 9) 2 (sectorsN ([120] : List UInt8).length) by decide)] at hD11
    refine o_mvt rfl ?_
    refine op_run (r_extract rfl rfl) rfl ?_
    refine op_run (r_extract rfl rfl) rfl ?_
    refine o_alloc rfl rfl rfl ?_; intro w12 b12 e12 hB12 hk12 hs12
    refine o_storeA (cs := refR (ofR 2 [120])) rfl rfl (by first | rfl | exact dgR_one _ | exact refR_one _ | exact secR_one _ | exact all_c8 _) (by first | rfl | (rw [dgR_len]; rfl) | (rw [refR_len]; rfl) | (rw [secR_len]; rfl) | (rw [List.length_map, tagF_len]; rfl)) hB12 (by exact Nat.le_of_eq (by simp [refR_len])) rfl ?_; intro w13 hB13 hk13 hs13
    have hB13 : Blk w13 b12 (refR (ofR 2 [120])) 26 := by
      have h := hB13
      rwa [splice_all (by simp [refR_len])] at h
    have hD13 := hD11.fresh hk12 (Nat.le_of_eq e12.symm) hk13 (by omega)
    have hrd : rdB (putAt (List.replicate (Int.toNat 9) Sec.zero) (Int.toNat 2) (laidL [120])) (ofR 2 [120]) = some [120] := rdB_put (a := 2) (by decide) (by rw [List.length_replicate]; decide) (by rw [List.length_replicate]; decide)
    refine o_ast rfl ?_
    refine ops_nil ?_
    refine W_seq ?_
    refine W_region ?_
    refine o_mvt rfl ?_
    refine op_run (r_loadA (refR (ofR 2 [120])) rfl rfl rfl (by first | rfl | (rw [dgR_len]; rfl) | (rw [refR_len]; rfl) | (rw [secR_len]; rfl) | (rw [List.length_map, tagF_len]; rfl)) (hB13.all)) rfl ?_
    refine op_call rfl rfl rfl (bl_Read w _ bD _ _ _ w13 hD13 (ofR 2 [120]) (by decide) (by decide) (by decide)) ?_; rintro v15 w15 ⟨v, rfl, hby15, hin15, hk15⟩
    rw [hrd] at hby15 ⊢
    refine o_mvt rfl ?_
    refine op_run (r_extract rfl rfl) rfl ?_
    refine op_run (r_extract rfl rfl) rfl ?_
    refine o_ast rfl ?_
    refine o_ast rfl ?_
    refine ops_nil ?_
    refine W_seq ?_
    refine W_region ?_
    refine o_mvt rfl ?_
    refine op_run (r_eql rfl rfl) rfl ?_
    refine o_mvt rfl ?_
    refine g_split rfl rfl rfl (fun g16 => ?_) (fun g => absurd g (by decide))
    refine o_mvt (g_yes rfl rfl rfl g16) ?_
    refine op_run (r_eql rfl rfl) (g_yes rfl rfl rfl g16) ?_
    refine o_pkTt rfl g16 rfl ?_
    refine o_mvt rfl ?_
    refine g_split rfl rfl rfl (fun g17 => ?_) (fun g => absurd g (by simp))
    refine o_mvt (g_yes rfl rfl rfl g17) ?_
    refine op_run (r_bytesStr rfl (hby15) rfl rfl rfl) (g_yes rfl rfl rfl g17) ?_
    refine op_run (r_eqlStr rfl rfl) (g_yes rfl rfl rfl g17) ?_
    refine o_pkTt rfl g17 rfl ?_
    refine o_ast rfl ?_
    refine ops_nil ?_
    refine W_ret ?_
    refine ret1 (.bool true) rfl ?_ ?_; rfl
    exact ⟨rfl, hD13.kw.trans hk15⟩
theorem walk_BlobReads (w : World) (vl : Value) (M : List Sec) (r : Rf) (n : Int) (hl : Sl w vl M.length 64 (rows secR M)) (ha : -2 ^ 63 ≤ r.at_) (ha2 : r.at_ < 2 ^ 63) :
    Ret Try.prog 3 [vl, .agg (refR r).toArray, .int .i64 n].toArray w fun u w' => u = .bool true ∧ Keep All w w' := by
  obtain ⟨al, cl, rfl, hcl, hcml⟩ := hl.form
  refine enter (fn := Try.f3) (n := 78) Try.func3 rfl rfl (by simp) ?_
  refine W_seq ?_
  refine W_region ?_
  refine o_box rfl rfl rfl ?_; intro w1 b1 e1 hB1 hk1 hs1
  have hB1 : Blk w1 b1 (refR r) 26 := hB1
  refine o_asc rfl ?_
  refine ops_nil ?_
  refine W_seq ?_
  refine W_seq ?_
  refine W_region ?_
  refine op_call rfl rfl rfl (speaks07 w1) ?_; rintro v2 w2 ⟨rfl, hk2⟩
  refine op_run (r_not rfl) rfl ?_
  refine ops_nil ?_
  refine W_no rfl (rfl) ?_
  refine W_skip ?_
  refine W_seq ?_
  refine W_cut [24] [17, 18, 19, 20, 21, 22, 23, 24] (fun vs w5 => vs = [.bool (decide (M.length < 1 ∨ 60 < M.length))] ∧ w5 = w2) ?_ ?_
  · refine W_region ?_
    refine o_mvt rfl ?_
    refine op_run (r_len rfl rfl rfl) rfl ?_
    refine op_run (r_lss rfl rfl) rfl ?_
    refine o_mvt rfl ?_
    refine g_split rfl rfl rfl (fun g6 => ?_) (fun g6 => ?_)
    · refine o_mvt (g_yes rfl rfl rfl g6) ?_
      refine op_run (r_len rfl rfl rfl) (g_yes rfl rfl rfl g6) ?_
      refine op_run (r_gtr rfl rfl) (g_yes rfl rfl rfl g6) ?_
      refine o_pkFt rfl g6 rfl ?_
      refine ops_nil ?_
      exact ⟨by (repeat (first | with_reducible exact offM_refl _ _ | refine offM_updc rfl ?_ | refine offM_upd rfl ?_ | refine offM_updo rfl ?_ | refine offM_updo_none ?_ | refine offM_head rfl rfl ?_)), congrArg (fun b => [Value.bool b]) (by have g6 := of_decide_eq_false g6; rw [decide_eq_decide]; omega), rfl⟩
    · refine op_skip (g_no rfl rfl rfl g6) ?_
      refine op_skip (g_no rfl rfl rfl g6) ?_
      refine op_skip (g_no rfl rfl rfl g6) ?_
      refine o_pkTc rfl g6 rfl ?_
      refine ops_nil ?_
      exact ⟨by (repeat (first | with_reducible exact offM_refl _ _ | refine offM_updc rfl ?_ | refine offM_upd rfl ?_ | refine offM_updo rfl ?_ | refine offM_updo_none ?_ | refine offM_head rfl rfl ?_)), congrArg (fun b => [Value.bool b]) (by have g6 := of_decide_eq_true g6; symm; apply decide_eq_true; omega), rfl⟩
  · rintro J9 vs w9 ⟨rfl, rfl⟩ -
    refine W_cond_p rfl (fun h10 => ?_) (fun h10 => ?_)
    · refine W_seq ?_
      refine W_region ?_
      refine o_asc rfl ?_
      refine ops_nil ?_
      refine W_ret ?_
      refine ret1 (.bool true) rfl ?_ ?_; rfl
      exact ⟨rfl, hk1.trans hk2⟩
    · refine W_skip ?_
      refine W_seq ?_
      refine W_region ?_
      refine o_mvt rfl ?_
      refine op_run (r_len rfl rfl rfl) rfl ?_
      have hkw := hk1.trans hk2
      have hB9 := hk2.blk' hB1 trivial
      refine op_call rfl rfl rfl (DV.new w9 (M.length : Int) (by omega) (by omega)) ?_; rintro v12 w12 ⟨bD, rfl, hD12⟩
      rw [Int.toNat_natCast] at hD12
      refine o_mvt rfl ?_
      refine op_run (r_extract rfl rfl) rfl ?_
      refine op_run (r_extract rfl rfl) rfl ?_
      refine o_ast rfl ?_
      refine o_ast rfl ?_
      refine ops_nil ?_
      refine W_seq ?_
      refine W_cut [36] [31, 32, 33, 34, 35, 36] (fun vs w13 => vs = [.bool false] ∧ w13 = w12) ?_ ?_
      · refine W_region ?_
        refine o_mvt rfl ?_
        refine op_run (r_neq rfl rfl) rfl ?_
        refine o_mvt rfl ?_
        refine g_split rfl rfl rfl (fun g14 => ?_) (fun g14 => ?_)
        · refine o_mvt (g_yes rfl rfl rfl g14) ?_
          refine op_run (r_isNilP rfl rfl) (g_yes rfl rfl rfl g14) ?_
          refine o_pkFt rfl g14 rfl ?_
          refine ops_nil ?_
          exact ⟨by (repeat (first | with_reducible exact offM_refl _ _ | refine offM_updc rfl ?_ | refine offM_upd rfl ?_ | refine offM_updo rfl ?_ | refine offM_updo_none ?_ | refine offM_head rfl rfl ?_)), rfl, rfl⟩
        · refine op_skip (g_no rfl rfl rfl g14) ?_
          refine op_skip (g_no rfl rfl rfl g14) ?_
          refine o_pkTc rfl g14 rfl ?_
          refine ops_nil ?_
          exact absurd g14 (by decide)
      · rintro J17 vs w17 ⟨rfl, rfl⟩ -
        refine W_no rfl (rfl) ?_
        refine W_skip ?_
        refine W_seq ?_
        refine W_seq ?_
        refine W_region ?_
        refine o_mvt rfl ?_
        refine op_run (r_len rfl rfl rfl) rfl ?_
        refine o_mvc rfl ?_
        refine ops_nil ?_
        refine W_block ?_
        refine W_loop [39] [9, 10, 39, 40, 41, 42, 43, 44, 45, 46, 47, 48] (fun vs w' => ∃ k : Nat, vs = [.int .i64 k] ∧ k ≤ M.length ∧ DV w9 (fun _ => False) bD M.length (putAt (List.replicate M.length Sec.zero) 0 (M.take k)) k w') (fun vs _ => match vs with | [.int _ k] => M.length - k.toNat | _ => 0) ⟨0, rfl, Nat.zero_le _, by rw [List.take_zero, putAt_0]; exact hD12⟩ ?_
        rintro J20 vs w20 ⟨k, rfl, hk, hD⟩ -
        refine W_seq ?_
        refine W_region ?_
        refine op_run (r_lss rfl rfl) rfl ?_
        refine ops_nil ?_
        refine W_seq ?_
        refine W_cond_p rfl (fun h21 => ?_) (fun h21 => ?_)
        · refine W_skip ?_
          refine W_seq ?_
          refine W_block ?_
          refine W_seq ?_
          refine W_region ?_
          refine o_mvt rfl ?_
          have hk' : k < M.length := by omega
          obtain ⟨s, hs⟩ : ∃ s, M[k]? = some s := ⟨_, List.getElem?_eq_getElem hk'⟩
          obtain ⟨bl, ol, rfl, hcells⟩ := rows_at' (i := k) secR_len hl hk' (by decide)
          rw [(List.getElem?_eq_some_iff.1 hs).2] at hcells
          refine op_run (r_idxS rfl rfl rfl ti_sec (by omega) (by omega)) rfl ?_
          refine op_run (r_loadA (secR s) rfl rfl rfl (by first | rfl | (rw [dgR_len]; rfl) | (rw [refR_len]; rfl) | (rw [secR_len]; rfl) | (rw [List.length_map, tagF_len]; rfl)) ((by intro u v hu; rw [Int.toNat_natCast]; exact (hkw.trans hD.kw).cell (hcells u v hu) trivial))) rfl ?_
          refine o_alloc rfl rfl rfl ?_; intro w24 b24 e24 hB24 hk24 hs24
          refine o_ast rfl ?_
          refine o_storeA (cs := secR s) rfl rfl (by first | rfl | exact dgR_one _ | exact refR_one _ | exact secR_one _ | exact all_c8 _) (by first | rfl | (rw [dgR_len]; rfl) | (rw [refR_len]; rfl) | (rw [secR_len]; rfl) | (rw [List.length_map, tagF_len]; rfl)) hB24 (by exact Nat.le_of_eq (by simp [secR_len])) rfl ?_; intro w25 hB25 hk25 hs25
          have hB25 : Blk w25 b24 (secR s) 33 := by
            have h := hB25
            rwa [splice_all (by simp [secR_len])] at h
          have hD25 := (hD.fresh hk24 (Nat.le_of_eq e24.symm) hk25 (by omega)).mono (K' := fun _ => False) (fun _ h => h.elim)
          refine ops_nil ?_
          refine W_region ?_
          refine o_mvt rfl ?_
          refine o_mvt rfl ?_
          refine op_run (r_loadA (secR s) rfl rfl rfl (by first | rfl | (rw [dgR_len]; rfl) | (rw [refR_len]; rfl) | (rw [secR_len]; rfl) | (rw [List.length_map, tagF_len]; rfl)) (hB25.all)) rfl ?_
          refine op_call rfl rfl rfl (hD25.write (k : Int) s (by omega)) ?_; rintro v27 w27 ⟨rfl, hD27, hk27⟩
          have hset := putAt_set (M := List.replicate M.length Sec.zero) (at_ := 0) (k := k) (l := M) (s := s) (by rw [List.length_replicate]; omega) hs
          rw [Nat.zero_add] at hset
          rw [if_pos (show (0 : Int) ≤ (k : Int) ∧ (k : Int) < (M.length : Int) by omega), Int.toNat_natCast, hset] at hD27
          have hinc := inc64' k (by omega)
          refine ops_nil ?_
          refine W_region ?_
          refine op_run (r_add rfl rfl) rfl ?_
          refine o_mvt rfl ?_
          refine ops_nil ?_
          refine ⟨by (repeat (first | with_reducible exact offM_refl _ _ | refine offM_updc rfl ?_ | refine offM_upd rfl ?_ | refine offM_updo rfl ?_ | refine offM_updo_none ?_ | refine offM_head rfl rfl ?_)), ⟨k + 1, congrArg (fun z : Int => [Value.int .i64 z]) hinc, by omega, hD27⟩, ?_⟩
          show M.length - (IntKind.i64.wrap ((k : Int) + 1)).toNat < M.length - (k : Int).toNat
          rw [hinc]; omega
        · refine W_exit ?_
          refine W_seq ?_
          refine W_region ?_
          refine o_mvt rfl ?_
          have hke : k = M.length := by omega
          subst hke
          have hpa : putAt (List.replicate M.length Sec.zero) 0 (M.take M.length) = M := by unfold putAt; rw [List.take_length, List.take_zero, List.nil_append, List.drop_eq_nil_of_le (by rw [List.length_replicate]; omega), List.append_nil]
          rw [hpa] at hD
          have hB20 := hD.kw.blk' hB9 trivial
          refine op_run (r_loadA (refR r) rfl rfl rfl (by first | rfl | (rw [dgR_len]; rfl) | (rw [refR_len]; rfl) | (rw [secR_len]; rfl) | (rw [List.length_map, tagF_len]; rfl)) (hB20.all)) rfl ?_
          refine op_call rfl rfl rfl (bl_Read w9 _ bD _ _ _ w20 hD r (by omega) ha ha2) ?_; rintro v30 w30 ⟨v, rfl, hby30, hin30, hk30⟩
          refine o_mvt rfl ?_
          refine op_run (r_extract rfl rfl) rfl ?_
          refine op_run (r_extract rfl rfl) rfl ?_
          refine o_ast rfl ?_
          refine o_ast rfl ?_
          refine ops_nil ?_
          refine W_seq ?_
          refine W_region ?_
          refine o_mvt rfl ?_
          refine op_run (r_loadA (refR r) rfl rfl rfl (by first | rfl | (rw [dgR_len]; rfl) | (rw [refR_len]; rfl) | (rw [secR_len]; rfl) | (rw [List.length_map, tagF_len]; rfl)) ((hk30.blk' hB20 trivial).all)) rfl ?_
          refine op_call rfl rfl rfl (rf07_Read w30 _ M r (hl.k ((hkw.trans hD.kw).trans hk30)) (by omega) ha ha2) ?_; rintro v32 w32 ⟨v', rfl, hby32, hin32, hk32⟩
          refine o_mvt rfl ?_
          refine op_run (r_extract rfl rfl) rfl ?_
          refine op_run (r_extract rfl rfl) rfl ?_
          refine o_ast rfl ?_
          refine o_ast rfl ?_
          refine ops_nil ?_
          refine W_seq ?_
          refine W_cut [69] [61, 62, 63, 64, 65, 66, 67, 68, 69] (fun vs w33 => vs = [.bool false] ∧ w33 = w32) ?_ ?_
          · refine W_region ?_
            refine o_mvt rfl ?_
            refine op_run (r_leq rfl rfl) rfl ?_
            refine o_mvt rfl ?_
            refine g_split rfl rfl rfl (fun g34 => ?_) (fun g34 => ?_)
            · refine o_mvt (g_yes rfl rfl rfl g34) ?_
              refine op_call rfl rfl (g_yes rfl rfl rfl g34) (bl_Sectors w32 n (by have := of_decide_eq_true g34; omega)) ?_; rintro v35 w35 ⟨rfl, rfl⟩
              refine o_mvt (g_yes rfl rfl rfl g34) ?_
              refine op_call rfl rfl (g_yes rfl rfl rfl g34) (rf07_Sectors _ n (by have := of_decide_eq_true g34; omega)) ?_; rintro v36 w36 ⟨rfl, rfl⟩
              refine op_run (r_neq rfl rfl) (g_yes rfl rfl rfl g34) ?_
              refine o_pkTt rfl g34 rfl ?_
              refine ops_nil ?_
              exact ⟨by (repeat (first | with_reducible exact offM_refl _ _ | refine offM_updc rfl ?_ | refine offM_upd rfl ?_ | refine offM_updo rfl ?_ | refine offM_updo_none ?_ | refine offM_head rfl rfl ?_)), congrArg (fun b => [Value.bool b]) (by simp), rfl⟩
            · refine op_skip (g_no rfl rfl rfl g34) ?_
              refine op_skip (g_no rfl rfl rfl g34) ?_
              refine op_skip (g_no rfl rfl rfl g34) ?_
              refine op_skip (g_no rfl rfl rfl g34) ?_
              refine op_skip (g_no rfl rfl rfl g34) ?_
              refine o_pkFc rfl g34 rfl ?_
              refine ops_nil ?_
              exact ⟨by (repeat (first | with_reducible exact offM_refl _ _ | refine offM_updc rfl ?_ | refine offM_upd rfl ?_ | refine offM_updo rfl ?_ | refine offM_updo_none ?_ | refine offM_head rfl rfl ?_)), rfl, rfl⟩
          · rintro J39 vs w39 ⟨rfl, rfl⟩ -
            refine W_no rfl (rfl) ?_
            refine W_skip ?_
            refine W_seq ?_
            refine W_region ?_
            refine o_mvt rfl ?_
            refine o_mvt rfl ?_
            refine op_run (r_eql rfl rfl) rfl ?_
            refine o_mvt rfl ?_
            refine g_split rfl rfl rfl (fun g42 => ?_) (fun g => absurd g (by simp))
            refine o_mvt (g_yes rfl rfl rfl g42) ?_
            refine o_mvt (g_yes rfl rfl rfl g42) ?_
            refine op_call rfl rfl (g_yes rfl rfl rfl g42) (ref01_Same w39 v v' _ _ (hby30.k hk32) hby32) ?_; rintro v43 w43 ⟨rfl, hk43⟩
            refine o_pkTt rfl g42 rfl ?_
            refine o_ast rfl ?_
            refine ops_nil ?_
            refine W_ret ?_
            refine ret1 (.bool (decide ((rdB M r).getD [] = (rdB M r).getD []))) rfl ?_ ?_; rfl
            exact ⟨congrArg Value.bool (by simp), (((hkw.trans hD.kw).trans hk30).trans hk32).trans hk43⟩
end Go.Proofs.Ytdjndaodggecjaa.B
