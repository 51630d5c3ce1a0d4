/-
  Trees: the document's way of a proof.
-/
import Derived.Test.YtnjepmdgbkhoaaaMerk5
namespace Go.Proofs.Ytnjepmdgbkhoaaa.B
open Go
set_option linter.unusedVariables false
set_option maxHeartbeats 2000000
set_option maxRecDepth 100000
attribute [local irreducible] W OpsW OpsQ retP
theorem dgR_zero : dgR Dig.zero = List.replicate 32 (c8 0) := by unfold dgR Dig.zero; rw [List.map_replicate]

theorem rf_Lead (n : Nat) : ∀ (w : World) (count pos : Nat) (vr vp : Value) (row : List UInt8) (proof : List Dig), count = n → 1 ≤ count → count < 2 ^ 63 → pos < count → By w vr row → row.length ≤ 100000 → Sl w vp proof.length 32 (rows dgR proof) →
    Ret Try.prog 11 [.int .i64 count, .int .i64 pos, vr, vp].toArray w fun r w' => r = .tuple #[.agg (dgR (leadD tagD count pos row proof).1).toArray, .bool (leadD tagD count pos row proof).2] ∧ Keep All w w' := by
  induction n using Nat.strongRecOn
  rename_i n ih
  intro w count pos vr vp row proof hcn h1c hc hpc hr hrl hp
  obtain ⟨ar, cr, rfl, _, _⟩ := hr.form
  obtain ⟨ap, cp, rfl, hcp, hcmp⟩ := hp.form
  refine enter (fn := Try.f11) (n := 75) Try.func11 rfl rfl (by simp) ?_
  refine W_seq ?_
  refine W_region ?_
  refine o_alloc rfl rfl rfl ?_; intro w1 b1 e1 hB1 hk1 hs1
  refine o_asc rfl ?_
  refine ops_nil ?_
  refine W_seq ?_
  refine W_seq ?_
  refine W_region ?_
  refine o_mvt rfl ?_
  refine op_run (r_eql rfl rfl) rfl ?_
  refine ops_nil ?_
  refine W_cond_p rfl (fun h2 => ?_) (fun h2 => ?_)
  · refine W_seq ?_
    refine W_region ?_
    refine o_mvt rfl ?_
    refine o_bs1 (v := _) rfl rfl rfl rfl rfl rfl ?_; intro w3 b3 e3 hB3 hk3 hs3
    refine op_call rfl rfl rfl (rf_Tagged w3 _ 0 [row] (rowsB_one hB3 ((hr.k hk1).k hk3)) (tag_1 _ hrl)) ?_; rintro v4 w4 ⟨rfl, hk4⟩
    refine o_mvt rfl ?_
    refine op_run (r_len rfl rfl rfl) rfl ?_
    refine op_run (r_eql rfl rfl) rfl ?_
    refine o_storeA (cs := dgR (tagD 0 [row])) rfl rfl (by first | rfl | exact dgR_one _ | exact refR_one _ | exact secR_one _ | exact all_c8 _) (by first | rfl | (rw [dgR_len]; rfl) | (rw [refR_len]; rfl) | (rw [secR_len]; rfl) | (rw [List.length_map, tagF_len]; rfl)) (hk4.blk' (hk3.blk' hB1 trivial) trivial) (by exact Nat.le_of_eq (by simp [dgR_len])) rfl ?_; intro w5 hB5 hk5 hs5
    rw [splice_all (by simp [dgR_len])] at hB5
    refine o_ast rfl ?_
    refine ops_nil ?_
    refine W_ret ?_
    refine retAT (dgR (tagD 0 [row])) (.bool (decide ((proof.length : Int) = 0))) rfl rfl rfl rfl rfl (by first | rfl | (rw [dgR_len]; rfl) | (rw [refR_len]; rfl) | (rw [secR_len]; rfl) | (rw [List.length_map, tagF_len]; rfl)) (hB5.all) ?_
    rw [leadD_1 tagD (by omega)]
    refine ⟨?_, ((hk1.trans hk3).trans hk4).new hk5 (by omega)⟩
    have e : decide ((proof.length : Int) = 0) = decide (proof = []) := by
      rw [decide_eq_decide, ← List.length_eq_zero_iff]; omega
    rw [e]
  · refine W_skip ?_
    refine W_seq ?_
    refine W_seq ?_
    refine W_region ?_
    refine o_mvt rfl ?_
    refine op_run (r_len rfl rfl rfl) rfl ?_
    refine op_run (r_eql rfl rfl) rfl ?_
    refine ops_nil ?_
    refine W_cond_p rfl (fun h7 => ?_) (fun h7 => ?_)
    · refine W_seq ?_
      refine W_region ?_
      refine op_run (r_buildA ((List.replicate 32 (c8 0))) (_) ([]) rfl rfl rfl rfl rfl (rfl)) rfl ?_
      refine o_storeA (cs := List.replicate 32 (c8 0)) rfl rfl (by first | rfl | exact dgR_one _ | exact refR_one _ | exact secR_one _ | exact all_c8 _) (by first | rfl | (rw [dgR_len]; rfl) | (rw [refR_len]; rfl) | (rw [secR_len]; rfl) | (rw [List.length_map, tagF_len]; rfl)) hB1 (by exact Nat.le_refl _) rfl ?_; intro w9 hB9 hk9 hs9
      rw [splice_all (by simp)] at hB9
      refine o_asc rfl ?_
      refine ops_nil ?_
      refine W_ret ?_
      refine retAT (List.replicate 32 (c8 0)) (.bool false) rfl rfl rfl rfl rfl (by first | rfl | (rw [dgR_len]; rfl) | (rw [refR_len]; rfl) | (rw [secR_len]; rfl) | (rw [List.length_map, tagF_len]; rfl)) (hB9.all) ?_
      have e : proof = [] := List.length_eq_zero_iff.1 (by omega)
      subst e
      rw [leadD_0 tagD (by omega), dgR_zero]
      exact ⟨rfl, hk1.new hk9 (by omega)⟩
    · refine W_skip ?_
      refine W_seq ?_
      refine W_region ?_
      refine o_mvt rfl ?_
      refine op_run (r_len rfl rfl rfl) rfl ?_
      refine op_run ((r_sub rfl rfl).val (congrArg (Value.int .i64) (show IntKind.i64.wrap ((proof.length : Int) - 1) = ((proof.length - 1 : Nat) : Int) from (wrap_i64 (by omega) (by unfold maxLen at hcmp; omega)).trans (by omega)))) rfl ?_
      refine o_ast rfl ?_
      refine ops_nil ?_
      refine W_seq ?_
      refine W_region ?_
      refine o_mvt rfl ?_
      have h2c : 2 ≤ count := by omega
      have hsp := splitN_lt h2c
      have hsp0 := splitN_pos count
      obtain ⟨m, p, rfl⟩ := (snoc_of proof).resolve_left (fun e => h7 (by rw [e]; rfl))
      have hpl : (m ++ [p]).length = m.length + 1 := by simp
      rw [show (m ++ [p]).length - 1 = m.length by simp]
      refine op_call rfl rfl rfl (rf_Split w1 count h2c hc) ?_; rintro v11 w11 ⟨rfl, rfl⟩
      obtain ⟨bp, op, rfl, hcells⟩ := rows_at' (i := m.length) dgR_len (hp.k hk1) (by omega) (by decide)
      have hcells : ∀ (j : Nat) (v : Value), (dgR p)[j]? = some v → w11.cell? ((⟨bp, op + m.length * 32, none⟩ : Addr).add j) = some v := fun j v hj => hcells j v (by simpa using hj)
      have hpm : Sl w11 (subSl (some ⟨bp, op, none⟩) 32 0 m.length cp) m.length 32 (rows dgR m) := by
        have h := (hp.k hk1).sub (Nat.zero_le m.length) (show m.length ≤ (m ++ [p]).length by omega) (show m.length ≤ cp by omega) (Nat.le_refl _)
        rw [Nat.sub_zero, Nat.zero_mul, List.drop_zero, rows_take dgR_len, List.take_left] at h
        exact h
      refine o_ast rfl ?_
      refine ops_nil ?_
      refine W_seq ?_
      refine W_region ?_
      refine o_mvt rfl ?_
      refine o_mvt rfl ?_
      refine op_run (r_idxS rfl rfl rfl ti_d (by omega) (by omega)) rfl ?_
      refine op_run (r_loadA (dgR p) rfl rfl rfl (by first | rfl | (rw [dgR_len]; rfl) | (rw [refR_len]; rfl) | (rw [secR_len]; rfl) | (rw [List.length_map, tagF_len]; rfl)) ((by intro u v hu; rw [Int.toNat_natCast]; exact hcells u v hu))) rfl ?_
      refine o_alloc rfl rfl rfl ?_; intro w14 b14 e14 hB14 hk14 hs14
      refine o_storeA (cs := dgR p) rfl rfl (by first | rfl | exact dgR_one _ | exact refR_one _ | exact secR_one _ | exact all_c8 _) (by first | rfl | (rw [dgR_len]; rfl) | (rw [refR_len]; rfl) | (rw [secR_len]; rfl) | (rw [List.length_map, tagF_len]; rfl)) hB14 (by exact Nat.le_of_eq (by simp [dgR_len])) rfl ?_; intro w15 hB15 hk15 hs15
      have hB15 : Blk w15 b14 (dgR p) 23 := by
        have h := hB15
        rwa [splice_all (by simp [dgR_len])] at h
      have hkA : Keep All w11 w15 := hk14.new hk15 (by omega)
      refine ops_nil ?_
      refine W_seq ?_
      refine W_seq ?_
      refine W_region ?_
      refine o_mvt rfl ?_
      refine o_mvt rfl ?_
      refine op_run (r_lss rfl rfl) rfl ?_
      refine ops_nil ?_
      refine W_cond_p rfl (fun h16 => ?_) (fun h16 => ?_)
      · refine W_seq ?_
        refine W_region ?_
        refine o_mvt rfl ?_
        refine o_mvt rfl ?_
        refine o_mvt rfl ?_
        refine o_mvt rfl ?_
        refine o_mvt rfl ?_
        refine op_run (r_sliceS_hi rfl rfl rfl rfl (by omega) (by omega)) rfl ?_
        refine op_call rfl rfl rfl (ih (splitN count) (by omega) w15 (splitN count) pos _ _ row m rfl hsp0 (by omega) (by omega) ((hr.k hk1).k hkA) hrl (hpm.k hkA)) ?_; rintro v18 w18 ⟨rfl, hk18⟩
        refine o_mvt rfl ?_
        refine op_run (r_extract rfl rfl) rfl ?_
        refine op_run (r_extract rfl rfl) rfl ?_
        refine o_alloc rfl rfl rfl ?_; intro w19 b19 e19 hB19 hk19 hs19
        refine o_storeA (cs := dgR (leadD tagD (splitN count) pos row m).1) rfl rfl (by first | rfl | exact dgR_one _ | exact refR_one _ | exact secR_one _ | exact all_c8 _) (by first | rfl | (rw [dgR_len]; rfl) | (rw [refR_len]; rfl) | (rw [secR_len]; rfl) | (rw [List.length_map, tagF_len]; rfl)) hB19 (by exact Nat.le_of_eq (by simp [dgR_len])) rfl ?_; intro w20 hB20 hk20 hs20
        have hB20 : Blk w20 b19 (dgR (leadD tagD (splitN count) pos row m).1) 23 := by
          have h := hB20
          rwa [splice_all (by simp [dgR_len])] at h
        have hz18 := hk18.size
        have hlt15 := hB15.lt
        have hB15' := hk20.blk' (hk19.blk' (hk18.blk' hB15 trivial) trivial) (show b14 ≠ b19 by omega)
        have hkB : Keep All w11 w20 := ((hkA.trans hk18).trans hk19).new hk20 (by have := hkA.size; omega)
        refine o_ast rfl ?_
        refine ops_nil ?_
        refine W_seq ?_
        refine W_held (fun _ => True) (by kernel_rfl) (trivial) (fun hS => ?_)
        refine any_run 0 (fun w' hS' => (r_sliceA rfl rfl rfl)) rfl (by kernel_rfl) (by kernel_rfl) (by kernel_rfl) rfl hS ?_
        refine any_run 1 (fun w' hS' => (r_sliceA rfl rfl rfl)) rfl (by kernel_rfl) (by kernel_rfl) (by kernel_rfl) rfl hS ?_
        refine any_mvt 4 rfl (by kernel_rfl) (by kernel_rfl) (by kernel_rfl) rfl hS ?_
        refine any_one 2 (by kernel_rfl) (one_of rfl ?_)
        refine o_bsL ([.slice (some ⟨b19, 0, none⟩) 32 32, .slice (some ⟨b14, 0, none⟩) 32 32]) rfl rfl rfl rfl rfl rfl rfl rfl rfl ?_; intro w22 b22 e22 hB22 hk22 hs22
        refine ops_nil ⟨trivial, fun hS => ?_⟩
        refine any_one 3 (by kernel_rfl) (one_of rfl ?_)
        refine op_call rfl rfl rfl (rf_Tagged w22 _ 1 [(leadD tagD (splitN count) pos row m).1.val, p.val] (rowsB_two hB22 (((By.dg hB20).k (Keep.drawn w20)).k hk22) (((By.dg hB15').k (Keep.drawn w20)).k hk22)) (tag_dd _ _ _)) ?_; rintro v24 w24 ⟨rfl, hk24⟩
        refine ops_nil ⟨trivial, fun hS => ?_⟩
        have hkC := (Keep.drawn w20).trans (hk22.trans hk24)
        refine any_one 5 (by kernel_rfl) (one_of rfl ?_)
        refine o_storeA (cs := dgR (tagD 1 [(leadD tagD (splitN count) pos row m).1.val, p.val])) rfl rfl (by first | rfl | exact dgR_one _ | exact refR_one _ | exact secR_one _ | exact all_c8 _) (by first | rfl | (rw [dgR_len]; rfl) | (rw [refR_len]; rfl) | (rw [secR_len]; rfl) | (rw [List.length_map, tagF_len]; rfl)) (hkC.blk' (hkB.blk' hB1 trivial) trivial) (by exact Nat.le_of_eq (by simp [dgR_len])) rfl ?_; intro w26 hB26 hk26 hs26
        rw [splice_all (by simp [dgR_len])] at hB26
        refine ops_nil ⟨trivial, fun hS => ?_⟩
        refine any_ast 6 rfl (by kernel_rfl) (by kernel_rfl) (by kernel_rfl) rfl hS ?_
        refine any_done (by kernel_rfl) ?_
        refine W_ret ?_
        refine retAT (dgR (tagD 1 [(leadD tagD (splitN count) pos row m).1.val, p.val])) (.bool (leadD tagD (splitN count) pos row m).2) rfl rfl rfl rfl rfl (by first | rfl | (rw [dgR_len]; rfl) | (rw [refR_len]; rfl) | (rw [secR_len]; rfl) | (rw [List.length_map, tagF_len]; rfl)) (hB26.all) ?_
        rw [leadD_l tagD h2c (by omega)]
        exact ⟨rfl, ((hk1.trans hkB).trans hkC).new hk26 (by omega)⟩
      · refine W_skip ?_
        refine W_seq ?_
        refine W_region ?_
        refine o_mvt rfl ?_
        refine o_mvt rfl ?_
        refine op_run ((r_sub rfl rfl).val (congrArg (Value.int .i64) (show IntKind.i64.wrap ((count : Int) - ((splitN count : Nat) : Int)) = ((count - splitN count : Nat) : Int) from (wrap_i64 (by omega) (by omega)).trans (by omega)))) rfl ?_
        refine o_mvt rfl ?_
        refine o_mvt rfl ?_
        refine op_run ((r_sub rfl rfl).val (congrArg (Value.int .i64) (show IntKind.i64.wrap ((pos : Int) - ((splitN count : Nat) : Int)) = ((pos - splitN count : Nat) : Int) from (wrap_i64 (by omega) (by omega)).trans (by omega)))) rfl ?_
        refine o_mvt rfl ?_
        refine o_mvt rfl ?_
        refine o_mvt rfl ?_
        refine op_run (r_sliceS_hi rfl rfl rfl rfl (by omega) (by omega)) rfl ?_
        refine op_call rfl rfl rfl (ih (count - splitN count) (by omega) w15 (count - splitN count) (pos - splitN count) _ _ row m rfl (by omega) (by omega) (by omega) ((hr.k hk1).k hkA) hrl (hpm.k hkA)) ?_; rintro v30 w30 ⟨rfl, hk30⟩
        refine o_mvt rfl ?_
        refine op_run (r_extract rfl rfl) rfl ?_
        refine op_run (r_extract rfl rfl) rfl ?_
        refine o_alloc rfl rfl rfl ?_; intro w31 b31 e31 hB31 hk31 hs31
        refine o_storeA (cs := dgR (leadD tagD (count - splitN count) (pos - splitN count) row m).1) rfl rfl (by first | rfl | exact dgR_one _ | exact refR_one _ | exact secR_one _ | exact all_c8 _) (by first | rfl | (rw [dgR_len]; rfl) | (rw [refR_len]; rfl) | (rw [secR_len]; rfl) | (rw [List.length_map, tagF_len]; rfl)) hB31 (by exact Nat.le_of_eq (by simp [dgR_len])) rfl ?_; intro w32 hB32 hk32 hs32
        have hB32 : Blk w32 b31 (dgR (leadD tagD (count - splitN count) (pos - splitN count) row m).1) 23 := by
          have h := hB32
          rwa [splice_all (by simp [dgR_len])] at h
        have hz30 := hk30.size
        have hlt15 := hB15.lt
        have hB15' := hk32.blk' (hk31.blk' (hk30.blk' hB15 trivial) trivial) (show b14 ≠ b31 by omega)
        have hkB : Keep All w11 w32 := ((hkA.trans hk30).trans hk31).new hk32 (by have := hkA.size; omega)
        refine o_ast rfl ?_
        refine ops_nil ?_
        refine W_seq ?_
        refine W_held (fun _ => True) (by kernel_rfl) (trivial) (fun hS => ?_)
        refine any_run 0 (fun w' hS' => (r_sliceA rfl rfl rfl)) rfl (by kernel_rfl) (by kernel_rfl) (by kernel_rfl) rfl hS ?_
        refine any_run 1 (fun w' hS' => (r_sliceA rfl rfl rfl)) rfl (by kernel_rfl) (by kernel_rfl) (by kernel_rfl) rfl hS ?_
        refine any_mvt 4 rfl (by kernel_rfl) (by kernel_rfl) (by kernel_rfl) rfl hS ?_
        refine any_one 2 (by kernel_rfl) (one_of rfl ?_)
        refine o_bsL ([.slice (some ⟨b14, 0, none⟩) 32 32, .slice (some ⟨b31, 0, none⟩) 32 32]) rfl rfl rfl rfl rfl rfl rfl rfl rfl ?_; intro w34 b34 e34 hB34 hk34 hs34
        refine ops_nil ⟨trivial, fun hS => ?_⟩
        refine any_one 3 (by kernel_rfl) (one_of rfl ?_)
        refine op_call rfl rfl rfl (rf_Tagged w34 _ 1 [p.val, (leadD tagD (count - splitN count) (pos - splitN count) row m).1.val] (rowsB_two hB34 (((By.dg hB15').k (Keep.drawn w32)).k hk34) (((By.dg hB32).k (Keep.drawn w32)).k hk34)) (tag_dd _ _ _)) ?_; rintro v36 w36 ⟨rfl, hk36⟩
        refine ops_nil ⟨trivial, fun hS => ?_⟩
        have hkC := (Keep.drawn w32).trans (hk34.trans hk36)
        refine any_one 5 (by kernel_rfl) (one_of rfl ?_)
        refine o_storeA (cs := dgR (tagD 1 [p.val, (leadD tagD (count - splitN count) (pos - splitN count) row m).1.val])) rfl rfl (by first | rfl | exact dgR_one _ | exact refR_one _ | exact secR_one _ | exact all_c8 _) (by first | rfl | (rw [dgR_len]; rfl) | (rw [refR_len]; rfl) | (rw [secR_len]; rfl) | (rw [List.length_map, tagF_len]; rfl)) (hkC.blk' (hkB.blk' hB1 trivial) trivial) (by exact Nat.le_of_eq (by simp [dgR_len])) rfl ?_; intro w38 hB38 hk38 hs38
        rw [splice_all (by simp [dgR_len])] at hB38
        refine ops_nil ⟨trivial, fun hS => ?_⟩
        refine any_ast 6 rfl (by kernel_rfl) (by kernel_rfl) (by kernel_rfl) rfl hS ?_
        refine any_done (by kernel_rfl) ?_
        refine W_ret ?_
        refine retAT (dgR (tagD 1 [p.val, (leadD tagD (count - splitN count) (pos - splitN count) row m).1.val])) (.bool (leadD tagD (count - splitN count) (pos - splitN count) row m).2) rfl rfl rfl rfl rfl (by first | rfl | (rw [dgR_len]; rfl) | (rw [refR_len]; rfl) | (rw [secR_len]; rfl) | (rw [List.length_map, tagF_len]; rfl)) (hB38.all) ?_
        rw [leadD_r tagD h2c (by omega)]
        exact ⟨rfl, ((hk1.trans hkB).trans hkC).new hk38 (by omega)⟩

theorem rf_Verify (w : World) (root : Dig) (count pos : Int) (vr vp : Value) (row : List UInt8) (proof : List Dig) (hc : count < 2 ^ 63) (hr : By w vr row) (hrl : row.length ≤ 100000) (hp : Sl w vp proof.length 32 (rows dgR proof)) :
    Ret Try.prog 10 [.agg (dgR root).toArray, .int .i64 count, .int .i64 pos, vr, vp].toArray w fun r w' => r = .bool (decide ((0 ≤ pos ∧ pos < count) ∧ leadD tagD count.toNat pos.toNat row proof = (root, true))) ∧ Keep All w w' := by
  refine enter (fn := Try.f10) (n := 34) Try.func10 rfl rfl (by simp) ?_
  refine W_seq ?_
  refine W_region ?_
  refine o_box rfl rfl rfl ?_; intro w1 b1 e1 hB1 hk1 hs1
  refine o_asc rfl ?_
  refine ops_nil ?_
  refine W_seq ?_
  refine W_cut [19] [13, 14, 15, 16, 17, 18, 19] (fun vs w2 => vs = [.bool (decide (¬ (0 ≤ pos ∧ pos < count)))] ∧ w2 = w1) ?_ ?_
  · refine W_region ?_
    refine o_mvt rfl ?_
    refine op_run (r_lss rfl rfl) rfl ?_
    refine o_mvt rfl ?_
    refine g_split rfl rfl rfl (fun g3 => ?_) (fun g3 => ?_)
    · refine o_mvt (g_yes rfl rfl rfl g3) ?_
      refine o_mvt (g_yes rfl rfl rfl g3) ?_
      refine op_run (r_geq rfl rfl) (g_yes rfl rfl rfl g3) ?_
      refine o_pkFt rfl g3 rfl ?_
      refine ops_nil ?_
      exact ⟨by (repeat (first | with_reducible exact offM_refl _ _ | refine offM_updc rfl ?_ | refine offM_upd rfl ?_ | refine offM_updo rfl ?_ | refine offM_updo_none ?_ | refine offM_head rfl rfl ?_)), congrArg (fun b => [Value.bool b]) (by have g3 := of_decide_eq_false g3; rw [decide_eq_decide]; omega), rfl⟩
    · refine op_skip (g_no rfl rfl rfl g3) ?_
      refine op_skip (g_no rfl rfl rfl g3) ?_
      refine op_skip (g_no rfl rfl rfl g3) ?_
      refine o_pkTc rfl g3 rfl ?_
      refine ops_nil ?_
      exact ⟨by (repeat (first | with_reducible exact offM_refl _ _ | refine offM_updc rfl ?_ | refine offM_upd rfl ?_ | refine offM_updo rfl ?_ | refine offM_updo_none ?_ | refine offM_head rfl rfl ?_)), congrArg (fun b => [Value.bool b]) (by have g3 := of_decide_eq_true g3; symm; apply decide_eq_true; omega), rfl⟩
  · rintro J6 vs w6 ⟨rfl, rfl⟩ -
    refine W_cond_p rfl (fun h7 => ?_) (fun h7 => ?_)
    · refine W_seq ?_
      refine W_region ?_
      refine o_asc rfl ?_
      refine ops_nil ?_
      refine W_ret ?_
      refine ret1 (.bool false) rfl ?_ ?_; rfl
      exact ⟨congrArg Value.bool (decide_eq_false fun h => h7 h.1).symm, hk1⟩
    · refine W_skip ?_
      refine W_seq ?_
      refine W_region ?_
      refine o_mvt rfl ?_
      refine o_mvt rfl ?_
      refine o_mvt rfl ?_
      refine o_mvt rfl ?_
      have hpc : 0 ≤ pos ∧ pos < count := Decidable.not_not.1 h7
      obtain ⟨c, rfl⟩ := Int.eq_ofNat_of_zero_le (show 0 ≤ count by omega)
      obtain ⟨p, rfl⟩ := Int.eq_ofNat_of_zero_le hpc.1
      refine op_call rfl rfl rfl (rf_Lead c w6 c p vr vp row proof rfl (by omega) (by omega) (by omega) (hr.k hk1) hrl (hp.k hk1)) ?_; rintro v9 w9 ⟨rfl, hk9⟩
      refine o_mvt rfl ?_
      refine op_run (r_extract rfl rfl) rfl ?_
      refine op_run (r_extract rfl rfl) rfl ?_
      refine o_alloc rfl rfl rfl ?_; intro w10 b10 e10 hB10 hk10 hs10
      refine o_storeA (cs := dgR (leadD tagD c p row proof).1) rfl rfl (by first | rfl | exact dgR_one _ | exact refR_one _ | exact secR_one _ | exact all_c8 _) (by first | rfl | (rw [dgR_len]; rfl) | (rw [refR_len]; rfl) | (rw [secR_len]; rfl) | (rw [List.length_map, tagF_len]; rfl)) hB10 (by exact Nat.le_of_eq (by simp [dgR_len])) rfl ?_; intro w11 hB11 hk11 hs11
      have hB11 : Blk w11 b10 (dgR (leadD tagD c p row proof).1) 23 := by
        have h := hB11
        rwa [splice_all (by simp [dgR_len])] at h
      have hz9 := hk9.size
      have hlt1 := hB1.lt
      have hB1' := hk11.blk' (hk10.blk' (hk9.blk' hB1 trivial) trivial) (show b1 ≠ b10 by omega)
      have hkw : Keep All w w11 := ((hk1.trans hk9).trans hk10).new hk11 (by have := hk1.size; omega)
      refine o_ast rfl ?_
      refine ops_nil ?_
      refine W_seq ?_
      refine W_region ?_
      refine o_mvt rfl ?_
      refine o_mvt rfl ?_
      refine g_split rfl rfl rfl (fun g12 => ?_) (fun g12 => ?_)
      · refine op_run (r_loadA (dgR (leadD tagD c p row proof).1) rfl rfl rfl (by first | rfl | (rw [dgR_len]; rfl) | (rw [refR_len]; rfl) | (rw [secR_len]; rfl) | (rw [List.length_map, tagF_len]; rfl)) (hB11.all)) (g_yes rfl rfl rfl g12) ?_
        refine op_run (r_loadA (dgR root) rfl rfl rfl (by first | rfl | (rw [dgR_len]; rfl) | (rw [refR_len]; rfl) | (rw [secR_len]; rfl) | (rw [List.length_map, tagF_len]; rfl)) (hB1'.all)) (g_yes rfl rfl rfl g12) ?_
        refine op_run (r_eqlC (p := (leadD tagD c p row proof).1 = root) rfl rfl rfl rfl (by kernel_rfl) (okC_dgR _) (okC_dgR _) rfl (dgR_inj)) (g_yes rfl rfl rfl g12) ?_
        refine o_pkTt rfl g12 rfl ?_
        refine o_ast rfl ?_
        refine ops_nil ?_
        refine W_ret ?_
        refine ret1 (.bool (decide ((leadD tagD c p row proof).1 = root))) rfl ?_ ?_; rfl
        refine ⟨congrArg Value.bool ?_, hkw⟩
        have g12 : (leadD tagD c p row proof).2 = true := g12
        rw [decide_eq_decide, Int.toNat_natCast, Int.toNat_natCast]
        exact ⟨fun h => ⟨hpc, Prod.ext h g12⟩, fun h => congrArg Prod.fst h.2⟩
      · refine op_skip (g_no rfl rfl rfl g12) ?_
        refine op_skip (g_no rfl rfl rfl g12) ?_
        refine op_skip (g_no rfl rfl rfl g12) ?_
        refine o_pkFc rfl g12 rfl ?_
        refine o_ast rfl ?_
        refine ops_nil ?_
        refine W_ret ?_
        refine ret1 (.bool false) rfl ?_ ?_; rfl
        refine ⟨congrArg Value.bool (decide_eq_false fun h => ?_).symm, hkw⟩
        have g12 : (leadD tagD c p row proof).2 = false := g12
        have h2 := congrArg Prod.snd h.2
        rw [Int.toNat_natCast, Int.toNat_natCast, g12] at h2
        cases h2
end Go.Proofs.Ytnjepmdgbkhoaaa.B
