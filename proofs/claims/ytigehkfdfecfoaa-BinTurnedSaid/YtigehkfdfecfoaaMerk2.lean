/-
  Roots of rows: the program's, and the document's.
-/
import Derived.Test.YtigehkfdfecfoaaMerk1
import Derived.Test.YtigehkfdfecfoaaMTag
namespace Go.Proofs.Ytigehkfdfecfoaa.B
open Go
set_option linter.unusedVariables false
set_option maxHeartbeats 2000000
set_option maxRecDepth 100000
attribute [local irreducible] W OpsW OpsQ retP
theorem mk_join (w : World) (a b : Dig) : Ret Try.prog 82 [.agg (dgR a).toArray, .agg (dgR b).toArray].toArray w fun r w' => r = .agg (dgR (tagD 1 [a.val, b.val])).toArray ∧ Keep All w w' := by
  refine enter (fn := Try.f82) (n := 9) Try.func82 rfl rfl (by simp) ?_
  refine W_seq ?_
  refine W_region ?_
  refine o_box rfl rfl rfl ?_; intro w1 b1 e1 hB1 hk1 hs1
  refine o_box rfl rfl rfl ?_; intro w2 b2 e2 hB2 hk2 hs2
  refine o_alloc rfl rfl rfl ?_; intro w3 b3 e3 hB3 hk3 hs3
  refine ops_nil ?_
  refine W_seq ?_
  refine W_held (fun _ => True) (by kernel_rfl) (trivial) (fun hS => ?_)
  refine any_run 0 (fun w' hS' => (r_sliceA rfl rfl rfl)) rfl (by kernel_rfl) (by kernel_rfl) (by kernel_rfl) rfl hS ?_
  refine any_run 1 (fun w' hS' => (r_sliceA rfl rfl rfl)) rfl (by kernel_rfl) (by kernel_rfl) (by kernel_rfl) rfl hS ?_
  refine any_one 2 (by kernel_rfl) (one_of rfl ?_)
  refine o_bsL ([.slice (some ⟨b1, 0, none⟩) 32 32, .slice (some ⟨b2, 0, none⟩) 32 32]) rfl rfl rfl rfl rfl rfl rfl rfl rfl ?_; intro w5 b5 e5 hB5 hk5 hs5
  refine ops_nil ⟨trivial, fun hS => ?_⟩
  have hB1' := hk5.blk' ((Keep.drawn w3).blk' (hk3.blk' (hk2.blk' hB1 trivial) trivial) trivial) trivial
  have hB2' := hk5.blk' ((Keep.drawn w3).blk' (hk3.blk' hB2 trivial) trivial) trivial
  refine any_one 3 (by kernel_rfl) (one_of rfl ?_)
  refine op_call rfl rfl rfl (sh_Tagged w5 _ 1 [a.val, b.val] (rowsB_two hB5 (By.dg hB1') (By.dg hB2')) (tag_dd _ _ _)) ?_; rintro v7 w7 ⟨rfl, hk7⟩
  refine ops_nil ⟨trivial, fun hS => ?_⟩
  refine any_one 4 (by kernel_rfl) (one_of rfl ?_)
  refine o_storeA (cs := dgR (tagD 1 [a.val, b.val])) rfl rfl (by first | rfl | exact binV_one _ | exact dgR_one _ | exact refR_one _ | exact secR_one _ | exact all_c8 _) (by first | rfl | (rw [binV_len]; rfl) | (rw [dgR_len]; rfl) | (rw [refR_len]; rfl) | (rw [secR_len]; rfl) | (rw [List.length_map, tagF_len]; rfl)) (hk7.blk' (hk5.blk' ((Keep.drawn w3).blk' hB3 trivial) trivial) trivial) (by exact Nat.le_of_eq (by simp [dgR_len])) rfl ?_; intro w9 hB9 hk9 hs9
  rw [splice_all (by simp [dgR_len])] at hB9
  refine ops_nil ⟨trivial, fun hS => ?_⟩
  refine any_done (by kernel_rfl) ?_
  refine W_ret ?_
  refine retA (dgR (tagD 1 [a.val, b.val])) rfl rfl rfl rfl (by first | rfl | (rw [binV_len]; rfl) | (rw [dgR_len]; rfl) | (rw [refR_len]; rfl) | (rw [secR_len]; rfl) | (rw [List.length_map, tagF_len]; rfl)) hB9.all ?_
  exact ⟨rfl, (((hk1.trans hk2).trans hk3).trans ((Keep.drawn w3).trans (hk5.trans hk7))).new hk9 (by have := hk1.size; have := hk2.size; omega)⟩

theorem mk_Root (n : Nat) : ∀ (w : World) (v : Value) (pss : List (List UInt8)) (hn : pss.length = n) (hv : SlR w v 1 (RowB w) pss) (hl : ∀ p ∈ pss, p.length ≤ 100000),
    Ret Try.prog 64 [v].toArray w fun r w' => r = .agg (dgR (rootD tagD pss)).toArray ∧ Keep All w w' := by
  induction n using Nat.strongRecOn
  rename_i n ih
  intro w v pss hn hv hl
  obtain ⟨a0, c0, rfl, hc0, hcm0⟩ := hv.form
  refine enter (fn := Try.f64) (n := 28) Try.func64 rfl rfl (by simp) ?_
  refine W_seq ?_
  refine W_region ?_
  refine o_alloc rfl rfl rfl ?_; intro w1 b1 e1 hB1 hk1 hs1
  refine ops_nil ?_
  refine W_seq ?_
  refine W_seq ?_
  refine W_region ?_
  refine o_mvt rfl ?_
  refine op_run (r_len rfl rfl rfl) rfl ?_
  refine ops_nil ?_
  refine W_block ?_
  refine W_seq ?_
  refine W_region ?_
  refine op_run (r_eql rfl rfl) rfl ?_
  refine o_ast rfl ?_
  refine ops_nil ?_
  refine W_cond_p rfl (fun h2 => ?_) (fun h2 => ?_)
  · refine W_seq ?_
    refine W_region ?_
    refine op_call rfl rfl rfl (sh_Tagged w1 (.slice none 0 0) 2 [] SlR.nil (tag_0 _)) ?_; rintro v3 w3 ⟨rfl, hk3⟩
    refine o_storeA (cs := dgR (tagD 2 [])) rfl rfl (by first | rfl | exact binV_one _ | exact dgR_one _ | exact refR_one _ | exact secR_one _ | exact all_c8 _) (by first | rfl | (rw [binV_len]; rfl) | (rw [dgR_len]; rfl) | (rw [refR_len]; rfl) | (rw [secR_len]; rfl) | (rw [List.length_map, tagF_len]; rfl)) (hk3.blk' hB1 trivial) (by exact Nat.le_of_eq (by simp [dgR_len])) rfl ?_; intro w4 hB4 hk4 hs4
    rw [splice_all (by simp [dgR_len])] at hB4
    refine ops_nil ?_
    refine W_ret ?_
    refine retA (dgR (tagD 2 [])) rfl rfl rfl rfl (by first | rfl | (rw [binV_len]; rfl) | (rw [dgR_len]; rfl) | (rw [refR_len]; rfl) | (rw [secR_len]; rfl) | (rw [List.length_map, tagF_len]; rfl)) hB4.all ?_
    have e : pss = [] := List.length_eq_zero_iff.1 (by omega)
    subst e
    rw [rootD_0]
    exact ⟨rfl, (hk1.trans hk3).new hk4 (by omega)⟩
  · refine W_seq ?_
    refine W_region ?_
    refine op_run (r_eql rfl rfl) rfl ?_
    refine o_ast rfl ?_
    refine ops_nil ?_
    refine W_cond_p rfl (fun h6 => ?_) (fun h6 => ?_)
    · refine W_seq ?_
      refine W_region ?_
      refine o_mvt rfl ?_
      obtain ⟨x, rfl⟩ := List.length_eq_one_iff.1 (show pss.length = 1 by omega)
      obtain ⟨bp, op, cp, vk, ep, hck, hby⟩ := rowsB_get (k := 0) hv (by simp)
      injection ep with ep1 ep2 ep3
      subst ep1; subst ep3
      obtain ⟨ak, ck, rfl, hak, hakm⟩ := hby.form
      refine op_run (r_idxS1 rfl rfl rfl rfl (by decide) (by simp)) rfl ?_
      refine op_run (r_load rfl rfl rfl (hk1.cell hck trivial)) rfl ?_
      refine o_bs1 (v := _) rfl rfl rfl rfl rfl rfl ?_; intro w9 b9 e9 hB9 hk9 hs9
      refine op_call rfl rfl rfl (sh_Tagged w9 _ 0 [x] (rowsB_one hB9 ((hby.k hk1).k hk9)) (tag_1 _ (hl x (List.mem_singleton_self x)))) ?_; rintro v10 w10 ⟨rfl, hk10⟩
      refine o_storeA (cs := dgR (tagD 0 [x])) rfl rfl (by first | rfl | exact binV_one _ | exact dgR_one _ | exact refR_one _ | exact secR_one _ | exact all_c8 _) (by first | rfl | (rw [binV_len]; rfl) | (rw [dgR_len]; rfl) | (rw [refR_len]; rfl) | (rw [secR_len]; rfl) | (rw [List.length_map, tagF_len]; rfl)) (hk10.blk' (hk9.blk' hB1 trivial) trivial) (by exact Nat.le_of_eq (by simp [dgR_len])) rfl ?_; intro w11 hB11 hk11 hs11
      rw [splice_all (by simp [dgR_len])] at hB11
      refine ops_nil ?_
      refine W_ret ?_
      refine retA (dgR (tagD 0 [x])) rfl rfl rfl rfl (by first | rfl | (rw [binV_len]; rfl) | (rw [dgR_len]; rfl) | (rw [refR_len]; rfl) | (rw [secR_len]; rfl) | (rw [List.length_map, tagF_len]; rfl)) hB11.all ?_
      rw [rootD_1]
      exact ⟨rfl, ((hk1.trans hk9).trans hk10).new hk11 (by omega)⟩
    · refine W_skip ?_
      refine W_seq ?_
      refine W_region ?_
      refine o_mvt rfl ?_
      refine op_run (r_len rfl rfl rfl) rfl ?_
      have h2n : 2 ≤ pss.length := by omega
      have hlt := splitN_lt h2n
      have hpos := splitN_pos pss.length
      refine op_call rfl rfl rfl (mk_split w1 pss.length h2n (by unfold maxLen at hcm0; omega)) ?_; rintro v13 w13 ⟨rfl, rfl⟩
      have hsa : SlR w13 (subSl a0 1 0 (splitN pss.length) c0) 1 (RowB w13) (pss.take (splitN pss.length)) := (rowsB_keep hv hk1).sub (Nat.zero_le _) (by omega) (by omega) (Nat.le_refl _) (by decide)
      have hsb : SlR w13 (subSl a0 1 (splitN pss.length) pss.length c0) 1 (RowB w13) (pss.drop (splitN pss.length)) := by
        have := (rowsB_keep hv hk1).sub (h := pss.length) (show splitN pss.length ≤ pss.length by omega) (Nat.le_refl _) hc0 (Nat.le_refl _) (by decide)
        rwa [List.take_length] at this
      refine o_ast rfl ?_
      refine ops_nil ?_
      refine W_seq ?_
      refine W_held (fun _ => True) (by kernel_rfl) (trivial) (fun hS => ?_)
      refine any_mvt 0 rfl (by kernel_rfl) (by kernel_rfl) (by kernel_rfl) rfl hS ?_
      refine any_mvt 1 rfl (by kernel_rfl) (by kernel_rfl) (by kernel_rfl) rfl hS ?_
      refine any_run 2 (fun w' hS' => (r_sliceS_hi rfl rfl rfl rfl (by omega) (by omega))) rfl (by kernel_rfl) (by kernel_rfl) (by kernel_rfl) rfl hS ?_
      refine any_mvt 4 rfl (by kernel_rfl) (by kernel_rfl) (by kernel_rfl) rfl hS ?_
      refine any_mvt 5 rfl (by kernel_rfl) (by kernel_rfl) (by kernel_rfl) rfl hS ?_
      refine any_run 6 (fun w' hS' => (r_sliceS_lo rfl rfl rfl rfl (by omega) (by omega))) rfl (by kernel_rfl) (by kernel_rfl) (by kernel_rfl) rfl hS ?_
      refine any_one 3 (by kernel_rfl) (one_of rfl ?_)
      refine op_call rfl rfl rfl (ih (splitN pss.length) (by omega) _ _ (pss.take (splitN pss.length)) (by rw [List.length_take]; omega) (rowsB_keep hsa (Keep.drawn w13)) (fun p hp => hl p (List.mem_of_mem_take hp))) ?_; rintro v17 w17 ⟨rfl, hk17⟩
      refine ops_nil ⟨trivial, fun hS => ?_⟩
      refine any_one 7 (by kernel_rfl) (one_of rfl ?_)
      refine op_call rfl rfl rfl (ih (pss.length - splitN pss.length) (by omega) _ _ (pss.drop (splitN pss.length)) (by rw [List.length_drop]) (rowsB_keep hsb ((Keep.drawn w13).trans hk17)) (fun p hp => hl p (List.mem_of_mem_drop hp))) ?_; rintro v19 w19 ⟨rfl, hk19⟩
      refine ops_nil ⟨trivial, fun hS => ?_⟩
      refine any_one 8 (by kernel_rfl) (one_of rfl ?_)
      refine op_call rfl rfl rfl (mk_join _ (rootD tagD (pss.take (splitN pss.length))) (rootD tagD (pss.drop (splitN pss.length)))) ?_; rintro v21 w21 ⟨rfl, hk21⟩
      refine ops_nil ⟨trivial, fun hS => ?_⟩
      have hkA := (Keep.drawn w13).trans ((hk17.trans hk19).trans hk21)
      refine any_one 9 (by kernel_rfl) (one_of rfl ?_)
      refine o_storeA (cs := dgR (tagD 1 [(rootD tagD (pss.take (splitN pss.length))).val, (rootD tagD (pss.drop (splitN pss.length))).val])) rfl rfl (by first | rfl | exact binV_one _ | exact dgR_one _ | exact refR_one _ | exact secR_one _ | exact all_c8 _) (by first | rfl | (rw [binV_len]; rfl) | (rw [dgR_len]; rfl) | (rw [refR_len]; rfl) | (rw [secR_len]; rfl) | (rw [List.length_map, tagF_len]; rfl)) (hkA.blk' hB1 trivial) (by exact Nat.le_of_eq (by simp [dgR_len])) rfl ?_; intro w23 hB23 hk23 hs23
      rw [splice_all (by simp [dgR_len])] at hB23
      refine ops_nil ⟨trivial, fun hS => ?_⟩
      refine any_done (by kernel_rfl) ?_
      refine W_ret ?_
      refine retA (dgR (tagD 1 [(rootD tagD (pss.take (splitN pss.length))).val, (rootD tagD (pss.drop (splitN pss.length))).val])) rfl rfl rfl rfl (by first | rfl | (rw [binV_len]; rfl) | (rw [dgR_len]; rfl) | (rw [refR_len]; rfl) | (rw [secR_len]; rfl) | (rw [List.length_map, tagF_len]; rfl)) hB23.all ?_
      rw [rootD_2 tagD h2n]
      exact ⟨rfl, (hk1.trans hkA).new hk23 (by omega)⟩

theorem rf_Root (n : Nat) : ∀ (w : World) (v : Value) (pss : List (List UInt8)) (hn : pss.length = n) (hv : SlR w v 1 (RowB w) pss) (hl : ∀ p ∈ pss, p.length ≤ 100000),
    Ret Try.prog 42 [v].toArray w fun r w' => r = .agg (dgR (rootD tagD pss)).toArray ∧ Keep All w w' := by
  induction n using Nat.strongRecOn
  rename_i n ih
  intro w v pss hn hv hl
  obtain ⟨a0, c0, rfl, hc0, hcm0⟩ := hv.form
  refine enter (fn := Try.f42) (n := 33) Try.func42 rfl rfl (by simp) ?_
  refine W_seq ?_
  refine W_region ?_
  refine o_alloc rfl rfl rfl ?_; intro w1 b1 e1 hB1 hk1 hs1
  refine ops_nil ?_
  refine W_seq ?_
  refine W_seq ?_
  refine W_region ?_
  refine o_mvt rfl ?_
  refine op_run (r_len rfl rfl rfl) rfl ?_
  refine op_run (r_eql rfl rfl) rfl ?_
  refine ops_nil ?_
  refine W_cond_p rfl (fun h2 => ?_) (fun h2 => ?_)
  · refine W_seq ?_
    refine W_region ?_
    refine op_call rfl rfl rfl (rf_Tagged w1 (.slice none 0 0) 2 [] SlR.nil (tag_0 _)) ?_; rintro v3 w3 ⟨rfl, hk3⟩
    refine o_storeA (cs := dgR (tagD 2 [])) rfl rfl (by first | rfl | exact binV_one _ | exact dgR_one _ | exact refR_one _ | exact secR_one _ | exact all_c8 _) (by first | rfl | (rw [binV_len]; rfl) | (rw [dgR_len]; rfl) | (rw [refR_len]; rfl) | (rw [secR_len]; rfl) | (rw [List.length_map, tagF_len]; rfl)) (hk3.blk' hB1 trivial) (by exact Nat.le_of_eq (by simp [dgR_len])) rfl ?_; intro w4 hB4 hk4 hs4
    rw [splice_all (by simp [dgR_len])] at hB4
    refine ops_nil ?_
    refine W_ret ?_
    refine retA (dgR (tagD 2 [])) rfl rfl rfl rfl (by first | rfl | (rw [binV_len]; rfl) | (rw [dgR_len]; rfl) | (rw [refR_len]; rfl) | (rw [secR_len]; rfl) | (rw [List.length_map, tagF_len]; rfl)) hB4.all ?_
    have e : pss = [] := List.length_eq_zero_iff.1 (by omega)
    subst e
    rw [rootD_0]
    exact ⟨rfl, (hk1.trans hk3).new hk4 (by omega)⟩
  · refine W_skip ?_
    refine W_seq ?_
    refine W_seq ?_
    refine W_region ?_
    refine o_mvt rfl ?_
    refine op_run (r_len rfl rfl rfl) rfl ?_
    refine op_run (r_eql rfl rfl) rfl ?_
    refine ops_nil ?_
    refine W_cond_p rfl (fun h6 => ?_) (fun h6 => ?_)
    · refine W_seq ?_
      refine W_region ?_
      refine o_mvt rfl ?_
      obtain ⟨x, rfl⟩ := List.length_eq_one_iff.1 (show pss.length = 1 by omega)
      obtain ⟨bp, op, cp, vk, ep, hck, hby⟩ := rowsB_get (k := 0) hv (by simp)
      injection ep with ep1 ep2 ep3
      subst ep1; subst ep3
      obtain ⟨ak, ck, rfl, hak, hakm⟩ := hby.form
      refine op_run (r_idxS1 rfl rfl rfl rfl (by decide) (by simp)) rfl ?_
      refine op_run (r_load rfl rfl rfl (hk1.cell hck trivial)) rfl ?_
      refine o_bs1 (v := _) rfl rfl rfl rfl rfl rfl ?_; intro w9 b9 e9 hB9 hk9 hs9
      refine op_call rfl rfl rfl (rf_Tagged w9 _ 0 [x] (rowsB_one hB9 ((hby.k hk1).k hk9)) (tag_1 _ (hl x (List.mem_singleton_self x)))) ?_; rintro v10 w10 ⟨rfl, hk10⟩
      refine o_storeA (cs := dgR (tagD 0 [x])) rfl rfl (by first | rfl | exact binV_one _ | exact dgR_one _ | exact refR_one _ | exact secR_one _ | exact all_c8 _) (by first | rfl | (rw [binV_len]; rfl) | (rw [dgR_len]; rfl) | (rw [refR_len]; rfl) | (rw [secR_len]; rfl) | (rw [List.length_map, tagF_len]; rfl)) (hk10.blk' (hk9.blk' hB1 trivial) trivial) (by exact Nat.le_of_eq (by simp [dgR_len])) rfl ?_; intro w11 hB11 hk11 hs11
      rw [splice_all (by simp [dgR_len])] at hB11
      refine ops_nil ?_
      refine W_ret ?_
      refine retA (dgR (tagD 0 [x])) rfl rfl rfl rfl (by first | rfl | (rw [binV_len]; rfl) | (rw [dgR_len]; rfl) | (rw [refR_len]; rfl) | (rw [secR_len]; rfl) | (rw [List.length_map, tagF_len]; rfl)) hB11.all ?_
      rw [rootD_1]
      exact ⟨rfl, ((hk1.trans hk9).trans hk10).new hk11 (by omega)⟩
    · refine W_skip ?_
      refine W_seq ?_
      refine W_region ?_
      refine o_mvt rfl ?_
      refine op_run (r_len rfl rfl rfl) rfl ?_
      have h2n : 2 ≤ pss.length := by omega
      have hlt := splitN_lt h2n
      have hpos := splitN_pos pss.length
      refine op_call rfl rfl rfl (rf_Split w1 pss.length h2n (by unfold maxLen at hcm0; omega)) ?_; rintro v13 w13 ⟨rfl, rfl⟩
      have hsa : SlR w13 (subSl a0 1 0 (splitN pss.length) c0) 1 (RowB w13) (pss.take (splitN pss.length)) := (rowsB_keep hv hk1).sub (Nat.zero_le _) (by omega) (by omega) (Nat.le_refl _) (by decide)
      have hsb : SlR w13 (subSl a0 1 (splitN pss.length) pss.length c0) 1 (RowB w13) (pss.drop (splitN pss.length)) := by
        have := (rowsB_keep hv hk1).sub (h := pss.length) (show splitN pss.length ≤ pss.length by omega) (Nat.le_refl _) hc0 (Nat.le_refl _) (by decide)
        rwa [List.take_length] at this
      refine o_ast rfl ?_
      refine ops_nil ?_
      refine W_seq ?_
      refine W_region ?_
      refine o_mvt rfl ?_
      refine o_mvt rfl ?_
      refine op_run (r_sliceS_hi rfl rfl rfl rfl (by omega) (by omega)) rfl ?_
      refine op_call rfl rfl rfl (ih (splitN pss.length) (by omega) _ _ (pss.take (splitN pss.length)) (by rw [List.length_take]; omega) hsa (fun p hp => hl p (List.mem_of_mem_take hp))) ?_; rintro v15 w15 ⟨rfl, hk15⟩
      refine o_alloc rfl rfl rfl ?_; intro w16 b16 e16 hB16 hk16 hs16
      refine o_storeA (cs := dgR (rootD tagD (pss.take (splitN pss.length)))) rfl rfl (by first | rfl | exact binV_one _ | exact dgR_one _ | exact refR_one _ | exact secR_one _ | exact all_c8 _) (by first | rfl | (rw [binV_len]; rfl) | (rw [dgR_len]; rfl) | (rw [refR_len]; rfl) | (rw [secR_len]; rfl) | (rw [List.length_map, tagF_len]; rfl)) hB16 (by exact Nat.le_of_eq (by simp [dgR_len])) rfl ?_; intro w17 hB17 hk17 hs17
      have hB17 : Blk w17 b16 (dgR (rootD tagD (pss.take (splitN pss.length)))) 29 := by
        have h := hB17
        rwa [splice_all (by simp [dgR_len])] at h
      have hz15 := hk15.size
      have hkA : Keep All w13 w17 := (hk15.trans hk16).new hk17 (by omega)
      refine ops_nil ?_
      refine W_seq ?_
      refine W_region ?_
      refine o_mvt rfl ?_
      refine o_mvt rfl ?_
      refine op_run (r_sliceS_lo rfl rfl rfl rfl (by omega) (by omega)) rfl ?_
      refine op_call rfl rfl rfl (ih (pss.length - splitN pss.length) (by omega) _ _ (pss.drop (splitN pss.length)) (by rw [List.length_drop]) (rowsB_keep hsb hkA) (fun p hp => hl p (List.mem_of_mem_drop hp))) ?_; rintro v19 w19 ⟨rfl, hk19⟩
      refine o_alloc rfl rfl rfl ?_; intro w20 b20 e20 hB20 hk20 hs20
      refine o_storeA (cs := dgR (rootD tagD (pss.drop (splitN pss.length)))) rfl rfl (by first | rfl | exact binV_one _ | exact dgR_one _ | exact refR_one _ | exact secR_one _ | exact all_c8 _) (by first | rfl | (rw [binV_len]; rfl) | (rw [dgR_len]; rfl) | (rw [refR_len]; rfl) | (rw [secR_len]; rfl) | (rw [List.length_map, tagF_len]; rfl)) hB20 (by exact Nat.le_of_eq (by simp [dgR_len])) rfl ?_; intro w21 hB21 hk21 hs21
      have hB21 : Blk w21 b20 (dgR (rootD tagD (pss.drop (splitN pss.length)))) 29 := by
        have h := hB21
        rwa [splice_all (by simp [dgR_len])] at h
      have hz19 := hk19.size
      have hlt17 := hB17.lt
      have hkB : Keep All w13 w21 := ((hkA.trans hk19).trans hk20).new hk21 (by have := hkA.size; omega)
      have hB17' := hk21.blk' (hk20.blk' (hk19.blk' hB17 trivial) trivial) (show b16 ≠ b20 by omega)
      refine ops_nil ?_
      refine W_seq ?_
      refine W_held (fun _ => True) (by kernel_rfl) (trivial) (fun hS => ?_)
      refine any_run 0 (fun w' hS' => (r_sliceA rfl rfl rfl)) rfl (by kernel_rfl) (by kernel_rfl) (by kernel_rfl) rfl hS ?_
      refine any_run 1 (fun w' hS' => (r_sliceA rfl rfl rfl)) rfl (by kernel_rfl) (by kernel_rfl) (by kernel_rfl) rfl hS ?_
      refine any_one 2 (by kernel_rfl) (one_of rfl ?_)
      refine o_bsL ([.slice (some ⟨b16, 0, none⟩) 32 32, .slice (some ⟨b20, 0, none⟩) 32 32]) rfl rfl rfl rfl rfl rfl rfl rfl rfl ?_; intro w23 b23 e23 hB23 hk23 hs23
      refine ops_nil ⟨trivial, fun hS => ?_⟩
      have hBa := hk23.blk' ((Keep.drawn w21).blk' hB17' trivial) trivial
      have hBb := hk23.blk' ((Keep.drawn w21).blk' hB21 trivial) trivial
      refine any_one 3 (by kernel_rfl) (one_of rfl ?_)
      refine op_call rfl rfl rfl (rf_Tagged w23 _ 1 [(rootD tagD (pss.take (splitN pss.length))).val, (rootD tagD (pss.drop (splitN pss.length))).val] (rowsB_two hB23 (By.dg hBa) (By.dg hBb)) (tag_dd _ _ _)) ?_; rintro v25 w25 ⟨rfl, hk25⟩
      refine ops_nil ⟨trivial, fun hS => ?_⟩
      have hkC := (Keep.drawn w21).trans (hk23.trans hk25)
      refine any_one 4 (by kernel_rfl) (one_of rfl ?_)
      refine o_storeA (cs := dgR (tagD 1 [(rootD tagD (pss.take (splitN pss.length))).val, (rootD tagD (pss.drop (splitN pss.length))).val])) rfl rfl (by first | rfl | exact binV_one _ | exact dgR_one _ | exact refR_one _ | exact secR_one _ | exact all_c8 _) (by first | rfl | (rw [binV_len]; rfl) | (rw [dgR_len]; rfl) | (rw [refR_len]; rfl) | (rw [secR_len]; rfl) | (rw [List.length_map, tagF_len]; rfl)) (hkC.blk' (hkB.blk' hB1 trivial) trivial) (by exact Nat.le_of_eq (by simp [dgR_len])) rfl ?_; intro w27 hB27 hk27 hs27
      rw [splice_all (by simp [dgR_len])] at hB27
      refine ops_nil ⟨trivial, fun hS => ?_⟩
      refine any_done (by kernel_rfl) ?_
      refine W_ret ?_
      refine retA (dgR (tagD 1 [(rootD tagD (pss.take (splitN pss.length))).val, (rootD tagD (pss.drop (splitN pss.length))).val])) rfl rfl rfl rfl (by first | rfl | (rw [binV_len]; rfl) | (rw [dgR_len]; rfl) | (rw [refR_len]; rfl) | (rw [secR_len]; rfl) | (rw [List.length_map, tagF_len]; rfl)) hB27.all ?_
      rw [rootD_2 tagD h2n]
      exact ⟨rfl, ((hk1.trans hkB).trans hkC).new hk27 (by omega)⟩
end Go.Proofs.Ytigehkfdfecfoaa.B
