/-
  The document's Read: a node of bytes.
-/
import Derived.Test.YtigehkfdfecfoaaDoorNodeQ
namespace Go.Proofs.YtigehkfdfecfoaaDoor.B
open Go
set_option linter.unusedVariables false
set_option maxHeartbeats 2000000
set_option maxRecDepth 100000
attribute [local irreducible] W OpsW OpsQ retP
attribute [local irreducible] numR kdR rnV
theorem tm2 (n : Nat) : (n : Int).tmod 2 = ((n % 2 : Nat) : Int) := by rw [Int.tmod_eq_emod_of_nonneg (by omega)]; omega
theorem td2 (n : Nat) (h : n < 2 ^ 32) : IntKind.u64.wrap ((n : Int).tdiv 2) = ((n / 2 : Nat) : Int) := by
  rw [Int.tdiv_eq_ediv_of_nonneg (by omega), wrap_u64]; omega
theorem done0 {l : List UInt8} {bad : Bool} : ((if bad = true ∨ 0 < l.length then (3 : Int) else 0) = 0) ↔ (l = [] ∧ bad = false) := by
  cases bad with
  | true => simp
  | false =>
    cases l with
    | nil => simp
    | cons a l => simp
theorem rf09_Read (w : World) (left : Nat) (hleft : left ≤ 64) (v : Value) (bs : List UInt8) (hv : By w v bs) (hl : bs.length ≤ 3000) :
    Ret Tryd.prog 14 [v, .int .i64 left].toArray w fun r w' => ∃ lf vb vv k ok, r = .tuple #[.agg (rnV lf vb vv k k).toArray, .bool ok] ∧ one vb = true ∧ one vv = true ∧ (ok = true ↔ okN left (ndR ndM bs)) ∧
      (ok = true → lf = (ndR ndM bs).1.leaf ∧ By w' vb (ndR ndM bs).1.beg ∧ By w' vv (ndR ndM bs).1.val ∧ k = (ndR ndM bs).1.kids) ∧ Keep All w w' := by
  obtain ⟨a0, c0, rfl, hc0, hcm0⟩ := hv.form
  obtain ⟨R, hR⟩ : ∃ R, R = ndR bs.length bs := ⟨_, rfl⟩
  have hRb : R.1.beg = (gA bs).1 := by rw [hR]; exact ndR_beg _ _
  have hRl : R.1.leaf = decide ((nA bs).1 = 0) := by rw [hR]; exact ndR_leafB _ _
  have hMR : okN left (ndR ndM bs) ↔ okN left R := by rw [hR]; exact okN_most (Nat.le_refl _) (by unfold ndM; omega) (by omega)
  have hEq : okN left R → ndR ndM bs = R := fun h => by rw [hR] at h ⊢; exact nd_most (by unfold ndM; omega) (by omega) h
  have hgb : (gA bs).2.2 = true → R.2.2 = true := fun h => by rw [hR]; exact nd_bad h
  have fin : ∀ (wf : World) (lf : Bool) (vb vv : Value) (k : Nat → Option Dig) (ok : Bool), one vb = true → one vv = true → (ok = true ↔ okN left R) → (ok = true → lf = R.1.leaf ∧ By wf vb R.1.beg ∧ By wf vv R.1.val ∧ k = R.1.kids) → Keep All w wf →
      ∃ lf' vb' vv' k' ok', Value.tuple #[.agg (rnV lf vb vv k k).toArray, .bool ok] = .tuple #[.agg (rnV lf' vb' vv' k' k').toArray, .bool ok'] ∧ one vb' = true ∧ one vv' = true ∧ (ok' = true ↔ okN left (ndR ndM bs)) ∧
        (ok' = true → lf' = (ndR ndM bs).1.leaf ∧ By wf vb' (ndR ndM bs).1.beg ∧ By wf vv' (ndR ndM bs).1.val ∧ k' = (ndR ndM bs).1.kids) ∧ Keep All w wf := fun wf lf vb vv k ok h1 h2 h3 h4 h5 =>
    ⟨lf, vb, vv, k, ok, rfl, h1, h2, h3.trans hMR.symm, fun h => by rw [hEq (h3.1 h)]; exact h4 h, h5⟩
  refine enter (fn := Tryd.f14) (n := 96) Tryd.func14 rfl rfl (by simp) ?_
  refine W_seq ?_
  refine W_region ?_
  refine o_alloc rfl rfl rfl ?_; intro w1 b1 e1 hB1 hk1 hs1
  refine o_asc rfl ?_
  refine ops_nil ?_
  refine W_seq ?_
  refine W_region ?_
  refine o_mvt rfl ?_
  refine op_run (r_build ([.slice a0 bs.length c0, .int .i64 0, .bool false]) (_) ([(0, .slice a0 bs.length c0)]) rfl rfl rfl rfl rfl (rfl)) rfl ?_
  refine o_box (cs := [.slice a0 bs.length c0, .int .i64 0, .bool false]) rfl rfl rfl ?_; intro w3 b3 e3 hB3 hk3 hs3
  obtain ⟨A, hA⟩ : ∃ A : Nat → Prop, A = fun k => k < w.heap.size := ⟨_, rfl⟩
  have hk0 := hk1.trans hk3
  have hR3 : RIn w3 b3 A bs false := RIn.new hB3 (hv.keep hk0 (fun _ _ => trivial)) (by rw [hA]; exact hv.ltE) (by omega)
  have hAlt : ∀ k, A k → k < w.heap.size := by rw [hA]; exact fun k h => h
  have hz1 := hk1.size
  have hz3 := hk3.size
  have hAb : ¬ A b3 := fun h => by have := hAlt _ h; omega
  refine o_ast rfl ?_
  refine ops_nil ?_
  refine W_seq ?_
  refine W_region ?_
  refine op_run (r_build ((rnV false (.slice none 0 0) (.slice none 0 0) knone knone)) (_) ([]) rfl rfl rfl rfl rfl ((by unfold rnV; rfl))) rfl ?_
  refine o_alloc rfl rfl rfl ?_; intro w5 b5 e5 hB5 hk5 hs5
  refine o_storeA (cs := rnV false (.slice none 0 0) (.slice none 0 0) knone knone) rfl rfl (by first | rfl | exact binV_one _ | exact dgR_one _ | exact refR_one _ | exact secR_one _ | exact all_c8 _ | exact rnV_one _ _ _ (by first | rfl | (rw [e9_]; rfl)) (by first | rfl | (rw [e29_]; rfl))) (by first | rfl | (rw [binV_len]; rfl) | (rw [dgR_len]; rfl) | (rw [refR_len]; rfl) | (rw [secR_len]; rfl) | (rw [List.length_map, tagF_len]; rfl) | (rw [rnV_len]; rfl)) hB5 (by (rw [rnV_len]; exact Nat.le_refl _)) rfl ?_; intro w6 hB6 hk6 hs6
  have hB6 : Blk w6 b5 (rnV false (.slice none 0 0) (.slice none 0 0) knone knone) 48 := by
    have h := hB6
    rwa [splice_all (by rw [rnV_len]; rfl)] at h
  have hz5 := hk5.size
  have hz6 := hk6.size
  have h53 : b5 ≠ b3 := by omega
  have h51 : b5 ≠ b1 := by omega
  have hb13 : b1 ≠ b3 := by omega
  have hA5 : ∀ k, A k → k ≠ b5 := fun k h e => by have := hAlt k h; omega
  have hA1 : ∀ k, A k → k ≠ b1 := fun k h e => by have := hAlt k h; omega
  have hR6 := (hR3.k hk5).keep hk6 h53.symm hA5
  have hkw6 : Keep All w w6 := (hk0.trans hk5).new hk6 (by omega)
  refine ops_nil ?_
  refine W_seq ?_
  refine W_region ?_
  refine o_mvt rfl ?_
  refine op_call rfl rfl rfl (rn_Number w6 b3 A bs false 1 hAb hR6) ?_; rintro v7 w7 ⟨rfl, hR7, hk7⟩
  have hR7 : RIn w7 b3 A (nA bs).2.1 (nA bs).2.2 := hR7
  refine op_run ((r_eql rfl rfl).val (congrArg Value.bool (show decide (((nA bs).1 : Int) = 0) = R.1.leaf from by rw [hRl, decide_eq_decide]; omega))) rfl ?_
  refine op_run (r_fieldAddr rfl rfl rfl rfl rfl) rfl ?_
  refine o_store (v := .bool R.1.leaf) rfl rfl rfl rfl (hk7.blk' hB6 h53) (by (rw [rnV_len]; exact (by decide : (0 : Nat) < 531))) rfl ?_; intro w8 hB8 hk8 hs8
  have hB8 : Blk w8 b5 (rnV R.1.leaf (.slice none 0 0) (.slice none 0 0) knone knone) 48 := by
    have h := hB8
    unfold rnV at h ⊢
    exact h
  have hR8 := hR7.keep hk8 h53.symm hA5
  have hz7 := hk7.size
  have hz8 := hk8.size
  refine ops_nil ?_
  refine W_seq ?_
  refine W_region ?_
  refine o_mvt rfl ?_
  refine op_call rfl rfl rfl (rn_Bytes w8 b3 A _ _ 64 hAb hR8 (by decide)) ?_; rintro v9 w9 ⟨hby9, hin9, hR9, hk9⟩
  have hR9 : RIn w9 b3 A (gA bs).2.1 (gA bs).2.2 := hR9
  have hby9 : By w9 v9 (gA bs).1 := hby9
  obtain ⟨a9, c9, e9_, h9c, h9m⟩ := hby9.form
  have hgl : (gA bs).1.length ≤ maxLen := Nat.le_trans h9c h9m
  unfold maxLen at hgl
  have hz9 := hk9.size
  have hin9' : InB (fun z => z ≠ b5 ∧ z ≠ b3 ∧ z ≠ b1) v9 := hin9.mono fun z h => by omega
  refine op_run (r_fieldAddr rfl rfl rfl rfl rfl) rfl ?_
  refine o_store (v := v9) rfl rfl (by rw [e9_]; rfl) rfl (hk9.blk' hB8 h53) (by rw [rnV_len]; exact (by decide : (1 : Nat) < 531)) rfl ?_; intro w10 hB10 hk10 hs10
  have hB10 : Blk w10 b5 (rnV R.1.leaf v9 (.slice none 0 0) knone knone) 48 := by
    have h := hB10
    unfold rnV at h ⊢
    exact h
  have hz10 := hk10.size
  have hby10 := hby9.keep hk10 (hin9'.mono fun z h => h.1)
  have hR10 := hR9.keep hk10 h53.symm hA5
  have hkw10 : Keep All w w10 := (((hkw6.new hk7 (by omega)).new hk8 (by omega)).new hk9 (by omega)).new hk10 (by omega)
  have hbg : ∀ wf, Keep (fun z => z ≠ b5 ∧ z ≠ b3 ∧ z ≠ b1) w10 wf → By wf v9 R.1.beg := fun wf hf => by rw [hRb]; exact hby10.keep hf hin9'
  refine ops_nil ?_
  refine W_seq ?_
  refine W_seq ?_
  refine W_region ?_
  refine o_asc rfl ?_
  refine ops_nil ?_
  refine W_block ?_
  refine W_loop [8] [5, 8, 23, 24, 25, 26, 27, 28, 29, 30, 31, 32, 33, 34, 35, 36] (fun vs w' => ∃ k : Nat, vs = [.int .i64 k] ∧ k ≤ (gA bs).1.length ∧ (∀ x ∈ (gA bs).1.take k, x.toNat < 16) ∧ w' = w10) (fun vs _ => match vs with | [.int _ y] => (gA bs).1.length - y.toNat | _ => 0) ⟨0, rfl, Nat.zero_le _, fun x hx => by simp at hx, rfl⟩ ?_
  rintro J11 vs w11 ⟨k, rfl, hk, hnib, rfl⟩ -
  refine W_seq ?_
  refine W_seq ?_
  refine W_region ?_
  refine o_mvt rfl ?_
  refine op_run (r_fieldAddr rfl rfl rfl rfl rfl) rfl ?_
  have hB10' : Blk w11 b5 (rnV R.1.leaf (.slice a9 (gA bs).1.length c9) (.slice none 0 0) knone knone) 48 := by rw [← e9_]; exact hB10
  have hby11' : By w11 (.slice a9 (gA bs).1.length c9) (gA bs).1 := by rw [← e9_]; exact hby10
  refine op_run (r_load rfl rfl rfl (hB10'.cell (by unfold rnV; rfl))) rfl ?_
  refine op_run (r_len rfl rfl rfl) rfl ?_
  refine op_run (r_lss rfl rfl) rfl ?_
  refine ops_nil ?_
  refine W_cond_p rfl (fun h13 => ?_) (fun h13 => ?_)
  · refine W_skip ?_
    refine W_seq ?_
    refine W_block ?_
    refine W_seq ?_
    refine W_region ?_
    refine op_run (r_fieldAddr rfl rfl rfl rfl rfl) rfl ?_
    have hkl : k < (gA bs).1.length := by omega
    obtain ⟨x, hx⟩ : ∃ x, (gA bs).1[k]? = some x := ⟨_, List.getElem?_eq_getElem hkl⟩
    obtain ⟨bp, op, cp, ep, _, _, hc⟩ := hby11'.at (by omega)
    cases ep
    have htk : (gA bs).1.take (k + 1) = (gA bs).1.take k ++ [x] := by rw [List.take_succ_eq_append_getElem hkl, (List.getElem?_eq_some_iff.1 hx).2]
    have hinc := inc64' k (by omega)
    refine op_run (r_load rfl rfl rfl (hB10'.cell (by unfold rnV; rfl))) rfl ?_
    refine o_mvt rfl ?_
    refine op_run (r_idxS1 rfl rfl rfl rfl (by omega) (by omega)) rfl ?_
    refine op_run (r_load rfl rfl rfl (v := c8 x) (by rw [Int.toNat_natCast]; exact hc k _ (by rw [List.getElem?_map, hx]; rfl))) rfl ?_
    refine op_run (r_gtr rfl rfl) rfl ?_
    refine ops_nil ?_
    refine W_cond_p rfl (fun h17 => ?_) (fun h17 => ?_)
    · refine W_seq ?_
      refine W_region ?_
      refine op_run (r_loadA (rnV R.1.leaf v9 (.slice none 0 0) knone knone) rfl rfl rfl (by first | rfl | (rw [binV_len]; rfl) | (rw [dgR_len]; rfl) | (rw [refR_len]; rfl) | (rw [secR_len]; rfl) | (rw [List.length_map, tagF_len]; rfl) | (rw [rnV_len]; rfl)) (hB10.all)) rfl ?_
      refine o_storeA (cs := rnV R.1.leaf v9 (.slice none 0 0) knone knone) rfl rfl (by first | rfl | exact binV_one _ | exact dgR_one _ | exact refR_one _ | exact secR_one _ | exact all_c8 _ | exact rnV_one _ _ _ (by first | rfl | (rw [e9_]; rfl)) (by first | rfl | (rw [e29_]; rfl))) (by first | rfl | (rw [binV_len]; rfl) | (rw [dgR_len]; rfl) | (rw [refR_len]; rfl) | (rw [secR_len]; rfl) | (rw [List.length_map, tagF_len]; rfl) | (rw [rnV_len]; rfl)) ((hk10.blk' (hk9.blk' (hk8.blk' (hk7.blk' (hk6.blk' (hk5.blk' (hk3.blk' hB1 trivial) trivial) h51.symm) hb13) h51.symm) hb13) h51.symm)) (by (rw [rnV_len]; exact Nat.le_refl _)) rfl ?_; intro w19 hB19 hk19 hs19
      have hB19 : Blk w19 b1 (rnV R.1.leaf v9 (.slice none 0 0) knone knone) 48 := by
        have h := hB19
        rwa [splice_all (by rw [rnV_len]; rfl)] at h
      refine o_asc rfl ?_
      refine ops_nil ?_
      refine W_ret ?_
      refine retAT (rnV R.1.leaf v9 (.slice none 0 0) knone knone) ((.bool false)) rfl rfl rfl rfl rfl (by first | rfl | (rw [binV_len]; rfl) | (rw [dgR_len]; rfl) | (rw [refR_len]; rfl) | (rw [secR_len]; rfl) | (rw [List.length_map, tagF_len]; rfl) | (rw [rnV_len]; rfl)) (hB19.all) ?_
      refine fin _ _ _ _ _ false (by rw [e9_]; rfl) rfl ⟨(fun h => by cases h), fun h => ?_⟩ (fun h => by cases h) (hkw10.new hk19 (by omega))
      have := h.1.2 x (by rw [hRb]; exact List.mem_of_getElem? hx)
      omega
    · refine W_skip ?_
      refine W_region ?_
      refine o_mvt rfl ?_
      refine op_run (r_add rfl rfl) rfl ?_
      refine o_ast rfl ?_
      refine ops_nil ?_
      refine ⟨by (repeat (first | with_reducible exact offM_refl _ _ | refine offM_updc rfl ?_ | refine offM_upd rfl ?_ | refine offM_updo rfl ?_ | refine offM_updo_none ?_ | refine offM_head rfl rfl ?_)), ⟨k + 1, congrArg (fun z : Int => [Value.int .i64 z]) hinc, by omega, fun y hy => ?_, rfl⟩, ?_⟩
      · rw [htk] at hy
        rcases List.mem_append.1 hy with hy | hy
        · exact hnib y hy
        · obtain rfl := List.mem_singleton.1 hy; omega
      · show (gA bs).1.length - (IntKind.i64.wrap ((k : Int) + 1)).toNat < (gA bs).1.length - (k : Int).toNat
        rw [hinc]; omega
  · refine W_exit ?_
    refine W_seq ?_
    refine W_seq ?_
    refine W_region ?_
    refine o_mvt rfl ?_
    refine op_run (r_nilCheck rfl) rfl ?_
    refine op_run (r_fieldAddr rfl rfl rfl rfl rfl) rfl ?_
    have hke : k = (gA bs).1.length := by omega
    rw [hke, List.take_length] at hnib
    obtain ⟨vI, bI, aI, hBI, hrestI⟩ := id hR10
    have hB1e := (hk10.blk' (hk9.blk' (hk8.blk' (hk7.blk' (hk6.blk' (hk5.blk' (hk3.blk' hB1 trivial) trivial) h51.symm) hb13) h51.symm) hb13) h51.symm)
    refine op_run (r_load rfl rfl rfl (hBI.cell rfl)) rfl ?_
    refine ops_nil ?_
    refine W_cond rfl (fun h23 => ?_) (fun h23 => ?_)
    · refine W_seq ?_
      refine W_region ?_
      refine op_run (r_loadA (rnV R.1.leaf v9 (.slice none 0 0) knone knone) rfl rfl rfl (by first | rfl | (rw [binV_len]; rfl) | (rw [dgR_len]; rfl) | (rw [refR_len]; rfl) | (rw [secR_len]; rfl) | (rw [List.length_map, tagF_len]; rfl) | (rw [rnV_len]; rfl)) (hB10.all)) rfl ?_
      refine o_storeA (cs := rnV R.1.leaf v9 (.slice none 0 0) knone knone) rfl rfl (by first | rfl | exact binV_one _ | exact dgR_one _ | exact refR_one _ | exact secR_one _ | exact all_c8 _ | exact rnV_one _ _ _ (by first | rfl | (rw [e9_]; rfl)) (by first | rfl | (rw [e29_]; rfl))) (by first | rfl | (rw [binV_len]; rfl) | (rw [dgR_len]; rfl) | (rw [refR_len]; rfl) | (rw [secR_len]; rfl) | (rw [List.length_map, tagF_len]; rfl) | (rw [rnV_len]; rfl)) hB1e (by (rw [rnV_len]; exact Nat.le_refl _)) rfl ?_; intro w25 hB25 hk25 hs25
      have hB25 : Blk w25 b1 (rnV R.1.leaf v9 (.slice none 0 0) knone knone) 48 := by
        have h := hB25
        rwa [splice_all (by rw [rnV_len]; rfl)] at h
      refine o_asc rfl ?_
      refine ops_nil ?_
      refine W_ret ?_
      refine retAT (rnV R.1.leaf v9 (.slice none 0 0) knone knone) ((.bool false)) rfl rfl rfl rfl rfl (by first | rfl | (rw [binV_len]; rfl) | (rw [dgR_len]; rfl) | (rw [refR_len]; rfl) | (rw [secR_len]; rfl) | (rw [List.length_map, tagF_len]; rfl) | (rw [rnV_len]; rfl)) (hB25.all) ?_
      refine fin _ _ _ _ _ false (by rw [e9_]; rfl) rfl ⟨(fun h => by cases h), fun h => ?_⟩ (fun h => by cases h) (hkw10.new hk25 (by omega))
      have h1 := hgb (by simpa using h23)
      rw [h.2.2] at h1; cases h1
    · refine W_skip ?_
      refine W_seq ?_
      refine W_seq ?_
      refine W_region ?_
      refine op_run (r_fieldAddr rfl rfl rfl rfl rfl) rfl ?_
      have hgf : (gA bs).2.2 = false := by simpa using h23
      refine op_run (r_load rfl rfl rfl (hB10'.cell (by unfold rnV; rfl))) rfl ?_
      refine ops_nil ?_
      refine W_cond rfl (fun h28 => ?_) (fun h28 => ?_)
      · refine W_seq ?_
        refine W_region ?_
        refine o_mvt rfl ?_
        refine o_mvt rfl ?_
        refine op_run (r_len rfl rfl rfl) rfl ?_
        have hlf : R.1.leaf = true := by simpa using h28
        have hn0 : (nA bs).1 = 0 := by rw [hRl] at hlf; exact of_decide_eq_true hlf
        have hRe : R = (⟨true, (gA bs).1, (vA bs.length bs).1, 0, fun _ => none⟩, (vA bs.length bs).2.1, (vA bs.length bs).2.2) := hR.trans (ndR_leaf hn0)
        refine op_call rfl rfl rfl (rn_Bytes _ b3 A _ _ bs.length hAb hR10 (by omega)) ?_; rintro v29 w29 ⟨hby29, hin29, hR29, hk29⟩
        have hR29 : RIn w29 b3 A (vA bs.length bs).2.1 (vA bs.length bs).2.2 := hR29
        have hby29 : By w29 v29 (vA bs.length bs).1 := hby29
        obtain ⟨a29, c29, e29_, _, _⟩ := hby29.form
        have hz29 := hk29.size
        refine op_run (r_fieldAddr rfl rfl rfl rfl rfl) rfl ?_
        refine o_store (v := v29) rfl rfl (by rw [e29_]; rfl) rfl (hk29.blk' hB10 h53) (by rw [rnV_len]; exact (by decide : (2 : Nat) < 531)) rfl ?_; intro w30 hB30 hk30 hs30
        have hB30 : Blk w30 b5 (rnV R.1.leaf v9 v29 knone knone) 48 := by
          have h := hB30
          unfold rnV at h ⊢
          exact h
        have hR30 := hR29.keep hk30 h53.symm hA5
        have hz30 := hk30.size
        have hin29' : InB (fun z => z ≠ b5 ∧ z ≠ b1) v29 := hin29.mono fun z h => by omega
        have hby30 := hby29.keep hk30 (hin29'.mono fun z h => h.1)
        have hB1f := hk30.blk' (hk29.blk' hB1e hb13) h51.symm
        have hk1030 : Keep (fun z => z ≠ b5 ∧ z ≠ b3) w11 w30 := (hk29.mono fun z _ h => h.2).trans (hk30.mono fun z _ h => h.1)
        refine ops_nil ?_
        refine W_seq ?_
        have hnibR : ∀ x ∈ R.1.beg, x.toNat < 16 := by rw [hRb]; exact hnib
        have hR2 : (vA bs.length bs).2 = R.2 := by rw [hRe]
        refine W_held (fun w' => Keep (fun z => z ≠ b1) w30 w' ∧ Blk w' b5 (rnV R.1.leaf v9 v29 knone knone) 48) (by kernel_rfl) (⟨(Keep.drawn w30).all, (Keep.drawn w30).blk' hB30 trivial⟩) (fun hS => ?_)
        have hB30' : ∀ w', Blk w' b5 (rnV R.1.leaf v9 v29 knone knone) 48 → Blk w' b5 (rnV R.1.leaf (.slice a9 (gA bs).1.length c9) v29 knone knone) 48 := fun w' h => by rw [← e9_]; exact h
        have finL : ∀ (wf : World) (ok : Bool), Keep (fun z => z ≠ b1) w30 wf → (ok = true ↔ okN left R) → ∃ lf' vb' vv' k' ok', Value.tuple #[.agg (rnV R.1.leaf v9 v29 knone knone).toArray, .bool ok] = .tuple #[.agg (rnV lf' vb' vv' k' k').toArray, .bool ok'] ∧ one vb' = true ∧ one vv' = true ∧ (ok' = true ↔ okN left (ndR ndM bs)) ∧
              (ok' = true → lf' = (ndR ndM bs).1.leaf ∧ By wf vb' (ndR ndM bs).1.beg ∧ By wf vv' (ndR ndM bs).1.val ∧ k' = (ndR ndM bs).1.kids) ∧ Keep All w wf := fun wf ok hf hok =>
          fin wf _ _ _ _ ok (by rw [e9_]; rfl) (by rw [e29_]; rfl) hok (fun _ => ⟨rfl, hbg wf ((hk1030.mono fun z _ h => ⟨h.1, h.2.1⟩).trans (hf.mono fun z _ h => h.2.2)), by
            have e : R.1.val = (vA bs.length bs).1 := by rw [hRe]
            rw [e]; exact hby30.keep hf (hin29'.mono fun z h => h.2), by rw [hRe]; rfl⟩) ((hkw10.outA (B := fun z => z = b5 ∨ z = b3) (hk1030.mono fun z _ h => ⟨fun e => h (.inl e), fun e => h (.inr e)⟩) (fun z h => by omega)).new hf (by omega))
        refine any_run 0 (fun w' hS' => (r_loadA (rnV R.1.leaf v9 v29 knone knone) rfl rfl rfl (by first | rfl | (rw [binV_len]; rfl) | (rw [dgR_len]; rfl) | (rw [refR_len]; rfl) | (rw [secR_len]; rfl) | (rw [List.length_map, tagF_len]; rfl) | (rw [rnV_len]; rfl)) (hS'.2.all))) rfl (by kernel_rfl) (by kernel_rfl) (by kernel_rfl) rfl hS ?_
        refine any_mvt 1 rfl (by kernel_rfl) (by kernel_rfl) (by kernel_rfl) rfl hS ?_
        refine any_one 2 (by kernel_rfl) (one_of rfl ?_)
        refine op_call rfl rfl rfl (rn_Done _ b3 A _ _ (hR30.k (Keep.drawn w30))) ?_; rintro v33 w33 ⟨rfl, hk33⟩
        refine ops_nil ⟨⟨hS.1.trans hk33.all, hk33.blk' hS.2 trivial⟩, fun hS => ?_⟩
        refine any_run 3 (fun w' hS' => (r_eql rfl rfl)) rfl (by kernel_rfl) (by kernel_rfl) (by kernel_rfl) rfl hS ?_
        refine any_mvt 4 rfl (by kernel_rfl) (by kernel_rfl) (by kernel_rfl) rfl hS ?_
        refine a_split 53 true rfl (fun g35 => ?_) (fun g35 => ?_)
        · refine any_run 5 (fun w' hS' => (r_fieldAddr rfl rfl rfl rfl rfl)) rfl (by kernel_rfl) (by kernel_rfl) (by kernel_rfl) (g_yes rfl rfl rfl g35) hS ?_
          refine any_run 6 (fun w' hS' => (r_load rfl rfl rfl (((hB30' _ hS'.2).cell (by unfold rnV; rfl))))) rfl (by kernel_rfl) (by kernel_rfl) (by kernel_rfl) (g_yes rfl rfl rfl g35) hS ?_
          refine any_run 7 (fun w' hS' => (r_len rfl rfl rfl)) rfl (by kernel_rfl) (by kernel_rfl) (by kernel_rfl) (g_yes rfl rfl rfl g35) hS ?_
          refine any_mvt 8 rfl (by kernel_rfl) (by kernel_rfl) (by kernel_rfl) (g_yes rfl rfl rfl g35) hS ?_
          refine any_run 9 (fun w' hS' => (r_eql rfl rfl)) rfl (by kernel_rfl) (by kernel_rfl) (by kernel_rfl) (g_yes rfl rfl rfl g35) hS ?_
          refine any_run 10 (fun w' hS' => (r_pickT rfl g35)) rfl (by kernel_rfl) (by kernel_rfl) (by kernel_rfl) rfl hS ?_
          refine any_one 11 (by kernel_rfl) (one_of rfl ?_)
          refine o_storeA (cs := rnV R.1.leaf v9 v29 knone knone) rfl rfl (by first | rfl | exact binV_one _ | exact dgR_one _ | exact refR_one _ | exact secR_one _ | exact all_c8 _ | exact rnV_one _ _ _ (by first | rfl | (rw [e9_]; rfl)) (by first | rfl | (rw [e29_]; rfl))) (by first | rfl | (rw [binV_len]; rfl) | (rw [dgR_len]; rfl) | (rw [refR_len]; rfl) | (rw [secR_len]; rfl) | (rw [List.length_map, tagF_len]; rfl) | (rw [rnV_len]; rfl)) (hk33.blk' ((Keep.drawn w30).blk' hB1f trivial) trivial) (by (rw [rnV_len]; exact Nat.le_refl _)) rfl ?_; intro w37 hB37 hk37 hs37
          have hB37 : Blk w37 b1 (rnV R.1.leaf v9 v29 knone knone) 48 := by
            have h := hB37
            rwa [splice_all (by rw [rnV_len]; rfl)] at h
          refine ops_nil ⟨⟨hS.1.trans hk37, hk37.blk' hS.2 h51⟩, fun hS => ?_⟩
          refine any_ast 12 rfl (by kernel_rfl) (by kernel_rfl) (by kernel_rfl) rfl hS ?_
          refine any_done (by kernel_rfl) ?_
          refine W_ret ?_
          refine retAT (rnV R.1.leaf v9 v29 knone knone) (_) rfl rfl rfl rfl rfl (by first | rfl | (rw [binV_len]; rfl) | (rw [dgR_len]; rfl) | (rw [refR_len]; rfl) | (rw [secR_len]; rfl) | (rw [List.length_map, tagF_len]; rfl) | (rw [rnV_len]; rfl)) (hB37.all) ?_
          refine finL _ _ hS.1 ?_
          have g := done0.1 (of_decide_eq_true g35)
          rw [hR2] at g
          rw [decide_eq_true_iff]
          constructor
          · intro h; exact ⟨⟨by unfold okL; rw [hlf, if_pos rfl, hRb]; omega, hnibR⟩, g⟩
          · intro h; have h1 := h.1.1; unfold okL at h1; rw [hlf, if_pos rfl, hRb] at h1; omega
        · refine any_skip 5 rfl (by kernel_rfl) (by kernel_rfl) (by kernel_rfl) (g_no rfl rfl rfl g35) hS ?_
          refine any_skip 6 rfl (by kernel_rfl) (by kernel_rfl) (by kernel_rfl) (g_no rfl rfl rfl g35) hS ?_
          refine any_skip 7 rfl (by kernel_rfl) (by kernel_rfl) (by kernel_rfl) (g_no rfl rfl rfl g35) hS ?_
          refine any_skip 8 rfl (by kernel_rfl) (by kernel_rfl) (by kernel_rfl) (g_no rfl rfl rfl g35) hS ?_
          refine any_skip 9 rfl (by kernel_rfl) (by kernel_rfl) (by kernel_rfl) (g_no rfl rfl rfl g35) hS ?_
          refine any_run 10 (fun w' hS' => (r_pickF rfl g35)) rfl (by kernel_rfl) (by kernel_rfl) (by kernel_rfl) rfl hS ?_
          refine any_one 11 (by kernel_rfl) (one_of rfl ?_)
          refine o_storeA (cs := rnV R.1.leaf v9 v29 knone knone) rfl rfl (by first | rfl | exact binV_one _ | exact dgR_one _ | exact refR_one _ | exact secR_one _ | exact all_c8 _ | exact rnV_one _ _ _ (by first | rfl | (rw [e9_]; rfl)) (by first | rfl | (rw [e29_]; rfl))) (by first | rfl | (rw [binV_len]; rfl) | (rw [dgR_len]; rfl) | (rw [refR_len]; rfl) | (rw [secR_len]; rfl) | (rw [List.length_map, tagF_len]; rfl) | (rw [rnV_len]; rfl)) (hk33.blk' ((Keep.drawn w30).blk' hB1f trivial) trivial) (by (rw [rnV_len]; exact Nat.le_refl _)) rfl ?_; intro w40 hB40 hk40 hs40
          have hB40 : Blk w40 b1 (rnV R.1.leaf v9 v29 knone knone) 48 := by
            have h := hB40
            rwa [splice_all (by rw [rnV_len]; rfl)] at h
          refine ops_nil ⟨⟨hS.1.trans hk40, hk40.blk' hS.2 h51⟩, fun hS => ?_⟩
          refine any_ast 12 rfl (by kernel_rfl) (by kernel_rfl) (by kernel_rfl) rfl hS ?_
          refine any_done (by kernel_rfl) ?_
          refine W_ret ?_
          refine retAT (rnV R.1.leaf v9 v29 knone knone) (_) rfl rfl rfl rfl rfl (by first | rfl | (rw [binV_len]; rfl) | (rw [dgR_len]; rfl) | (rw [refR_len]; rfl) | (rw [secR_len]; rfl) | (rw [List.length_map, tagF_len]; rfl) | (rw [rnV_len]; rfl)) (hB40.all) ?_
          refine finL _ _ hS.1 ?_
          have g := of_decide_eq_false g35
          refine ⟨(fun h => by cases h), fun h => absurd (done0.2 ?_) g⟩
          rw [hR2]; exact h.2
      · refine W_skip ?_
        refine W_seq ?_
        refine W_region ?_
        refine o_mvt rfl ?_
        have hlf : R.1.leaf = false := by simpa using h28
        have hn0 : ¬ (nA bs).1 = 0 := by rw [hRl] at hlf; exact of_decide_eq_false hlf
        have hRe : R = (⟨false, (gA bs).1, [], (mA bs).1, (kA bs 16).1⟩, (kA bs 16).2.1, (kA bs 16).2.2) := hR.trans (ndR_branch hn0)
        have hml : (mA bs).1 ≤ 65535 := numR_le _ _ _
        refine op_call rfl rfl rfl (rn_Number _ b3 A _ _ 65535 hAb hR10) ?_; rintro v43 w43 ⟨rfl, hR43, hk43⟩
        have hR43 : RIn w43 b3 A (mA bs).2.1 (mA bs).2.2 := hR43
        have hB43 := hk43.blk' hB10 h53
        have hz43 := hk43.size
        have e0 : kA bs 0 = (knone, (mA bs).2.1, (mA bs).2.2) := by unfold kA kdR; rfl
        refine o_ast rfl ?_
        refine ops_nil ?_
        refine W_seq ?_
        refine W_region ?_
        refine o_asc rfl ?_
        refine ops_nil ?_
        refine W_seq ?_
        refine W_seq ?_
        refine W_region ?_
        refine o_asc rfl ?_
        refine ops_nil ?_
        refine W_block ?_
        refine W_loop [9, 10, 11] [9, 10, 11, 62, 63, 64, 65, 66, 67, 68, 69, 70, 71, 72, 73, 74, 75, 76, 77, 78, 79, 80] (fun vs w' => ∃ i : Nat, vs = [.int .u64 ((mA bs).1 / 2 ^ i : Nat), .int .i64 (cntB (mA bs).1 i : Nat), .int .i64 i] ∧ i ≤ 16 ∧ Blk w' b5 (rnV R.1.leaf v9 (.slice none 0 0) (kA bs i).1 (kA bs i).1) 48 ∧ RIn w' b3 A (kA bs i).2.1 (kA bs i).2.2 ∧ Keep (fun z => z ≠ b5 ∧ z ≠ b3) w43 w') (fun vs _ => match vs with | [_, _, .int _ y] => 16 - y.toNat | _ => 0) ⟨0, congrArg (fun z : Nat => [Value.int .u64 (z : Int), Value.int .i64 0, Value.int .i64 0]) (by simp; rfl), Nat.zero_le _, by rw [e0]; exact hB43, by rw [e0]; exact hR43, Keep.refl _⟩ ?_
        rintro J44 vs w44 ⟨i, rfl, hi, hB44, hR44, hk44⟩ -
        refine W_seq ?_
        refine W_seq ?_
        refine W_region ?_
        refine o_mvt rfl ?_
        refine op_run (r_lss rfl rfl) rfl ?_
        refine ops_nil ?_
        refine W_cond_p rfl (fun h45 => ?_) (fun h45 => ?_)
        · refine W_skip ?_
          refine W_seq ?_
          refine W_block ?_
          refine W_seq ?_
          refine W_seq ?_
          refine W_region ?_
          refine o_mvt rfl ?_
          refine op_run ((r_rem rfl rfl (by decide)).val (congrArg (Value.int .u64) (show (((mA bs).1 / 2 ^ i : Nat) : Int).tmod 2 = (((mA bs).1 / 2 ^ i % 2 : Nat) : Int) from tm2 _))) rfl ?_
          refine op_run (r_eql rfl rfl) rfl ?_
          refine ops_nil ?_
          have hi16 : i < 16 := by omega
          have hinc := inc64' i (by omega)
          have hcl := cntB_le (mA bs).1 i
          refine W_cond_p rfl (fun h46 => ?_) (fun h46 => ?_)
          · refine W_seq ?_
            refine W_region ?_
            refine o_mvt rfl ?_
            refine op_run (r_fieldAddr rfl rfl rfl rfl rfl) rfl ?_
            have hbit : (mA bs).1 / 2 ^ i % 2 = 1 := by omega
            obtain ⟨d, hd⟩ : ∃ d, d = (digR (kA bs i).2.1 (kA bs i).2.2).1 := ⟨_, rfl⟩
            have hkt : kA bs (i + 1) = (fun j => if j = i then some (digR (kA bs i).2.1 (kA bs i).2.2).1 else (kA bs i).1 j, (digR (kA bs i).2.1 (kA bs i).2.2).2.1, (digR (kA bs i).2.1 (kA bs i).2.2).2.2) := kdR_yes hbit
            refine op_run (r_idxA1 rfl rfl rfl rfl (by omega) (by omega)) rfl ?_
            refine o_store (v := .bool true) rfl rfl rfl rfl hB44 (by (rw [rnV_len, Int.toNat_natCast]; exact (by omega : 3 + i < 531))) rfl ?_; intro w48 hB48 hk48 hs48
            have hB48 : Blk w48 b5 (rnV R.1.leaf v9 (.slice none 0 0) (updK (kA bs i).1 i d) (kA bs i).1) 48 := by
              have h := hB48
              rw [Int.toNat_natCast] at h
              rw [← rnV_setHas _ _ _ _ _ hi16 d]; exact h
            refine ops_nil ?_
            refine W_seq ?_
            refine W_region ?_
            refine o_mvt rfl ?_
            refine o_mvt rfl ?_
            refine op_call rfl rfl rfl (rn_Digest _ b3 A _ _ hAb (fun k h => by have := hAlt k h; have := hk44.size; have := hk48.size; omega) (hR44.keep hk48 h53.symm hA5)) ?_; rintro v49 w49 ⟨rfl, hR49, hk49⟩
            refine op_run (r_fieldAddr rfl rfl rfl rfl rfl) rfl ?_
            refine op_run (r_idxA rfl rfl rfl rfl (by omega) (by omega)) rfl ?_
            refine o_storeA (cs := dgR (digR (kA bs i).2.1 (kA bs i).2.2).1) rfl rfl (by first | rfl | exact binV_one _ | exact dgR_one _ | exact refR_one _ | exact secR_one _ | exact all_c8 _ | exact rnV_one _ _ _ (by first | rfl | (rw [e9_]; rfl)) (by first | rfl | (rw [e29_]; rfl))) (by first | rfl | (rw [binV_len]; rfl) | (rw [dgR_len]; rfl) | (rw [refR_len]; rfl) | (rw [secR_len]; rfl) | (rw [List.length_map, tagF_len]; rfl) | (rw [rnV_len]; rfl)) (hk49.blk' hB48 h53) (by (rw [rnV_len, Int.toNat_natCast, dgR_len]; exact (by omega : 19 + i * 32 + 32 ≤ 531))) rfl ?_; intro w51 hB51 hk51 hs51
            have hB51 : Blk w51 b5 (rnV R.1.leaf v9 (.slice none 0 0) (updK (kA bs i).1 i d) (updK (kA bs i).1 i d)) 48 := by
              have h := hB51
              rw [Int.toNat_natCast, ← hd] at h
              rw [← rnV_setKid _ _ _ _ _ hi16 d]; exact h
            refine ops_nil ?_
            refine W_region ?_
            refine o_mvt rfl ?_
            refine op_run (r_add rfl rfl) rfl ?_
            refine o_ast rfl ?_
            refine ops_nil ?_
            refine W_region ?_
            refine o_mvt rfl ?_
            refine op_run ((r_quo rfl rfl (by decide)).val (congrArg (Value.int .u64) (show IntKind.u64.wrap ((((mA bs).1 / 2 ^ i : Nat) : Int).tdiv 2) = (((mA bs).1 / 2 ^ (i + 1) : Nat) : Int) from (td2 _ (by have := Nat.div_le_self (mA bs).1 (2 ^ i); omega)).trans (by rw [Nat.pow_succ, ← Nat.div_div_eq_div_mul])))) rfl ?_
            refine o_ast rfl ?_
            refine ops_nil ?_
            refine W_region ?_
            refine o_mvt rfl ?_
            refine op_run (r_add rfl rfl) rfl ?_
            refine o_ast rfl ?_
            refine ops_nil ?_
            refine ⟨by (repeat (first | with_reducible exact offM_refl _ _ | refine offM_updc rfl ?_ | refine offM_upd rfl ?_ | refine offM_updo rfl ?_ | refine offM_updo_none ?_ | refine offM_head rfl rfl ?_)), ⟨i + 1, ?_, by omega, ?_, ?_, ((hk44.trans (hk48.mono fun z _ h => h.1)).trans (hk49.mono fun z _ h => h.2)).trans (hk51.mono fun z _ h => h.1)⟩, ?_⟩
            · have hc : IntKind.i64.wrap (((cntB (mA bs).1 i : Nat) : Int) + 1) = ((cntB (mA bs).1 (i + 1) : Nat) : Int) := by
                rw [inc64' _ (by omega)]; show ((cntB (mA bs).1 i + 1 : Nat) : Int) = ((cntB (mA bs).1 i + (mA bs).1 / 2 ^ i % 2 : Nat) : Int); rw [hbit]
              exact congr (congrArg (fun (a b : Int) => [Value.int .u64 (((mA bs).1 / 2 ^ (i + 1) : Nat) : Int), Value.int .i64 a, Value.int .i64 b]) hc) hinc
            · rw [hkt]; rw [← hd]; exact hB51
            · rw [hkt]; exact hR49.keep hk51 h53.symm hA5
            · show 16 - (IntKind.i64.wrap ((i : Int) + 1)).toNat < 16 - (i : Int).toNat
              rw [hinc]; omega
          · refine W_skip ?_
            refine W_region ?_
            refine o_mvt rfl ?_
            refine op_run ((r_quo rfl rfl (by decide)).val (congrArg (Value.int .u64) (show IntKind.u64.wrap ((((mA bs).1 / 2 ^ i : Nat) : Int).tdiv 2) = (((mA bs).1 / 2 ^ (i + 1) : Nat) : Int) from (td2 _ (by have := Nat.div_le_self (mA bs).1 (2 ^ i); omega)).trans (by rw [Nat.pow_succ, ← Nat.div_div_eq_div_mul])))) rfl ?_
            refine o_ast rfl ?_
            refine ops_nil ?_
            refine W_region ?_
            refine o_mvt rfl ?_
            refine op_run (r_add rfl rfl) rfl ?_
            refine o_ast rfl ?_
            refine ops_nil ?_
            have hbit : ¬ (mA bs).1 / 2 ^ i % 2 = 1 := by omega
            have hkt : kA bs (i + 1) = kA bs i := kdR_no hbit
            refine ⟨by (repeat (first | with_reducible exact offM_refl _ _ | refine offM_updc rfl ?_ | refine offM_upd rfl ?_ | refine offM_updo rfl ?_ | refine offM_updo_none ?_ | refine offM_head rfl rfl ?_)), ⟨i + 1, ?_, by omega, by rw [hkt]; exact hB44, by rw [hkt]; exact hR44, hk44⟩, ?_⟩
            · have hc : ((cntB (mA bs).1 i : Nat) : Int) = ((cntB (mA bs).1 (i + 1) : Nat) : Int) := by
                show ((cntB (mA bs).1 i : Nat) : Int) = ((cntB (mA bs).1 i + (mA bs).1 / 2 ^ i % 2 : Nat) : Int); omega
              exact congr (congrArg (fun (a b : Int) => [Value.int .u64 (((mA bs).1 / 2 ^ (i + 1) : Nat) : Int), Value.int .i64 a, Value.int .i64 b]) hc) hinc
            · show 16 - (IntKind.i64.wrap ((i : Int) + 1)).toNat < 16 - (i : Int).toNat
              rw [hinc]; omega
        · refine W_exit ?_
          refine W_seq ?_
          have hi16 : i = 16 := by omega
          have hz44 := hk44.size
          have hB1g := hk44.blk' (hk43.blk' hB1e hb13) ⟨h51.symm, hb13⟩
          have hk1144 : Keep (fun z => z ≠ b5 ∧ z ≠ b3) w11 w44 := (hk43.mono fun z _ h => h.2).trans hk44
          have hB44' : ∀ w', Blk w' b5 (rnV R.1.leaf v9 (.slice none 0 0) (kA bs i).1 (kA bs i).1) 48 → Blk w' b5 (rnV R.1.leaf (.slice a9 (gA bs).1.length c9) (.slice none 0 0) (kA bs i).1 (kA bs i).1) 48 := fun w' h => by rw [← e9_]; exact h
          have finB : ∀ (wf : World) (ok : Bool), Keep (fun z => z ≠ b1) w44 wf → (ok = true ↔ okN left R) → ∃ lf' vb' vv' k' ok', Value.tuple #[.agg (rnV R.1.leaf v9 (.slice none 0 0) (kA bs i).1 (kA bs i).1).toArray, .bool ok] = .tuple #[.agg (rnV lf' vb' vv' k' k').toArray, .bool ok'] ∧ one vb' = true ∧ one vv' = true ∧ (ok' = true ↔ okN left (ndR ndM bs)) ∧
                (ok' = true → lf' = (ndR ndM bs).1.leaf ∧ By wf vb' (ndR ndM bs).1.beg ∧ By wf vv' (ndR ndM bs).1.val ∧ k' = (ndR ndM bs).1.kids) ∧ Keep All w wf := fun wf ok hf hok =>
            fin wf _ _ _ _ ok (by rw [e9_]; rfl) rfl hok (fun _ => ⟨rfl, hbg wf ((hk1144.mono fun z _ h => ⟨h.1, h.2.1⟩).trans (hf.mono fun z _ h => h.2.2)), by
              have e : R.1.val = [] := by rw [hRe]
              rw [e]; exact Sl.nil _ _, by rw [hRe, hi16]⟩) ((hkw10.outA (B := fun z => z = b5 ∨ z = b3) (hk1144.mono fun z _ h => ⟨fun e => h (.inl e), fun e => h (.inr e)⟩) (fun z h => by omega)).new hf (by omega))
          have hnibR : ∀ x ∈ R.1.beg, x.toNat < 16 := by rw [hRb]; exact hnib
          have hR2 : (kA bs i).2 = R.2 := by rw [hRe, hi16]
          have hRm : R.1.mask = (mA bs).1 := by rw [hRe]
          refine W_held (fun w' => Keep (fun z => z ≠ b1) w44 w' ∧ Blk w' b5 (rnV R.1.leaf v9 (.slice none 0 0) (kA bs i).1 (kA bs i).1) 48) (by kernel_rfl) (⟨(Keep.drawn w44).all, (Keep.drawn w44).blk' hB44 trivial⟩) (fun hS => ?_)
          refine any_run 0 (fun w' hS' => (r_loadA (rnV R.1.leaf v9 (.slice none 0 0) (kA bs i).1 (kA bs i).1) rfl rfl rfl (by first | rfl | (rw [binV_len]; rfl) | (rw [dgR_len]; rfl) | (rw [refR_len]; rfl) | (rw [secR_len]; rfl) | (rw [List.length_map, tagF_len]; rfl) | (rw [rnV_len]; rfl)) (hS'.2.all))) rfl (by kernel_rfl) (by kernel_rfl) (by kernel_rfl) rfl hS ?_
          refine any_mvt 1 rfl (by kernel_rfl) (by kernel_rfl) (by kernel_rfl) rfl hS ?_
          refine any_one 2 (by kernel_rfl) (one_of rfl ?_)
          refine op_call rfl rfl rfl (rn_Done _ b3 A _ _ (hR44.k (Keep.drawn w44))) ?_; rintro v56 w56 ⟨rfl, hk56⟩
          refine ops_nil ⟨⟨hS.1.trans hk56.all, hk56.blk' hS.2 trivial⟩, fun hS => ?_⟩
          refine any_run 3 (fun w' hS' => (r_eql rfl rfl)) rfl (by kernel_rfl) (by kernel_rfl) (by kernel_rfl) rfl hS ?_
          refine any_mvt 4 rfl (by kernel_rfl) (by kernel_rfl) (by kernel_rfl) rfl hS ?_
          refine a_split 85 true rfl (fun g58 => ?_) (fun g58 => ?_)
          · refine any_run 5 (fun w' hS' => (r_fieldAddr rfl rfl rfl rfl rfl)) rfl (by kernel_rfl) (by kernel_rfl) (by kernel_rfl) (g_yes rfl rfl rfl g58) hS ?_
            refine any_run 6 (fun w' hS' => (r_load rfl rfl rfl (((hB44' _ hS'.2).cell (by unfold rnV; rfl))))) rfl (by kernel_rfl) (by kernel_rfl) (by kernel_rfl) (g_yes rfl rfl rfl g58) hS ?_
            refine any_run 7 (fun w' hS' => (r_len rfl rfl rfl)) rfl (by kernel_rfl) (by kernel_rfl) (by kernel_rfl) (g_yes rfl rfl rfl g58) hS ?_
            refine any_mvt 8 rfl (by kernel_rfl) (by kernel_rfl) (by kernel_rfl) (g_yes rfl rfl rfl g58) hS ?_
            refine any_run 9 (fun w' hS' => (r_lss rfl rfl)) rfl (by kernel_rfl) (by kernel_rfl) (by kernel_rfl) (g_yes rfl rfl rfl g58) hS ?_
            refine any_run 10 (fun w' hS' => (r_pickT rfl g58)) rfl (by kernel_rfl) (by kernel_rfl) (by kernel_rfl) rfl hS ?_
            refine any_mvt 11 rfl (by kernel_rfl) (by kernel_rfl) (by kernel_rfl) rfl hS ?_
            refine a_split 92 true rfl (fun g60 => ?_) (fun g60 => ?_)
            · refine any_mvt 12 rfl (by kernel_rfl) (by kernel_rfl) (by kernel_rfl) (g_yes rfl rfl rfl g60) hS ?_
              refine any_run 13 (fun w' hS' => (r_gtr rfl rfl)) rfl (by kernel_rfl) (by kernel_rfl) (by kernel_rfl) (g_yes rfl rfl rfl g60) hS ?_
              refine any_run 14 (fun w' hS' => (r_pickT rfl g60)) rfl (by kernel_rfl) (by kernel_rfl) (by kernel_rfl) rfl hS ?_
              refine any_one 15 (by kernel_rfl) (one_of rfl ?_)
              refine o_storeA (cs := rnV R.1.leaf v9 (.slice none 0 0) (kA bs i).1 (kA bs i).1) rfl rfl (by first | rfl | exact binV_one _ | exact dgR_one _ | exact refR_one _ | exact secR_one _ | exact all_c8 _ | exact rnV_one _ _ _ (by first | rfl | (rw [e9_]; rfl)) (by first | rfl | (rw [e29_]; rfl))) (by first | rfl | (rw [binV_len]; rfl) | (rw [dgR_len]; rfl) | (rw [refR_len]; rfl) | (rw [secR_len]; rfl) | (rw [List.length_map, tagF_len]; rfl) | (rw [rnV_len]; rfl)) (hk56.blk' ((Keep.drawn w44).blk' hB1g trivial) trivial) (by (rw [rnV_len]; exact Nat.le_refl _)) rfl ?_; intro w61 hB61 hk61 hs61
              have hB61 : Blk w61 b1 (rnV R.1.leaf v9 (.slice none 0 0) (kA bs i).1 (kA bs i).1) 48 := by
                have h := hB61
                rwa [splice_all (by rw [rnV_len]; rfl)] at h
              refine ops_nil ⟨⟨hS.1.trans hk61, hk61.blk' hS.2 h51⟩, fun hS => ?_⟩
              refine any_ast 16 rfl (by kernel_rfl) (by kernel_rfl) (by kernel_rfl) rfl hS ?_
              refine any_done (by kernel_rfl) ?_
              refine W_ret ?_
              refine retAT (rnV R.1.leaf v9 (.slice none 0 0) (kA bs i).1 (kA bs i).1) (_) rfl rfl rfl rfl rfl (by first | rfl | (rw [binV_len]; rfl) | (rw [dgR_len]; rfl) | (rw [refR_len]; rfl) | (rw [secR_len]; rfl) | (rw [List.length_map, tagF_len]; rfl) | (rw [rnV_len]; rfl)) (hB61.all) ?_
              refine finB _ _ hS.1 ?_
              have g := done0.1 (of_decide_eq_true g58)
              rw [hR2] at g
              have g60 := of_decide_eq_true g60
              rw [decide_eq_true_iff]
              constructor
              · intro h; exact ⟨⟨by unfold okL; rw [hlf, if_neg (by simp), hRb, hRm, ← hi16]; omega, hnibR⟩, g⟩
              · intro h; have h1 := h.1.1; unfold okL at h1; rw [hlf, if_neg (by simp), hRb, hRm, ← hi16] at h1; omega
            · refine any_skip 12 rfl (by kernel_rfl) (by kernel_rfl) (by kernel_rfl) (g_no rfl rfl rfl g60) hS ?_
              refine any_skip 13 rfl (by kernel_rfl) (by kernel_rfl) (by kernel_rfl) (g_no rfl rfl rfl g60) hS ?_
              refine any_run 14 (fun w' hS' => (r_pickF rfl g60)) rfl (by kernel_rfl) (by kernel_rfl) (by kernel_rfl) rfl hS ?_
              refine any_one 15 (by kernel_rfl) (one_of rfl ?_)
              refine o_storeA (cs := rnV R.1.leaf v9 (.slice none 0 0) (kA bs i).1 (kA bs i).1) rfl rfl (by first | rfl | exact binV_one _ | exact dgR_one _ | exact refR_one _ | exact secR_one _ | exact all_c8 _ | exact rnV_one _ _ _ (by first | rfl | (rw [e9_]; rfl)) (by first | rfl | (rw [e29_]; rfl))) (by first | rfl | (rw [binV_len]; rfl) | (rw [dgR_len]; rfl) | (rw [refR_len]; rfl) | (rw [secR_len]; rfl) | (rw [List.length_map, tagF_len]; rfl) | (rw [rnV_len]; rfl)) (hk56.blk' ((Keep.drawn w44).blk' hB1g trivial) trivial) (by (rw [rnV_len]; exact Nat.le_refl _)) rfl ?_; intro w64 hB64 hk64 hs64
              have hB64 : Blk w64 b1 (rnV R.1.leaf v9 (.slice none 0 0) (kA bs i).1 (kA bs i).1) 48 := by
                have h := hB64
                rwa [splice_all (by rw [rnV_len]; rfl)] at h
              refine ops_nil ⟨⟨hS.1.trans hk64, hk64.blk' hS.2 h51⟩, fun hS => ?_⟩
              refine any_ast 16 rfl (by kernel_rfl) (by kernel_rfl) (by kernel_rfl) rfl hS ?_
              refine any_done (by kernel_rfl) ?_
              refine W_ret ?_
              refine retAT (rnV R.1.leaf v9 (.slice none 0 0) (kA bs i).1 (kA bs i).1) (_) rfl rfl rfl rfl rfl (by first | rfl | (rw [binV_len]; rfl) | (rw [dgR_len]; rfl) | (rw [refR_len]; rfl) | (rw [secR_len]; rfl) | (rw [List.length_map, tagF_len]; rfl) | (rw [rnV_len]; rfl)) (hB64.all) ?_
              refine finB _ _ hS.1 ?_
              have g60 := of_decide_eq_false g60
              refine ⟨(fun h => by cases h), fun h => absurd ?_ g60⟩
              have h1 := h.1.1; unfold okL at h1; rw [hlf, if_neg (by simp), hRb] at h1; omega
          · refine any_skip 5 rfl (by kernel_rfl) (by kernel_rfl) (by kernel_rfl) (g_no rfl rfl rfl g58) hS ?_
            refine any_skip 6 rfl (by kernel_rfl) (by kernel_rfl) (by kernel_rfl) (g_no rfl rfl rfl g58) hS ?_
            refine any_skip 7 rfl (by kernel_rfl) (by kernel_rfl) (by kernel_rfl) (g_no rfl rfl rfl g58) hS ?_
            refine any_skip 8 rfl (by kernel_rfl) (by kernel_rfl) (by kernel_rfl) (g_no rfl rfl rfl g58) hS ?_
            refine any_skip 9 rfl (by kernel_rfl) (by kernel_rfl) (by kernel_rfl) (g_no rfl rfl rfl g58) hS ?_
            refine any_run 10 (fun w' hS' => (r_pickF rfl g58)) rfl (by kernel_rfl) (by kernel_rfl) (by kernel_rfl) rfl hS ?_
            refine any_mvt 11 rfl (by kernel_rfl) (by kernel_rfl) (by kernel_rfl) rfl hS ?_
            refine any_skip 12 rfl (by kernel_rfl) (by kernel_rfl) (by kernel_rfl) (g_no rfl rfl rfl rfl) hS ?_
            refine any_skip 13 rfl (by kernel_rfl) (by kernel_rfl) (by kernel_rfl) (g_no rfl rfl rfl rfl) hS ?_
            refine any_run 14 (fun w' hS' => (r_pickF rfl rfl)) rfl (by kernel_rfl) (by kernel_rfl) (by kernel_rfl) rfl hS ?_
            refine any_one 15 (by kernel_rfl) (one_of rfl ?_)
            refine o_storeA (cs := rnV R.1.leaf v9 (.slice none 0 0) (kA bs i).1 (kA bs i).1) rfl rfl (by first | rfl | exact binV_one _ | exact dgR_one _ | exact refR_one _ | exact secR_one _ | exact all_c8 _ | exact rnV_one _ _ _ (by first | rfl | (rw [e9_]; rfl)) (by first | rfl | (rw [e29_]; rfl))) (by first | rfl | (rw [binV_len]; rfl) | (rw [dgR_len]; rfl) | (rw [refR_len]; rfl) | (rw [secR_len]; rfl) | (rw [List.length_map, tagF_len]; rfl) | (rw [rnV_len]; rfl)) (hk56.blk' ((Keep.drawn w44).blk' hB1g trivial) trivial) (by (rw [rnV_len]; exact Nat.le_refl _)) rfl ?_; intro w67 hB67 hk67 hs67
            have hB67 : Blk w67 b1 (rnV R.1.leaf v9 (.slice none 0 0) (kA bs i).1 (kA bs i).1) 48 := by
              have h := hB67
              rwa [splice_all (by rw [rnV_len]; rfl)] at h
            refine ops_nil ⟨⟨hS.1.trans hk67, hk67.blk' hS.2 h51⟩, fun hS => ?_⟩
            refine any_ast 16 rfl (by kernel_rfl) (by kernel_rfl) (by kernel_rfl) rfl hS ?_
            refine any_done (by kernel_rfl) ?_
            refine W_ret ?_
            refine retAT (rnV R.1.leaf v9 (.slice none 0 0) (kA bs i).1 (kA bs i).1) (_) rfl rfl rfl rfl rfl (by first | rfl | (rw [binV_len]; rfl) | (rw [dgR_len]; rfl) | (rw [refR_len]; rfl) | (rw [secR_len]; rfl) | (rw [List.length_map, tagF_len]; rfl) | (rw [rnV_len]; rfl)) (hB67.all) ?_
            refine finB _ _ hS.1 ?_
            have g := of_decide_eq_false g58
            refine ⟨(fun h => by cases h), fun h => absurd (done0.2 ?_) g⟩
            rw [hR2]; exact h.2
end Go.Proofs.YtigehkfdfecfoaaDoor.B
