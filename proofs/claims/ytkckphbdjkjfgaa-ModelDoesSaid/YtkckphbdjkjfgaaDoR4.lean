/-
  sporranref15.Do: Create, List, no kind.
-/
import Derived.Test.YtkckphbdjkjfgaaDoR3
namespace Go.Proofs.Ytkckphbdjkjfgaa.B
open Go
set_option linter.unusedVariables false
set_option maxHeartbeats 2000000
set_option maxRecDepth 100000
attribute [local irreducible] W OpsW OpsQ retP
def NdA (l : AL) : Prop := (l.map (·.1)).Nodup ∧ ∀ x ∈ l, (x.2.bl.map (·.1)).Nodup
theorem ti_str : tinfo Try.prog 9 = some (some (.string ⟨#[]⟩), 1, 16) := by kernel_rfl
theorem ansS_set (e : Int) (t : Bool) (b : Bk) (s s' : Value) : (ansS e t b s).set 50 s' = ansS e t b s' := by
  unfold ansS
  rw [List.set_append_right _ _ (by rw [List.length_append, blkR_len]; exact Nat.le_refl _), List.length_append, blkR_len]; rfl
/-- What Do tells. -/
def DoQR (w : World) (l : AL) (o : OpV) (r : Value) (w' : World) : Prop :=
  (∃ v' s ys', r = .tuple #[v', .agg (ansS (doD l o).1.e (doD l o).1.t (doD l o).1.b s).toArray] ∧ NamesIn w w' l o s ∧ ImgsS w' v' (imgD (doD l o).2) ys') ∧ Keep All w w'
theorem doq_same {w w' : World} {l : AL} {o : OpV} {a : Ans} {v : Value} {ys : List (Img × Value)} (hd : doD l o = (a, l)) (h8 : o.kind ≠ 8) (h : ImgsS w' v (imgD l) ys) (hk : Keep All w w') : DoQR w l o (.tuple #[v, .agg (ansR a.e a.t a.b).toArray]) w' :=
  ⟨⟨v, .slice none 0 0, ys, by rw [hd]; rfl, ⟨fun _ => rfl, fun e => absurd e h8⟩, by rw [hd]; exact h⟩, hk⟩
theorem doq_to {w w' : World} {l l' : AL} {o : OpV} {a : Ans} {v : Value} {ys : List (Img × Value)} (hd : doD l o = (a, l')) (h8 : o.kind ≠ 8) (h : ImgsS w' v (imgD l') ys) (hk : Keep All w w') : DoQR w l o (.tuple #[v, .agg (ansR a.e a.t a.b).toArray]) w' :=
  ⟨⟨v, .slice none 0 0, ys, by rw [hd]; rfl, ⟨fun _ => rfl, fun e => absurd e h8⟩, by rw [hd]; exact h⟩, hk⟩
def FindC (l : AL) (nm : List UInt8) (z : Int) : Prop := (lookP l nm = none ∧ z = -1) ∨ ∃ (v : VA) (k : Nat), lookP l nm = some v ∧ z = k ∧ (imgD l)[k]? = some ⟨nm, v.q, v.fr, blkS v.bl⟩
theorem find_case {l : AL} {nm : List UInt8} {z : Int} (hz : FindP (imgD l) nm z) : FindC l nm z := by
  cases hv : lookP l nm with
  | none => exact .inl ⟨hv, find_none hz hv⟩
  | some v =>
    obtain ⟨k, e, hk⟩ := find_some hv hz
    exact .inr ⟨v, k, hv, e, hk⟩
theorem imgD_len (l : AL) : (imgD l).length = l.length := by unfold imgD; rw [List.length_map, namesD_len]
theorem doD_1 {l : AL} {o : OpV} (h : o.kind = 1) : doD l o = (Ans.no (addE l o.name o.quota 0 0), if addE l o.name o.quota 0 0 = 0 then l ++ [(o.name, ⟨o.quota, false, []⟩)] else l) := by unfold doD; rw [if_pos h]
theorem doD_8 {l : AL} {o : OpV} (h : o.kind = 8) : doD l o = (Ans.no 0, l) := by
  unfold doD; rw [if_neg (by omega), if_neg (by omega), if_neg (by omega), if_neg (by omega), if_pos h]
theorem doD_X {l : AL} {o : OpV} (h : ¬ (1 ≤ o.kind ∧ o.kind ≤ 8)) : doD l o = (Ans.no 1, l) := by
  unfold doD; rw [if_neg (by omega), if_neg (by omega), if_neg (by omega), if_neg (by omega), if_neg (by omega)]
theorem doD_2 {l : AL} {o : OpV} (h : o.kind = 2) : doD l o = if (lookP l o.name).isSome = true then (Ans.no 0, delP l o.name) else (Ans.no 5, l) := by unfold doD; rw [if_neg (by omega), if_pos h]
theorem doD_67 {l : AL} {o : OpV} (h : o.kind = 6 ∨ o.kind = 7) : doD l o = (Ans.no (copD l o).1, (copD l o).2) := by unfold doD; rw [if_neg (by omega), if_neg (by omega), if_neg (by omega), if_pos h]
theorem rf15_Do1 (w : World) (v : Value) (l : AL) (ys : List (Img × Value)) (o : OpV) (h : ImgsS w v (imgD l) ys) (hN : NdA l) (hs : o.small) (hl : l.length ≤ 1000) (hk : o.kind = 1) :
    Ret Try.prog 19 [v, .agg (opR o).toArray].toArray w (DoQR w l o) := by
  have hnl : o.name.length ≤ 2 ^ 40 := by have := hs.1; omega
  refine enter (fn := Try.f19) (n := 306) Try.func19 rfl rfl (by simp) ?_
  refine W_seq ?_
  refine W_region ?_
  refine o_box rfl rfl rfl ?_; intro w1 b1 e1 hB1 hk1 hs1
  have hB1 : Blk w1 b1 (opR o) 26 := hB1
  refine o_asc rfl ?_
  refine o_alloc rfl rfl rfl ?_; intro w2 b2 e2 hB2 hk2 hs2
  have hB2 : Blk w2 b2 (ansR 0 false Bk.zero) 34 := hB2
  have hk02 := hk1.trans hk2
  have hB12 := hk2.blk' hB1 trivial
  refine ops_nil ?_
  refine W_seq ?_
  refine W_region ?_
  refine o_mvt rfl ?_
  refine op_run (r_fieldAddr rfl rfl rfl rfl rfl) rfl ?_
  refine op_run (r_load rfl rfl rfl (hB12.cell rfl)) rfl ?_
  refine op_call rfl rfl rfl (rf15_Find w2 v (imgD l) ys o.name (h.k hk02)) ?_; rintro v4 w4 ⟨⟨z, rfl, hz⟩, hk4⟩
  have hk04 := hk02.trans hk4
  have hB14 := hk4.blk' hB12 trivial
  have hB24 := hk4.blk' hB2 trivial
  have hb2 : w.heap.size ≤ b2 := by have := hk1.size; omega
  have hzz := find_case hz
  refine o_ast rfl ?_
  refine ops_nil ?_
  refine W_seq ?_
  refine W_seq ?_
  refine W_region ?_
  refine op_run (r_fieldAddr rfl rfl rfl rfl rfl) rfl ?_
  refine op_run (r_load rfl rfl rfl (hB14.cell rfl)) rfl ?_
  refine op_run (r_eql rfl rfl) rfl ?_
  refine ops_nil ?_
  refine W_yes rfl (decide_eq_true hk) ?_
  refine W_seq ?_
  refine W_seq ?_
  refine W_region ?_
  refine op_run (r_fieldAddr rfl rfl rfl rfl rfl) rfl ?_
  refine op_run (r_load rfl rfl rfl (hB14.cell rfl)) rfl ?_
  refine op_run (r_fieldAddr rfl rfl rfl rfl rfl) rfl ?_
  refine op_run (r_load rfl rfl rfl (hB14.cell rfl)) rfl ?_
  refine op_call rfl rfl rfl (rf15_may w4 o.name o.quota hnl) ?_; rintro v9 w9 ⟨rfl, rfl⟩
  refine op_run (r_not rfl) rfl ?_
  refine ops_nil ?_
  have hd := doD_1 (l := l) hk
  refine W_cond rfl (fun h10 => ?_) (fun h10 => ?_)
  · refine W_seq ?_
    refine W_region ?_
    refine o_mvt rfl ?_
    have hm : ¬ (namedB o.name ∧ 0 ≤ o.quota ∧ o.quota ≤ 1048576) := fun hc => by rw [decide_eq_true hc] at h10; cases h10
    have ha : addE l o.name o.quota 0 0 = 1 := by unfold addE; rw [if_pos (Classical.byContradiction fun hn => hm ⟨Classical.byContradiction fun h1 => hn (.inl h1), by omega, by omega⟩)]
    rw [ha, if_neg (by decide)] at hd
    refine op_run (r_build (ansR 1 false Bk.zero) (_) ([(0, .int .i64 1)]) rfl rfl rfl rfl rfl (rfl)) rfl ?_
    refine o_ast rfl ?_
    refine o_storeA (cs := ansR 1 false Bk.zero) rfl rfl (by first | rfl | exact binV_one _ | exact dgR_one _ | exact refR_one _ | exact secR_one _ | exact all_c8 _ | exact ansR_one _ _ _) (by first | rfl | (rw [binV_len]; rfl) | (rw [dgR_len]; rfl) | (rw [refR_len]; rfl) | (rw [secR_len]; rfl) | (rw [List.length_map, tagF_len]; rfl) | (rw [opR_len]; rfl) | (rw [ansR_len]; rfl) | (rw [blkR_len]; rfl)) hB24 (by rw [ansR_len]; decide) rfl ?_; intro w12 hB12 hk12 hs12
    refine ops_nil ?_
    refine W_ret ?_
    refine retTA (v) ((ansR 1 false Bk.zero)) rfl rfl rfl rfl rfl (by first | rfl | (rw [binV_len]; rfl) | (rw [dgR_len]; rfl) | (rw [refR_len]; rfl) | (rw [secR_len]; rfl) | (rw [List.length_map, tagF_len]; rfl) | (rw [opR_len]; rfl) | (rw [ansR_len]; rfl) | (rw [blkR_len]; rfl)) ((ans_st hB12).all) ?_
    have hkZ := hk04.new hk12 hb2
    exact doq_same hd (by omega) (h.k hkZ) hkZ
  · refine W_skip ?_
    refine W_seq ?_
    refine W_seq ?_
    refine W_region ?_
    refine o_mvt rfl ?_
    refine op_run (r_geq rfl rfl) rfl ?_
    refine ops_nil ?_
    have hm : namedB o.name ∧ 0 ≤ o.quota ∧ o.quota ≤ 1048576 := Classical.byContradiction fun hc => by rw [decide_eq_false hc] at h10; cases h10
    refine W_cond_p rfl (fun h14 => ?_) (fun h14 => ?_)
    · refine W_seq ?_
      refine W_region ?_
      refine o_mvt rfl ?_
      have hv : (lookP l o.name).isSome = true := by
        rcases hzz with ⟨_, e⟩ | ⟨vv, _, e, _⟩
        · omega
        · rw [e]; rfl
      have ha : addE l o.name o.quota 0 0 = 6 := by unfold addE; rw [if_neg (by intro hc; rcases hc with hc | hc | hc; exact hc hm.1; omega; omega), if_neg (by simp), if_pos hv]
      rw [ha, if_neg (by decide)] at hd
      refine op_run (r_build (ansR 6 false Bk.zero) (_) ([(0, .int .i64 6)]) rfl rfl rfl rfl rfl (rfl)) rfl ?_
      refine o_ast rfl ?_
      refine o_storeA (cs := ansR 6 false Bk.zero) rfl rfl (by first | rfl | exact binV_one _ | exact dgR_one _ | exact refR_one _ | exact secR_one _ | exact all_c8 _ | exact ansR_one _ _ _) (by first | rfl | (rw [binV_len]; rfl) | (rw [dgR_len]; rfl) | (rw [refR_len]; rfl) | (rw [secR_len]; rfl) | (rw [List.length_map, tagF_len]; rfl) | (rw [opR_len]; rfl) | (rw [ansR_len]; rfl) | (rw [blkR_len]; rfl)) hB24 (by rw [ansR_len]; decide) rfl ?_; intro w16 hB16 hk16 hs16
      refine ops_nil ?_
      refine W_ret ?_
      refine retTA (v) ((ansR 6 false Bk.zero)) rfl rfl rfl rfl rfl (by first | rfl | (rw [binV_len]; rfl) | (rw [dgR_len]; rfl) | (rw [refR_len]; rfl) | (rw [secR_len]; rfl) | (rw [List.length_map, tagF_len]; rfl) | (rw [opR_len]; rfl) | (rw [ansR_len]; rfl) | (rw [blkR_len]; rfl)) ((ans_st hB16).all) ?_
      have hkZ := hk04.new hk16 hb2
      exact doq_same hd (by omega) (h.k hkZ) hkZ
    · refine W_skip ?_
      refine W_seq ?_
      refine W_region ?_
      refine o_mvt rfl ?_
      refine op_run (r_fieldAddr rfl rfl rfl rfl rfl) rfl ?_
      have hno : lookP l o.name = none := by
        rcases hzz with ⟨e, _⟩ | ⟨_, _, _, e, _⟩
        · exact e
        · omega
      have ha : addE l o.name o.quota 0 0 = 0 := by unfold addE; rw [if_neg (by intro hc; rcases hc with hc | hc | hc; exact hc hm.1; omega; omega), if_neg (by simp), if_neg (by rw [hno]; simp), if_neg (by omega)]
      rw [ha, if_pos rfl] at hd
      refine op_run (r_load rfl rfl rfl (hB14.cell rfl)) rfl ?_
      refine op_run (r_fieldAddr rfl rfl rfl rfl rfl) rfl ?_
      refine op_run (r_load rfl rfl rfl (hB14.cell rfl)) rfl ?_
      refine op_run (r_build (imR (⟨o.name, o.quota, false, []⟩, .slice none 0 0)) (_) ([(0, strA o.name), (1, .int .i64 o.quota)]) rfl rfl rfl rfl rfl (rfl)) rfl ?_
      refine op_call rfl rfl rfl (rf15_add w9 v (.slice none 0 0) (imgD l) ys ⟨o.name, o.quota, false, []⟩ (h.k hk04) (Sl.nil _ _) (by rw [imgD_len]; omega)) ?_; rintro v21 w21 ⟨⟨k, ⟨hkk, hA1, hA2⟩, hI⟩, hI2, hk21⟩
      refine op_run (r_build (ansR 0 false Bk.zero) (_) ([]) rfl rfl rfl rfl rfl (rfl)) rfl ?_
      refine o_ast rfl ?_
      refine o_storeA (cs := ansR 0 false Bk.zero) rfl rfl (by first | rfl | exact binV_one _ | exact dgR_one _ | exact refR_one _ | exact secR_one _ | exact all_c8 _ | exact ansR_one _ _ _) (by first | rfl | (rw [binV_len]; rfl) | (rw [dgR_len]; rfl) | (rw [refR_len]; rfl) | (rw [secR_len]; rfl) | (rw [List.length_map, tagF_len]; rfl) | (rw [opR_len]; rfl) | (rw [ansR_len]; rfl) | (rw [blkR_len]; rfl)) (hk21.blk' hB24 trivial) (by rw [ansR_len]; decide) rfl ?_; intro w23 hB23 hk23 hs23
      refine ops_nil ?_
      refine W_ret ?_
      refine retTA (v21) ((ansR 0 false Bk.zero)) rfl rfl rfl rfl rfl (by first | rfl | (rw [binV_len]; rfl) | (rw [dgR_len]; rfl) | (rw [refR_len]; rfl) | (rw [secR_len]; rfl) | (rw [List.length_map, tagF_len]; rfl) | (rw [opR_len]; rfl) | (rw [ansR_len]; rfl) | (rw [blkR_len]; rfl)) ((ans_st hB23).all) ?_
      have hkZ := (hk04.trans hk21).new hk23 hb2
      have hlt := hB24.lt
      have hI3 := h.ins (i := ⟨o.name, o.quota, false, []⟩) (Sl.nil _ _) hkZ hkk (hI.keep hk23 (fun z hz => by have := hI2 z hz; omega))
      have hadd := imgD_add (v := ⟨o.quota, false, []⟩) hN.1 hno hkk hA1 hA2
      rw [show blkS (VA.mk o.quota false []).bl = [] by simp [blkS, sortI]] at hadd
      have hI4 : ImgsS w23 v21 (imgD (l ++ [(o.name, ⟨o.quota, false, []⟩)])) _ := hadd ▸ hI3
      exact doq_to (a := Ans.no 0) hd (by omega) hI4 hkZ
theorem imgD_name {l : AL} {k : Nat} {i : Img} (h : (imgD l)[k]? = some i) : (namesD l)[k]? = some i.nm := by
  unfold imgD at h
  rw [List.getElem?_map] at h
  cases hn : (namesD l)[k]? with
  | none => rw [hn] at h; cases h
  | some n => rw [hn] at h; have := Option.some.inj h; rw [← this, imgOf_nm]
theorem rf15_DoX (w : World) (v : Value) (l : AL) (ys : List (Img × Value)) (o : OpV) (h : ImgsS w v (imgD l) ys) (hk : ¬ (1 ≤ o.kind ∧ o.kind ≤ 8)) :
    Ret Try.prog 19 [v, .agg (opR o).toArray].toArray w (DoQR w l o) := by
  refine enter (fn := Try.f19) (n := 306) Try.func19 rfl rfl (by simp) ?_
  refine W_seq ?_
  refine W_region ?_
  refine o_box rfl rfl rfl ?_; intro w1 b1 e1 hB1 hk1 hs1
  have hB1 : Blk w1 b1 (opR o) 26 := hB1
  refine o_asc rfl ?_
  refine o_alloc rfl rfl rfl ?_; intro w2 b2 e2 hB2 hk2 hs2
  have hB2 : Blk w2 b2 (ansR 0 false Bk.zero) 34 := hB2
  have hk02 := hk1.trans hk2
  have hB12 := hk2.blk' hB1 trivial
  refine ops_nil ?_
  refine W_seq ?_
  refine W_region ?_
  refine o_mvt rfl ?_
  refine op_run (r_fieldAddr rfl rfl rfl rfl rfl) rfl ?_
  refine op_run (r_load rfl rfl rfl (hB12.cell rfl)) rfl ?_
  refine op_call rfl rfl rfl (rf15_Find w2 v (imgD l) ys o.name (h.k hk02)) ?_; rintro v4 w4 ⟨⟨z, rfl, hz⟩, hk4⟩
  have hk04 := hk02.trans hk4
  have hB14 := hk4.blk' hB12 trivial
  have hB24 := hk4.blk' hB2 trivial
  have hb2 : w.heap.size ≤ b2 := by have := hk1.size; omega
  refine o_ast rfl ?_
  refine ops_nil ?_
  refine W_seq ?_
  refine W_seq ?_
  refine W_region ?_
  refine op_run (r_fieldAddr rfl rfl rfl rfl rfl) rfl ?_
  refine op_run (r_load rfl rfl rfl (hB14.cell rfl)) rfl ?_
  refine op_run (r_eql rfl rfl) rfl ?_
  refine ops_nil ?_
  refine W_no rfl (decide_eq_false (by omega)) ?_
  refine W_skip ?_
  refine W_seq ?_
  refine W_seq ?_
  refine W_region ?_
  refine op_run (r_fieldAddr rfl rfl rfl rfl rfl) rfl ?_
  refine op_run (r_load rfl rfl rfl (hB14.cell rfl)) rfl ?_
  refine op_run (r_eql rfl rfl) rfl ?_
  refine ops_nil ?_
  refine W_no rfl (decide_eq_false (by omega)) ?_
  refine W_skip ?_
  refine W_seq ?_
  refine W_cut [73] [66, 67, 68, 69, 70, 71, 72, 73] (fun vs w46 => vs = [.bool false] ∧ w46 = w4) ?_ ?_
  · refine W_region ?_
    refine op_run (r_fieldAddr rfl rfl rfl rfl rfl) rfl ?_
    refine op_run (r_load rfl rfl rfl (hB14.cell rfl)) rfl ?_
    refine op_run (r_eql rfl rfl) rfl ?_
    refine o_mvt rfl ?_
    refine g_split rfl rfl rfl (fun g48 => ?_) (fun g => absurd g (by rw [decide_eq_false (show ¬ o.kind = 6 by omega)]; decide))
    refine op_run (r_fieldAddr rfl rfl rfl rfl rfl) (g_yes rfl rfl rfl g48) ?_
    refine op_run (r_load rfl rfl rfl (hB14.cell rfl)) (g_yes rfl rfl rfl g48) ?_
    refine op_run (r_eql rfl rfl) (g_yes rfl rfl rfl g48) ?_
    refine o_pkFt rfl g48 rfl ?_
    refine ops_nil ?_
    exact ⟨by (repeat (first | with_reducible exact offM_refl _ _ | refine offM_updc rfl ?_ | refine offM_upd rfl ?_ | refine offM_updo rfl ?_ | refine offM_updo_none ?_ | refine offM_head rfl rfl ?_)), congrArg (fun b => [Value.bool b]) (decide_eq_false (by omega)), rfl⟩
  · rintro J51 vs w51 ⟨rfl, rfl⟩ -
    refine W_no rfl (rfl) ?_
    refine W_skip ?_
    refine W_seq ?_
    refine W_cut [136] [129, 130, 131, 132, 133, 134, 135, 136] (fun vs w158 => vs = [.bool true] ∧ w158 = w51) ?_ ?_
    · refine W_region ?_
      refine op_run (r_fieldAddr rfl rfl rfl rfl rfl) rfl ?_
      refine op_run (r_load rfl rfl rfl (hB14.cell rfl)) rfl ?_
      refine op_run (r_lss rfl rfl) rfl ?_
      refine o_mvt rfl ?_
      refine g_split rfl rfl rfl (fun g160 => ?_) (fun g160 => ?_)
      · refine op_run (r_fieldAddr rfl rfl rfl rfl rfl) (g_yes rfl rfl rfl g160) ?_
        refine op_run (r_load rfl rfl rfl (hB14.cell rfl)) (g_yes rfl rfl rfl g160) ?_
        refine op_run (r_gtr rfl rfl) (g_yes rfl rfl rfl g160) ?_
        refine o_pkFt rfl g160 rfl ?_
        refine ops_nil ?_
        exact ⟨by (repeat (first | with_reducible exact offM_refl _ _ | refine offM_updc rfl ?_ | refine offM_upd rfl ?_ | refine offM_updo rfl ?_ | refine offM_updo_none ?_ | refine offM_head rfl rfl ?_)), congrArg (fun b => [Value.bool b]) (decide_eq_true (by have := of_decide_eq_false g160; omega)), rfl⟩
      · refine op_skip (g_no rfl rfl rfl g160) ?_
        refine op_skip (g_no rfl rfl rfl g160) ?_
        refine op_skip (g_no rfl rfl rfl g160) ?_
        refine o_pkTc rfl g160 rfl ?_
        refine ops_nil ?_
        exact ⟨by (repeat (first | with_reducible exact offM_refl _ _ | refine offM_updc rfl ?_ | refine offM_upd rfl ?_ | refine offM_updo rfl ?_ | refine offM_updo_none ?_ | refine offM_head rfl rfl ?_)), rfl, rfl⟩
    · rintro J164 vs w164 ⟨rfl, rfl⟩ -
      refine W_yes rfl (rfl) ?_
      refine W_seq ?_
      refine W_region ?_
      refine o_mvt rfl ?_
      refine op_run (r_build (ansR 1 false Bk.zero) (_) ([(0, .int .i64 1)]) rfl rfl rfl rfl rfl (rfl)) rfl ?_
      refine o_ast rfl ?_
      refine o_storeA (cs := ansR 1 false Bk.zero) rfl rfl (by first | rfl | exact binV_one _ | exact dgR_one _ | exact refR_one _ | exact secR_one _ | exact all_c8 _ | exact ansR_one _ _ _) (by first | rfl | (rw [binV_len]; rfl) | (rw [dgR_len]; rfl) | (rw [refR_len]; rfl) | (rw [secR_len]; rfl) | (rw [List.length_map, tagF_len]; rfl) | (rw [opR_len]; rfl) | (rw [ansR_len]; rfl) | (rw [blkR_len]; rfl)) hB24 (by rw [ansR_len]; decide) rfl ?_; intro w167 hB167 hk167 hs167
      refine ops_nil ?_
      refine W_ret ?_
      refine retTA (v) ((ansR 1 false Bk.zero)) rfl rfl rfl rfl rfl (by first | rfl | (rw [binV_len]; rfl) | (rw [dgR_len]; rfl) | (rw [refR_len]; rfl) | (rw [secR_len]; rfl) | (rw [List.length_map, tagF_len]; rfl) | (rw [opR_len]; rfl) | (rw [ansR_len]; rfl) | (rw [blkR_len]; rfl)) ((ans_st hB167).all) ?_
      have hkZ := hk04.new hk167 hb2
      exact doq_same (doD_X hk) (by omega) (h.k hkZ) hkZ
theorem rf15_Do8 (w : World) (v : Value) (l : AL) (ys : List (Img × Value)) (o : OpV) (h : ImgsS w v (imgD l) ys) (hl : l.length ≤ 1000) (hk : o.kind = 8) :
    Ret Try.prog 19 [v, .agg (opR o).toArray].toArray w (DoQR w l o) := by
  have hil := imgD_len l
  have hnl := namesD_len l
  obtain ⟨a0, c0, rfl, hc0, hca⟩ := h.o.form
  refine enter (fn := Try.f19) (n := 306) Try.func19 rfl rfl (by simp) ?_
  refine W_seq ?_
  refine W_region ?_
  refine o_box rfl rfl rfl ?_; intro w1 b1 e1 hB1 hk1 hs1
  have hB1 : Blk w1 b1 (opR o) 26 := hB1
  refine o_asc rfl ?_
  refine o_alloc rfl rfl rfl ?_; intro w2 b2 e2 hB2 hk2 hs2
  have hB2 : Blk w2 b2 (ansR 0 false Bk.zero) 34 := hB2
  have hk02 := hk1.trans hk2
  have hB12 := hk2.blk' hB1 trivial
  refine ops_nil ?_
  refine W_seq ?_
  refine W_region ?_
  refine o_mvt rfl ?_
  refine op_run (r_fieldAddr rfl rfl rfl rfl rfl) rfl ?_
  refine op_run (r_load rfl rfl rfl (hB12.cell rfl)) rfl ?_
  refine op_call rfl rfl rfl (rf15_Find w2 _ (imgD l) ys o.name (h.k hk02)) ?_; rintro v4 w4 ⟨⟨z, rfl, hz⟩, hk4⟩
  have hk04 := hk02.trans hk4
  have hB14 := hk4.blk' hB12 trivial
  have hB24 := hk4.blk' hB2 trivial
  have hb2 : w.heap.size ≤ b2 := by have := hk1.size; omega
  refine o_ast rfl ?_
  refine ops_nil ?_
  refine W_seq ?_
  refine W_seq ?_
  refine W_region ?_
  refine op_run (r_fieldAddr rfl rfl rfl rfl rfl) rfl ?_
  refine op_run (r_load rfl rfl rfl (hB14.cell rfl)) rfl ?_
  refine op_run (r_eql rfl rfl) rfl ?_
  refine ops_nil ?_
  refine W_no rfl (decide_eq_false (by omega)) ?_
  refine W_skip ?_
  refine W_seq ?_
  refine W_seq ?_
  refine W_region ?_
  refine op_run (r_fieldAddr rfl rfl rfl rfl rfl) rfl ?_
  refine op_run (r_load rfl rfl rfl (hB14.cell rfl)) rfl ?_
  refine op_run (r_eql rfl rfl) rfl ?_
  refine ops_nil ?_
  refine W_yes rfl (decide_eq_true hk) ?_
  refine W_seq ?_
  refine W_region ?_
  refine op_run (r_build (ansR 0 false Bk.zero) (_) ([]) rfl rfl rfl rfl rfl (rfl)) rfl ?_
  refine o_alloc rfl rfl rfl ?_; intro w28 b28 e28 hB28 hk28 hs28
  have hB28' : Blk w28 b28 (ansR 0 false Bk.zero) 34 := hB28
  refine o_storeA (cs := ansR 0 false Bk.zero) rfl rfl (by first | rfl | exact binV_one _ | exact dgR_one _ | exact refR_one _ | exact secR_one _ | exact all_c8 _ | exact ansR_one _ _ _ | exact ansS_one (by assumption)) (by first | rfl | (rw [binV_len]; rfl) | (rw [dgR_len]; rfl) | (rw [refR_len]; rfl) | (rw [secR_len]; rfl) | (rw [List.length_map, tagF_len]; rfl) | (rw [opR_len]; rfl) | (rw [ansR_len]; rfl) | (rw [ansS_len]; rfl) | (rw [blkR_len]; rfl)) hB28' (by rw [ansR_len]; decide) rfl ?_; intro w29 hB29 hk29 hs29
  have hB29' : Blk w29 b28 (ansS 0 false Bk.zero (.slice none 0 0)) 34 := ans_st hB29
  have hk029 := (hk04.trans hk28).new hk29 (by have := hk04.size; omega)
  have hlt2 := hB24.lt
  have hB229 := hk29.blk' (hk28.blk' hB24 trivial) (show b2 ≠ b28 by omega)
  refine ops_nil ?_
  refine W_seq ?_
  refine W_seq ?_
  refine W_region ?_
  refine o_asc rfl ?_
  refine ops_nil ?_
  refine W_block ?_
  refine W_loop [8] [8, 48, 49, 50, 51, 52, 53, 54, 55, 56, 57, 58, 59, 60, 61, 62, 63] (fun vs w' => ∃ (k : Nat) (u : Value), vs = [.int .i64 k] ∧ k ≤ l.length ∧ Blk w' b28 (ansS 0 false Bk.zero u) 34 ∧ Own w' 9 1 u k (((namesD l).take k).map strA) ∧ InB (fun z => w29.heap.size ≤ z) u ∧ Keep (fun z => z ≠ b28) w29 w') (fun vs _ => match vs with | [.int _ y] => l.length - y.toNat | _ => 0) ⟨0, .slice none 0 0, rfl, Nat.zero_le _, hB29', own_nil _ _ _, InB.nil, Keep.refl _⟩ ?_
  rintro J30 vs w30 ⟨k, u, rfl, hk', hBu, hOu, hIu, hkw⟩ -
  refine W_seq ?_
  refine W_seq ?_
  refine W_region ?_
  refine o_mvt rfl ?_
  refine o_mvt rfl ?_
  refine op_run (r_len rfl rfl rfl) rfl ?_
  refine op_run (r_lss rfl rfl) rfl ?_
  refine ops_nil ?_
  refine W_cond_p rfl (fun h31 => ?_) (fun h31 => ?_)
  · refine W_skip ?_
    refine W_seq ?_
    refine W_block ?_
    have hkl : k < l.length := by omega
    obtain ⟨i, xa, ba, oa, ca, _, hia, ea, hcxa, hsa⟩ := h.at (show k < (imgD l).length by omega)
    cases ea
    have hinc := inc64' k (by omega)
    have hnk := imgD_name hia
    have hl28 := hB29'.lt
    have hne : some b28 ≠ u.ownBlock := fun e => by have := hIu b28 e.symm; omega
    have hk030 : Keep All w w30 := hk029.new hkw (by have := hk04.size; omega)
    have hz29 := hk029.size
    have hzw := hkw.size
    have hba : some ba ≠ u.ownBlock := fun e => by
      have h1 := hIu ba e.symm
      have h2 := World.block_lt_of_cell? w _ (hcxa 0 _ rfl)
      have h2 : ba < w.heap.size := h2
      omega
    refine W_gate 10 (fun w' => Keep (fun z => some z ≠ u.ownBlock) w30 w') (by kernel_rfl) ((Keep.drawn w30).all) (fun hS => ?_)
    refine gt_run 0 (fun w' hS' => (r_fieldAddr rfl rfl rfl rfl rfl)) rfl (by kernel_rfl) (by kernel_rfl) (by kernel_rfl) (by kernel_rfl) rfl hS ?_
    refine gt_run 1 (fun w' hS' => (r_load rfl rfl rfl (((hS'.blk' hBu hne).cell (ansS_names _ _ _ _))))) rfl (by kernel_rfl) (by kernel_rfl) (by kernel_rfl) (by kernel_rfl) rfl hS ?_
    refine gt_mvt 2 rfl (by kernel_rfl) (by kernel_rfl) (by kernel_rfl) (by kernel_rfl) rfl hS ?_
    refine gt_mvt 3 rfl (by kernel_rfl) (by kernel_rfl) (by kernel_rfl) (by kernel_rfl) rfl hS ?_
    refine gt_run 4 (fun w' hS' => (r_idxS rfl rfl rfl rfl (by omega) (by omega))) rfl (by kernel_rfl) (by kernel_rfl) (by kernel_rfl) (by kernel_rfl) rfl hS ?_
    refine gt_run 5 (fun w' hS' => (r_fieldAddr rfl rfl rfl rfl rfl)) rfl (by kernel_rfl) (by kernel_rfl) (by kernel_rfl) (by kernel_rfl) rfl hS ?_
    refine gt_run 6 (fun w' hS' => (r_load rfl rfl rfl ((by rw [Int.toNat_natCast]; exact hS'.cell (hk030.cell (hcxa 0 _ rfl) trivial) hba)))) rfl (by kernel_rfl) (by kernel_rfl) (by kernel_rfl) (by kernel_rfl) rfl hS ?_
    refine gt_one 7 (by kernel_rfl) (one_of rfl ?_)
    refine o_bs1 (v := strA i.nm) rfl rfl rfl rfl rfl rfl ?_; intro w36 b36 e36 hB36 hk36 hs36
    refine ops_nil ⟨(hS.trans hk36.all), fun hS => ?_⟩
    refine gt_one 8 (by kernel_rfl) (one_of rfl ?_)
    refine o_app1 (v := u) rfl rfl hB36 rfl rfl ti_str rfl (hOu.keep ((Keep.drawn w30).trans hk36) (fun _ _ => trivial)) (by unfold maxLen; omega) (by omega) rfl ?_; intro v38 w38 hown38 hk38 hb38
    refine ops_nil ⟨(hS.trans hk38), fun hS => ?_⟩
    obtain ⟨va, vc, ev, _, _⟩ := hown38.form
    subst ev
    have hBu38 := hS.blk' hBu hne
    refine gt_run 9 (fun w' hS' => (r_fieldAddr rfl rfl rfl rfl rfl)) rfl (by kernel_rfl) (by kernel_rfl) (by kernel_rfl) (by kernel_rfl) rfl hS ?_
    refine gt_past 10 (by kernel_rfl) (by kernel_rfl) (one_of rfl ?_)
    refine o_store (v := .slice va (k + 1) vc) rfl rfl rfl rfl hBu38 (by rw [ansS_len]; decide) rfl ?_; intro w40 hB40 hk40 hs40
    refine ops_nil ?_
    refine gt_done (by kernel_rfl) ?_
    refine W_region ?_
    refine o_mvt rfl ?_
    refine op_run (r_add rfl rfl) rfl ?_
    refine o_ast rfl ?_
    refine ops_nil ?_
    have hzS := hS.size
    have hkw38 : Keep (fun z => z ≠ b28) w29 w38 := hkw.own hS (fun z hz _ => hIu z hz)
    have hz36 := ((Keep.drawn w30).trans hk36).size
    refine ⟨by (repeat (first | with_reducible exact offM_refl _ _ | refine offM_updc rfl ?_ | refine offM_upd rfl ?_ | refine offM_updo rfl ?_ | refine offM_updo_none ?_ | refine offM_head rfl rfl ?_)), ⟨k + 1, .slice va (k + 1) vc, congrArg (fun z : Int => [Value.int .i64 z]) hinc, by omega, ?_, ?_, ?_, hkw38.trans hk40⟩, ?_⟩
    · have e : (ansS 0 false Bk.zero u).set 50 (.slice va (k + 1) vc) = ansS 0 false Bk.zero (.slice va (k + 1) vc) := ansS_set _ _ _ _ _
      rw [← e]; exact hB40
    · have e : ((namesD l).take (k + 1)).map strA = ((namesD l).take k).map strA ++ [strA i.nm] := by
        rw [List.take_succ_eq_append_getElem (by omega), (List.getElem?_eq_some_iff.1 hnk).2, List.map_append]; rfl
      rw [e]
      exact hown38.keep hk40 (fun z hz => by
        rcases hb38 z hz with h | h
        · have := hIu z h; omega
        · omega)
    · intro z hz
      rcases hb38 z hz with h | h
      · exact hIu z h
      · omega
    · show l.length - (IntKind.i64.wrap ((k : Int) + 1)).toNat < l.length - (k : Int).toNat
      rw [hinc]; omega
  · refine W_exit ?_
    refine W_seq ?_
    have hke : k = l.length := by omega
    rw [hke, ← hnl, List.take_length] at hOu
    have hu1 : one u = true := own_one hOu
    have hl28 := hB29'.lt
    refine W_tail 3 (by kernel_rfl) (by kernel_rfl) ?_; intro w42 hk42 hs42
    refine q_mvt rfl ?_
    refine q_run (still1 (r_loadA (ansS 0 false Bk.zero u) rfl rfl rfl (by first | rfl | (rw [binV_len]; rfl) | (rw [dgR_len]; rfl) | (rw [refR_len]; rfl) | (rw [secR_len]; rfl) | (rw [List.length_map, tagF_len]; rfl) | (rw [opR_len]; rfl) | (rw [ansR_len]; rfl) | (rw [ansS_len]; rfl) | (rw [blkR_len]; rfl)) ((hk42.blk' hBu trivial).all))) rfl ?_
    refine q_ast rfl ?_
    refine q_nil ?_
    refine o_storeA (cs := ansS 0 false Bk.zero u) rfl rfl (by first | rfl | exact binV_one _ | exact dgR_one _ | exact refR_one _ | exact secR_one _ | exact all_c8 _ | exact ansR_one _ _ _ | exact ansS_one (by assumption)) (by first | rfl | (rw [binV_len]; rfl) | (rw [dgR_len]; rfl) | (rw [refR_len]; rfl) | (rw [secR_len]; rfl) | (rw [List.length_map, tagF_len]; rfl) | (rw [opR_len]; rfl) | (rw [ansR_len]; rfl) | (rw [ansS_len]; rfl) | (rw [blkR_len]; rfl)) (hk42.blk' (hkw.blk' hB229 (show b2 ≠ b28 by omega)) trivial) (by rw [ansR_len, ansS_len]; decide) rfl ?_; intro w44 hB44 hk44 hs44
    refine ops_nil ?_
    refine W_ret ?_
    refine retTA ((.slice a0 (imgD l).length c0)) ((ansS 0 false Bk.zero u)) rfl rfl rfl rfl rfl (by first | rfl | (rw [binV_len]; rfl) | (rw [dgR_len]; rfl) | (rw [refR_len]; rfl) | (rw [secR_len]; rfl) | (rw [List.length_map, tagF_len]; rfl) | (rw [opR_len]; rfl) | (rw [ansR_len]; rfl) | (rw [ansS_len]; rfl) | (rw [blkR_len]; rfl)) ((ans_stS hB44).all) ?_
    have hkZ : Keep All w w44 := ((hk029.new hkw (by have := hk04.size; omega)).trans hk42).new hk44 hb2
    refine ⟨⟨_, u, ys, by rw [doD_8 hk]; rfl, ⟨fun e => absurd hk e, fun _ => ⟨?_, hIu.mono fun z hz => Nat.le_trans hk029.size hz⟩⟩, by rw [doD_8 hk]; exact h.k hkZ⟩, hkZ⟩
    rw [hnl] at hOu
    have h1 := hOu.sl
    exact h1.keep (hk42.all.trans hk44) (fun z hz => by have := hIu z hz; omega)
end Go.Proofs.Ytkckphbdjkjfgaa.B
