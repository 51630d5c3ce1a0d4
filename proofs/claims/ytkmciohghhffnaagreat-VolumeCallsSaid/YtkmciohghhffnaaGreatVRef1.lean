/-
  sporranref12: quota, Without, Create, Copy, Get.
-/
import Derived.Test.YtkmciohghhffnaaGreatVDoB
namespace Go.Proofs.YtkmciohghhffnaaGreat.B
open Go
set_option linter.unusedVariables false
set_option maxHeartbeats 2000000
set_option maxRecDepth 100000
attribute [local irreducible] W OpsW OpsQ retP
theorem rf12_quota (w : World) (q : Int) : Ret Tryz.prog 48 [.int .i64 q].toArray w fun r w' => r = .bool (decide (0 ≤ q ∧ q ≤ 1048576)) ∧ w' = w := by
  refine enter (fn := Tryz.f48) (n := 9) Tryz.func48 rfl rfl (by simp) ?_
  refine W_seq ?_
  refine W_region ?_
  refine o_asc rfl ?_
  refine ops_nil ?_
  refine W_seq ?_
  refine W_region ?_
  refine o_mvt rfl ?_
  refine op_run (r_geq rfl rfl) rfl ?_
  refine o_mvt rfl ?_
  refine g_split rfl rfl rfl (fun g1 => ?_) (fun g1 => ?_)
  · refine o_mvt (g_yes rfl rfl rfl g1) ?_
    refine op_run (r_leq rfl rfl) (g_yes rfl rfl rfl g1) ?_
    refine o_pkTt rfl g1 rfl ?_
    refine o_ast rfl ?_
    refine ops_nil ?_
    refine W_ret ?_
    refine ret1 (.bool (decide (q ≤ 1048576))) rfl ?_ ?_; rfl
    have g1 := of_decide_eq_true g1
    exact ⟨congrArg Value.bool (by rw [decide_eq_decide]; exact ⟨fun h => ⟨g1, h⟩, fun h => h.2⟩), rfl⟩
  · refine op_skip (g_no rfl rfl rfl g1) ?_
    refine op_skip (g_no rfl rfl rfl g1) ?_
    refine o_pkFc rfl g1 rfl ?_
    refine o_ast rfl ?_
    refine ops_nil ?_
    refine W_ret ?_
    refine ret1 (.bool false) rfl ?_ ?_; rfl
    have g1 := of_decide_eq_false g1
    exact ⟨congrArg Value.bool (decide_eq_false fun h => g1 h.1).symm, rfl⟩
theorem rf12_Without (w : World) (v : Value) (L : List Img) (ys : List (Img × Value)) (k : Nat) (h : ImgsS w v L ys) (hL : L.length ≤ 1000000) (hkl : k < L.length) : Ret Tryz.prog 27 [v, .int .i64 k].toArray w fun r w' => ImgsS w' r (L.take k ++ L.drop (k + 1)) (ys.take k ++ ys.drop (k + 1)) ∧ Keep All w w' := by
  obtain ⟨a0, c0, rfl, hc0, hca⟩ := h.o.form
  have hinc := inc64' k (by omega)
  refine enter (fn := Tryz.f27) (n := 15) Tryz.func27 rfl rfl (by simp) ?_
  refine W_seq ?_
  refine W_region ?_
  refine o_asc rfl ?_
  refine ops_nil ?_
  refine W_seq ?_
  refine W_held (fun w' => Keep All w w') (by kernel_rfl) (Keep.drawn _) (fun hS => ?_)
  refine any_mvt 1 rfl (by kernel_rfl) (by kernel_rfl) (by kernel_rfl) rfl hS ?_
  refine any_mvt 2 rfl (by kernel_rfl) (by kernel_rfl) (by kernel_rfl) rfl hS ?_
  refine any_run 3 (fun w' hS' => (r_sliceS_hi rfl rfl rfl rfl (by omega) (by omega))) rfl (by kernel_rfl) (by kernel_rfl) (by kernel_rfl) rfl hS ?_
  refine any_mvt 5 rfl (by kernel_rfl) (by kernel_rfl) (by kernel_rfl) rfl hS ?_
  refine any_mvt 6 rfl (by kernel_rfl) (by kernel_rfl) (by kernel_rfl) rfl hS ?_
  refine any_run 7 (fun w' hS' => (r_add rfl rfl)) rfl (by kernel_rfl) (by kernel_rfl) (by kernel_rfl) rfl hS ?_
  refine any_run 8 (fun w' hS' => ((r_sliceS_lo rfl rfl rfl rfl (by rw [hinc]; omega) (by rw [hinc]; omega)).val ((show subSl a0 4 (IntKind.i64.wrap ((k : Int) + 1)).toNat L.length c0 = subSl a0 4 (k + 1) L.length c0 by rw [hinc]; rfl)))) rfl (by kernel_rfl) (by kernel_rfl) (by kernel_rfl) rfl hS ?_
  refine any_one 0 (by kernel_rfl) (one_of rfl ?_)
  refine o_bs0 rfl rfl rfl ?_; intro w4 b4 e4 hB4 hk4 hs4
  have hB4e : Own w4 69 4 (.slice (some ⟨b4, 0, none⟩) 0 0) 0 [] := Own.blk hB4 rfl (Nat.zero_le _)
  have hz : w.heap.size ≤ b4 := Nat.le_of_eq e4.symm
  refine ops_nil ⟨(hS.trans hk4), fun hS => ?_⟩
  refine any_one 4 (by kernel_rfl) (one_of rfl ?_)
  refine o_appS (v := .slice (some ⟨b4, 0, none⟩) 0 0) rfl rfl ((h.k hS).takeS (Nat.le_of_lt hkl)) rfl ti_im rfl rfl hB4e (rowsIm_one fun y hy => imgs_ones h y (List.mem_of_mem_take hy)) (by unfold maxLen; omega) (by omega) rfl ?_; intro v6 w6 hown6 hk6 hb6
  have hb6' : InB (fun z => w.heap.size ≤ z) v6 := hb6.mono fun z hz' => by
    rcases hz' with h | h
    · have h : some b4 = some z := h; injection h with h; omega
    · have := hs4; omega
  refine ops_nil ⟨(hS.own hk6 (fun z hz' _ => by have hz' : some b4 = some z := hz'; injection hz' with hz'; omega)), fun hS => ?_⟩
  refine any_one 9 (by kernel_rfl) (one_of rfl ?_)
  refine o_appS (v := v6) rfl rfl ((h.k hS).dropS (show k + 1 ≤ L.length from hkl)) rfl ti_im rfl rfl hown6 (rowsIm_one fun y hy => imgs_ones h y (List.mem_of_mem_drop hy)) (by unfold maxLen; omega) (by omega) rfl ?_; intro v8 w8 hown8 hk8 hb8
  refine ops_nil ⟨(hS.own hk8 (fun z hz' _ => by have := hb6' z hz'; omega)), fun hS => ?_⟩
  refine any_ast 10 rfl (by kernel_rfl) (by kernel_rfl) (by kernel_rfl) rfl hS ?_
  refine any_done (by kernel_rfl) ?_
  refine W_ret ?_
  refine ret1 v8 rfl ?_ ?_; rfl
  have hr : Sl w8 v8 (0 + k + (L.length - (k + 1))) 4 ([] ++ rows imR (ys.take k) ++ rows imR (ys.drop (k + 1))) := hown8.sl
  have e1 : 0 + k + (L.length - (k + 1)) = L.length - 1 := by omega
  rw [e1, List.nil_append] at hr
  exact ⟨h.cut hS hkl hr, hS⟩
theorem rf12_Create (w : World) (v : Value) (l : AL) (ys : List (Img × Value)) (nm : List UInt8) (q : Int) (h : ImgsS w v (imgD l) ys) (hN : NdA l) (hs : nm.length ≤ 2 ^ 40) (hl : l.length ≤ 1000) : Ret Tryz.prog 22 [v, strA nm, .int .i64 q].toArray w fun r w' => (∃ v' ys', r = .tuple #[v', .int .i64 (creE l nm q)] ∧ ImgsS w' v' (imgD (creL l nm q)) ys') ∧ Keep All w w' := by
  have hil := imgD_len l
  refine enter (fn := Tryz.f22) (n := 27) Tryz.func22 rfl rfl (by simp) ?_
  refine W_seq ?_
  refine W_region ?_
  refine o_asc rfl ?_
  refine o_asc rfl ?_
  refine ops_nil ?_
  refine W_seq ?_
  refine W_cut [15] [8, 9, 10, 11, 12, 13, 14, 15] (fun vs w1 => vs = [.bool (decide (¬ mayQ nm q))] ∧ w1 = w) ?_ ?_
  · refine W_region ?_
    refine o_mvt rfl ?_
    refine op_call rfl rfl rfl (rf12_Named w nm hs) ?_; rintro v2 w2 ⟨rfl, rfl⟩
    refine op_run (r_not rfl) rfl ?_
    refine o_mvt rfl ?_
    refine g_split rfl rfl rfl (fun g3 => ?_) (fun g3 => ?_)
    · refine o_mvt (g_yes rfl rfl rfl (by rw [g3] <;> rfl)) ?_
      refine op_call rfl rfl (g_yes rfl rfl rfl (by rw [g3] <;> rfl)) (rf12_quota w2 q) ?_; rintro v4 w4 ⟨rfl, rfl⟩
      refine op_run (r_not rfl) (g_yes rfl rfl rfl (by rw [g3] <;> rfl)) ?_
      refine o_pkFt rfl (by rw [g3] <;> rfl) rfl ?_
      refine ops_nil ?_
      exact ⟨by (repeat (first | with_reducible exact offM_refl _ _ | refine offM_updc rfl ?_ | refine offM_upd rfl ?_ | refine offM_updo rfl ?_ | refine offM_updo_none ?_ | refine offM_head rfl rfl ?_)), congrArg (fun b => [Value.bool b]) (by have g := of_decide_eq_true (by simpa using g3); show (!decide _) = _; rw [← decide_not, decide_eq_decide]; unfold mayQ; exact ⟨fun h hh => h hh.2, fun h hh => h ⟨g, hh⟩⟩), rfl⟩
    · refine op_skip (g_no rfl rfl rfl (by rw [g3] <;> rfl)) ?_
      refine op_skip (g_no rfl rfl rfl (by rw [g3] <;> rfl)) ?_
      refine op_skip (g_no rfl rfl rfl (by rw [g3] <;> rfl)) ?_
      refine o_pkTc rfl (by rw [g3] <;> rfl) rfl ?_
      refine ops_nil ?_
      exact ⟨by (repeat (first | with_reducible exact offM_refl _ _ | refine offM_updc rfl ?_ | refine offM_upd rfl ?_ | refine offM_updo rfl ?_ | refine offM_updo_none ?_ | refine offM_head rfl rfl ?_)), congrArg (fun b => [Value.bool b]) (by have g : ¬ namedB nm := (by simpa using g3); symm; apply decide_eq_true; unfold mayQ; exact fun hh => g hh.1), rfl⟩
  · rintro J7 vs w7 ⟨rfl, rfl⟩ -
    refine W_cond rfl (fun h8 => ?_) (fun h8 => ?_)
    · refine W_seq ?_
      refine W_region ?_
      refine o_mvt rfl ?_
      refine o_ast rfl ?_
      refine o_asc rfl ?_
      refine ops_nil ?_
      refine W_ret ?_
      refine ret2 v (.int .i64 1) rfl ?_ ?_ ?_; rfl; rfl
      have hm : ¬ mayQ nm q := of_decide_eq_true h8
      have e : creE l nm q = 1 := if_pos hm
      exact ⟨⟨v, ys, by rw [e], by unfold creL; rw [e, if_neg (by decide)]; exact h⟩, Keep.refl _⟩
    · refine W_skip ?_
      refine W_seq ?_
      refine W_seq ?_
      refine W_region ?_
      refine o_mvt rfl ?_
      refine o_mvt rfl ?_
      have hm : mayQ nm q := Classical.byContradiction fun hh => of_decide_eq_false h8 hh
      refine op_call rfl rfl rfl (rf12_Find w7 v (imgD l) ys nm h) ?_; rintro v10 w10 ⟨⟨z, rfl, hz⟩, hk10⟩
      have hzz := find_case hz
      refine op_run (r_geq rfl rfl) rfl ?_
      refine ops_nil ?_
      refine W_cond_p rfl (fun h11 => ?_) (fun h11 => ?_)
      · refine W_seq ?_
        refine W_region ?_
        refine o_mvt rfl ?_
        refine o_ast rfl ?_
        refine o_asc rfl ?_
        refine ops_nil ?_
        refine W_ret ?_
        refine ret2 v (.int .i64 6) rfl ?_ ?_ ?_; rfl; rfl
        have hv : (lookP l nm).isSome = true := by
          rcases hzz with ⟨_, e⟩ | ⟨vv, _, e, _⟩
          · omega
          · rw [e]; rfl
        have e : creE l nm q = 6 := by unfold creE; rw [if_neg (fun hn => hn hm), if_pos hv]
        exact ⟨⟨v, ys, by rw [e], by unfold creL; rw [e, if_neg (by decide)]; exact h.k hk10⟩, hk10⟩
      · refine W_skip ?_
        refine W_seq ?_
        refine W_region ?_
        refine o_mvt rfl ?_
        refine o_mvt rfl ?_
        refine o_mvt rfl ?_
        have hno : lookP l nm = none := by
          rcases hzz with ⟨e, _⟩ | ⟨_, _, _, e, _⟩
          · exact e
          · omega
        refine op_run (r_build (imR (⟨nm, q, false, []⟩, .slice none 0 0)) (_) ([(0, strA nm), (1, .int .i64 q)]) rfl rfl rfl rfl rfl (rfl)) rfl ?_
        refine op_call rfl rfl rfl (rf12_Add w10 v (.slice none 0 0) (imgD l) ys ⟨nm, q, false, []⟩ (h.k hk10) (Sl.nil _ _) (by rw [imgD_len]; omega)) ?_; rintro v14 w14 ⟨⟨k, ⟨hkk, hA1, hA2⟩, hI⟩, hI2, hk14⟩
        refine o_ast rfl ?_
        refine o_asc rfl ?_
        refine ops_nil ?_
        refine W_ret ?_
        refine ret2 v14 (.int .i64 0) rfl ?_ ?_ ?_; rfl; rfl
        have e : creE l nm q = 0 := by unfold creE; rw [if_neg (fun hn => hn hm), hno]; rfl
        have hkZ := hk10.trans hk14
        have hI3 := h.ins (i := ⟨nm, q, false, []⟩) (Sl.nil _ _) hkZ hkk hI
        have hadd := imgD_add (v := ⟨q, false, []⟩) hN.1 hno hkk hA1 hA2
        rw [show blkS (VA.mk q false []).bl = [] by simp [blkS, sortI]] at hadd
        have hI4 : ImgsS w14 v14 (imgD (l ++ [(nm, ⟨q, false, []⟩)])) _ := hadd ▸ hI3
        exact ⟨⟨v14, _, by rw [e], by unfold creL; rw [e, if_pos rfl]; exact hI4⟩, hkZ⟩
theorem rf12_Copy (w : World) (v : Value) (l : AL) (ys : List (Img × Value)) (nm other : List UInt8) (q : Int) (fr : Bool) (h : ImgsS w v (imgD l) ys) (hN : NdA l) (hs : other.length ≤ 2 ^ 40) (hl : l.length ≤ 1000) (hbk : BlkN 1000 l) : Ret Tryz.prog 23 [v, strA nm, strA other, .int .i64 q, .bool fr].toArray w fun r w' => (∃ v' ys', r = .tuple #[v', .int .i64 (copE l nm other q)] ∧ ImgsS w' v' (imgD (copL l nm other q fr)) ys') ∧ Keep All w w' := by
  have hil := imgD_len l
  refine enter (fn := Tryz.f23) (n := 55) Tryz.func23 rfl rfl (by simp) ?_
  refine W_seq ?_
  refine W_region ?_
  refine o_asc rfl ?_
  refine o_asc rfl ?_
  refine ops_nil ?_
  refine W_seq ?_
  refine W_cut [20] [13, 14, 15, 16, 17, 18, 19, 20] (fun vs w1 => vs = [.bool (decide (¬ mayQ other q))] ∧ w1 = w) ?_ ?_
  · refine W_region ?_
    refine o_mvt rfl ?_
    refine op_call rfl rfl rfl (rf12_Named w other hs) ?_; rintro v2 w2 ⟨rfl, rfl⟩
    refine op_run (r_not rfl) rfl ?_
    refine o_mvt rfl ?_
    refine g_split rfl rfl rfl (fun g3 => ?_) (fun g3 => ?_)
    · refine o_mvt (g_yes rfl rfl rfl (by rw [g3] <;> rfl)) ?_
      refine op_call rfl rfl (g_yes rfl rfl rfl (by rw [g3] <;> rfl)) (rf12_quota w2 q) ?_; rintro v4 w4 ⟨rfl, rfl⟩
      refine op_run (r_not rfl) (g_yes rfl rfl rfl (by rw [g3] <;> rfl)) ?_
      refine o_pkFt rfl (by rw [g3] <;> rfl) rfl ?_
      refine ops_nil ?_
      exact ⟨by (repeat (first | with_reducible exact offM_refl _ _ | refine offM_updc rfl ?_ | refine offM_upd rfl ?_ | refine offM_updo rfl ?_ | refine offM_updo_none ?_ | refine offM_head rfl rfl ?_)), congrArg (fun b => [Value.bool b]) (by have g := of_decide_eq_true (by simpa using g3); show (!decide _) = _; rw [← decide_not, decide_eq_decide]; unfold mayQ; exact ⟨fun h hh => h hh.2, fun h hh => h ⟨g, hh⟩⟩), rfl⟩
    · refine op_skip (g_no rfl rfl rfl (by rw [g3] <;> rfl)) ?_
      refine op_skip (g_no rfl rfl rfl (by rw [g3] <;> rfl)) ?_
      refine op_skip (g_no rfl rfl rfl (by rw [g3] <;> rfl)) ?_
      refine o_pkTc rfl (by rw [g3] <;> rfl) rfl ?_
      refine ops_nil ?_
      exact ⟨by (repeat (first | with_reducible exact offM_refl _ _ | refine offM_updc rfl ?_ | refine offM_upd rfl ?_ | refine offM_updo rfl ?_ | refine offM_updo_none ?_ | refine offM_head rfl rfl ?_)), congrArg (fun b => [Value.bool b]) (by have g : ¬ namedB other := (by simpa using g3); symm; apply decide_eq_true; unfold mayQ; exact fun hh => g hh.1), rfl⟩
  · rintro J7 vs w7 ⟨rfl, rfl⟩ -
    refine W_cond rfl (fun h8 => ?_) (fun h8 => ?_)
    · refine W_seq ?_
      refine W_region ?_
      refine o_mvt rfl ?_
      refine o_ast rfl ?_
      refine o_asc rfl ?_
      refine ops_nil ?_
      refine W_ret ?_
      refine ret2 v (.int .i64 1) rfl ?_ ?_ ?_; rfl; rfl
      have hm : ¬ mayQ other q := of_decide_eq_true h8
      have e : copE l nm other q = 1 := if_pos hm
      exact ⟨⟨v, ys, by rw [e], by rw [copL_err (by rw [e]; decide)]; exact h⟩, Keep.refl _⟩
    · refine W_skip ?_
      refine W_seq ?_
      refine W_region ?_
      refine o_mvt rfl ?_
      refine o_mvt rfl ?_
      have hm : mayQ other q := Classical.byContradiction fun hh => of_decide_eq_false h8 hh
      refine op_call rfl rfl rfl (rf12_Find w7 v (imgD l) ys nm h) ?_; rintro v10 w10 ⟨⟨z, rfl, hz⟩, hk10⟩
      have hzz := find_case hz
      refine o_ast rfl ?_
      refine ops_nil ?_
      refine W_seq ?_
      refine W_seq ?_
      refine W_region ?_
      refine o_mvt rfl ?_
      refine op_run (r_lss rfl rfl) rfl ?_
      refine ops_nil ?_
      refine W_cond_p rfl (fun h11 => ?_) (fun h11 => ?_)
      · refine W_seq ?_
        refine W_region ?_
        refine o_mvt rfl ?_
        refine o_ast rfl ?_
        refine o_asc rfl ?_
        refine ops_nil ?_
        refine W_ret ?_
        refine ret2 v (.int .i64 5) rfl ?_ ?_ ?_; rfl; rfl
        have hn : lookP l nm = none := by
          rcases hzz with ⟨e, _⟩ | ⟨_, _, _, e, _⟩
          · exact e
          · omega
        have e : copE l nm other q = 5 := by unfold copE; rw [if_neg (fun hn => hn hm), hn]
        exact ⟨⟨v, ys, by rw [e], by rw [copL_err (by rw [e]; decide)]; exact h.k hk10⟩, hk10⟩
      · refine W_skip ?_
        refine W_seq ?_
        refine W_seq ?_
        refine W_region ?_
        refine o_mvt rfl ?_
        refine o_mvt rfl ?_
        obtain ⟨vv, ki, hv, rfl, hki⟩ : ∃ (v : VA) (k : Nat), lookP l nm = some v ∧ z = k ∧ (imgD l)[k]? = some ⟨nm, v.q, v.fr, blkS v.bl⟩ := by
          rcases hzz with ⟨_, e⟩ | hh
          · omega
          · exact hh
        have hE := copE_some (l := l) (nm := nm) hm hv
        have hkil := (List.getElem?_eq_some_iff.1 hki).1
        obtain ⟨i0, x0, bi, oi, ci, _, hi0, ei0, hci, hbi⟩ := h.at hkil
        rw [hki] at hi0
        cases hi0
        subst ei0
        refine op_call rfl rfl rfl (rf12_Find w10 _ (imgD l) ys other (h.k hk10)) ?_; rintro v13 w13 ⟨⟨z2, rfl, hz2⟩, hk13⟩
        have hzz2 := find_case hz2
        have hk013 := hk10.trans hk13
        refine op_run (r_geq rfl rfl) rfl ?_
        refine ops_nil ?_
        refine W_cond_p rfl (fun h14 => ?_) (fun h14 => ?_)
        · refine W_seq ?_
          refine W_region ?_
          refine o_mvt rfl ?_
          refine o_ast rfl ?_
          refine o_asc rfl ?_
          refine ops_nil ?_
          refine W_ret ?_
          refine ret2 (.slice (some ⟨bi, oi, none⟩) (imgD l).length ci) (.int .i64 6) rfl ?_ ?_ ?_; rfl; rfl
          have h6 : (lookP l other).isSome = true := by
            rcases hzz2 with ⟨_, e⟩ | ⟨_, _, e, _⟩
            · omega
            · rw [e]; rfl
          have e : copE l nm other q = 6 := by rw [hE, if_pos h6]
          exact ⟨⟨_, ys, by rw [e], by rw [copL_err (by rw [e]; decide)]; exact h.k hk013⟩, hk013⟩
        · refine W_skip ?_
          refine W_seq ?_
          refine W_seq ?_
          refine W_region ?_
          refine o_mvt rfl ?_
          refine o_mvt rfl ?_
          have h6 : lookP l other = none := by
            rcases hzz2 with ⟨e, _⟩ | ⟨_, _, _, e, _⟩
            · exact e
            · omega
          obtain ⟨xa, xc, exa, _, hxc⟩ := hbi.form
          subst exa
          have hbl : (blkS vv.bl).length = vv.bl.length := blkS_len _
          have hbl2 : vv.bl.length ≤ 1000 := (hbk _ (lookP_mem hv)).1
          rw [h6, if_neg (by decide)] at hE
          refine op_run (r_idxS rfl rfl rfl rfl (by omega) (by omega)) rfl ?_
          refine op_run (r_fieldAddr rfl rfl rfl rfl rfl) rfl ?_
          refine op_run (r_load rfl rfl rfl (by rw [Int.toNat_natCast]; exact hk013.cell (hci 3 _ rfl) trivial)) rfl ?_
          refine op_run (r_len rfl rfl rfl) rfl ?_
          refine o_mvt rfl ?_
          refine op_run (r_gtr rfl rfl) rfl ?_
          refine ops_nil ?_
          refine W_cond_p rfl (fun h18 => ?_) (fun h18 => ?_)
          · refine W_seq ?_
            refine W_region ?_
            refine o_mvt rfl ?_
            refine o_ast rfl ?_
            refine o_asc rfl ?_
            refine ops_nil ?_
            refine W_ret ?_
            refine ret2 (.slice (some ⟨bi, oi, none⟩) (imgD l).length ci) (.int .i64 8) rfl ?_ ?_ ?_; rfl; rfl
            have h18 : q < ((blkS vv.bl).length : Int) := h18
            have e : copE l nm other q = 8 := by rw [hE, if_pos (by omega)]
            exact ⟨⟨_, ys, by rw [e], by rw [copL_err (by rw [e]; decide)]; exact h.k hk013⟩, hk013⟩
          · refine W_skip ?_
            refine W_seq ?_
            refine W_region ?_
            refine o_mvt rfl ?_
            refine o_mvt rfl ?_
            refine o_mvt rfl ?_
            refine o_mvt rfl ?_
            have h18 : ¬ q < ((blkS vv.bl).length : Int) := h18
            refine o_bs0 rfl rfl rfl ?_; intro w20 b20 e20 hB20 hk20 hs20
            have hB20e : Own w20 71 33 (.slice (some ⟨b20, 0, none⟩) 0 0) 0 [] := Own.blk hB20 rfl (Nat.zero_le _)
            have hk020 := hk013.trans hk20
            refine o_mvt rfl ?_
            refine o_mvt rfl ?_
            refine op_run (r_idxS rfl rfl rfl rfl (by omega) (by omega)) rfl ?_
            refine op_run (r_fieldAddr rfl rfl rfl rfl rfl) rfl ?_
            refine op_run (r_load rfl rfl rfl (by rw [Int.toNat_natCast]; exact hk020.cell (hci 3 _ rfl) trivial)) rfl ?_
            refine o_appS (v := .slice (some ⟨b20, 0, none⟩) 0 0) rfl rfl (hbi.keep hk020 (fun _ _ => trivial)) rfl ti_nb rfl rfl hB20e (rows_one nbR_one _) (by unfold maxLen; show 0 + (blkS vv.bl).length ≤ _; omega) (by show (0 + (blkS vv.bl).length) * 40 ≤ _; omega) rfl ?_; intro v23 w23 hown23 hk23 hb23
            have hk023 : Keep All w7 w23 := hk020.own hk23 (fun z hz' _ => by have hz' : some b20 = some z := hz'; injection hz' with hz'; have := hk013.size; omega)
            have hs23 := hown23.sl
            rw [Nat.zero_add, List.nil_append] at hs23
            obtain ⟨va, vc, ev, _, _⟩ := hs23.form
            subst ev
            refine op_run (r_build (imR (⟨other, q, fr, blkS vv.bl⟩, .slice va (blkS vv.bl).length vc)) (_) ([(0, strA other), (1, .int .i64 q), (2, .bool fr), (3, .slice va (blkS vv.bl).length vc)]) rfl rfl rfl rfl rfl (rfl)) rfl ?_
            refine op_call rfl rfl rfl (rf12_Add w23 _ _ (imgD l) ys ⟨other, q, fr, blkS vv.bl⟩ (h.k hk023) hs23 (by rw [imgD_len]; omega)) ?_; rintro v25 w25 ⟨⟨k, ⟨hkk, hA1, hA2⟩, hI⟩, hI2, hk25⟩
            refine o_ast rfl ?_
            refine o_asc rfl ?_
            refine ops_nil ?_
            refine W_ret ?_
            refine ret2 v25 (.int .i64 0) rfl ?_ ?_ ?_; rfl; rfl
            have e : copE l nm other q = 0 := by rw [hE, if_neg (by omega)]
            have h23 := h.k hk023
            have hI3 := h23.ins (i := ⟨other, q, fr, blkS vv.bl⟩) hs23 hk25 hkk hI
            have hadd := imgD_add (v := ⟨q, fr, vv.bl⟩) hN.1 h6 hkk hA1 hA2
            have hI4 : ImgsS w25 v25 (imgD (l ++ [(other, ⟨q, fr, vv.bl⟩)])) _ := hadd ▸ hI3
            exact ⟨⟨v25, _, by rw [e], by rw [copL_ok e hv]; exact hI4⟩, hk023.trans hk25⟩
theorem nbR_blk {p : Int × Bk} {m : Nat} {u : Value} (h : (blkR p.2)[m]? = some u) : (nbR p)[1 + m]? = some u := by rw [Nat.add_comm 1 m]; exact h
theorem had_t {bl : List (Int × Bk)} {n : Int} {m : Nat} {p : Int × Bk} (h : (blkS bl)[m]? = some p) (e : p.1 = n) : lookP bl n = some p.2 := by rw [← e]; exact blkS_mem.1 (List.mem_of_getElem? h)
theorem rf12_Get (w : World) (v : Value) (l : AL) (ys : List (Img × Value)) (nm : List UInt8) (n : Int) (h : ImgsS w v (imgD l) ys) (hl : l.length ≤ 1000) (hbk : BlkN 1000 l) : Ret Tryz.prog 9 [v, strA nm, .int .i64 n].toArray w fun r w' => r = (getV l nm n).v ∧ Keep All w w' := by
  have hil := imgD_len l
  refine enter (fn := Tryz.f9) (n := 55) Tryz.func9 rfl rfl (by simp) ?_
  refine W_seq ?_
  refine W_region ?_
  refine o_alloc rfl rfl rfl ?_; intro w1 b1 e1 hB1 hk1 hs1
  have hB1' : Blk w1 b1 (blkR Bk.zero) 29 := hB1
  refine o_asc rfl ?_
  refine o_asc rfl ?_
  refine ops_nil ?_
  refine W_seq ?_
  refine W_region ?_
  refine o_mvt rfl ?_
  refine o_mvt rfl ?_
  refine op_call rfl rfl rfl (rf12_Find w1 v (imgD l) ys nm (h.k hk1)) ?_; rintro v2 w2 ⟨⟨z, rfl, hz⟩, hk2⟩
  have hzz := find_case hz
  have hk02 := hk1.trans hk2
  have hB2 := hk2.blk' hB1' trivial
  refine o_ast rfl ?_
  refine ops_nil ?_
  refine W_seq ?_
  refine W_seq ?_
  refine W_region ?_
  refine o_mvt rfl ?_
  refine op_run (r_lss rfl rfl) rfl ?_
  refine ops_nil ?_
  refine W_cond_p rfl (fun h3 => ?_) (fun h3 => ?_)
  · refine W_seq ?_
    refine W_region ?_
    have hno : lookP l nm = none := by
      rcases hzz with ⟨e, _⟩ | ⟨_, _, _, e, _⟩
      · exact e
      · omega
    refine op_run (r_buildA (blkR Bk.zero) (_) ([]) rfl rfl rfl rfl rfl (rfl)) rfl ?_
    refine o_storeA (cs := blkR Bk.zero) rfl rfl (by first | rfl | exact binV_one _ | exact dgR_one _ | exact refR_one _ | exact secR_one _ | exact all_c8 _ | exact blkR_one _) (by first | rfl | (rw [binV_len]; rfl) | (rw [dgR_len]; rfl) | (rw [refR_len]; rfl) | (rw [secR_len]; rfl) | (rw [List.length_map, tagF_len]; rfl) | (rw [blkR_len]; rfl)) hB2 (by exact Nat.le_of_eq (by simp [blkR_len])) rfl ?_; intro w5 hB5 hk5 hs5
    refine o_asc rfl ?_
    refine o_asc rfl ?_
    refine ops_nil ?_
    refine W_ret ?_
    refine retATT ((blkR Bk.zero)) ((.bool false)) ((.int .i64 5)) rfl rfl rfl rfl rfl rfl (by first | rfl | (rw [binV_len]; rfl) | (rw [dgR_len]; rfl) | (rw [refR_len]; rfl) | (rw [secR_len]; rfl) | (rw [List.length_map, tagF_len]; rfl) | (rw [blkR_len]; rfl)) ((bk_st hB5).all) ?_
    exact ⟨by rw [getV_none hno]; rfl, hk02.new hk5 (by omega)⟩
  · refine W_skip ?_
    refine W_seq ?_
    obtain ⟨vv, ki, hv, rfl, hki⟩ : ∃ (v : VA) (k : Nat), lookP l nm = some v ∧ z = k ∧ (imgD l)[k]? = some ⟨nm, v.q, v.fr, blkS v.bl⟩ := by
      rcases hzz with ⟨_, e⟩ | hh
      · omega
      · exact hh
    have hkil := (List.getElem?_eq_some_iff.1 hki).1
    obtain ⟨i0, x0, bi, oi, ci, _, hi0, ei0, hci, hbi⟩ := h.at hkil
    rw [hki] at hi0
    cases hi0
    subst ei0
    obtain ⟨xa, xc, exa, _, hxc⟩ := hbi.form
    subst exa
    have hbl : (blkS vv.bl).length = vv.bl.length := blkS_len _
    have hbl2 : vv.bl.length ≤ 1000 := (hbk _ (lookP_mem hv)).1
    have hE := getV_some (n := n) hv
    have hbe : (Img.mk nm vv.q vv.fr (blkS vv.bl)).bl.length = (blkS vv.bl).length := rfl
    refine W_cut [22] [17, 18, 19, 20, 21, 22] (fun vs w7 => vs = [.bool (decide (n < 0 ∨ 1048576 ≤ n))] ∧ w7 = w2) ?_ ?_
    · refine W_region ?_
      refine o_mvt rfl ?_
      refine op_run (r_lss rfl rfl) rfl ?_
      refine o_mvt rfl ?_
      refine g_split rfl rfl rfl (fun g8 => ?_) (fun g8 => ?_)
      · refine o_mvt (g_yes rfl rfl rfl g8) ?_
        refine op_run (r_geq rfl rfl) (g_yes rfl rfl rfl g8) ?_
        refine o_pkFt rfl g8 rfl ?_
        refine ops_nil ?_
        exact ⟨by (repeat (first | with_reducible exact offM_refl _ _ | refine offM_updc rfl ?_ | refine offM_upd rfl ?_ | refine offM_updo rfl ?_ | refine offM_updo_none ?_ | refine offM_head rfl rfl ?_)), congrArg (fun b => [Value.bool b]) (by have g := of_decide_eq_false g8; rw [decide_eq_decide]; constructor <;> intro h <;> omega), rfl⟩
      · refine op_skip (g_no rfl rfl rfl g8) ?_
        refine op_skip (g_no rfl rfl rfl g8) ?_
        refine o_pkTc rfl g8 rfl ?_
        refine ops_nil ?_
        exact ⟨by (repeat (first | with_reducible exact offM_refl _ _ | refine offM_updc rfl ?_ | refine offM_upd rfl ?_ | refine offM_updo rfl ?_ | refine offM_updo_none ?_ | refine offM_head rfl rfl ?_)), congrArg (fun b => [Value.bool b]) (by have g := of_decide_eq_true g8; symm; apply decide_eq_true; omega), rfl⟩
    · rintro J11 vs w11 ⟨rfl, rfl⟩ -
      refine W_cond_p rfl (fun h12 => ?_) (fun h12 => ?_)
      · refine W_seq ?_
        refine W_region ?_
        refine op_run (r_buildA (blkR Bk.zero) (_) ([]) rfl rfl rfl rfl rfl (rfl)) rfl ?_
        refine o_storeA (cs := blkR Bk.zero) rfl rfl (by first | rfl | exact binV_one _ | exact dgR_one _ | exact refR_one _ | exact secR_one _ | exact all_c8 _ | exact blkR_one _) (by first | rfl | (rw [binV_len]; rfl) | (rw [dgR_len]; rfl) | (rw [refR_len]; rfl) | (rw [secR_len]; rfl) | (rw [List.length_map, tagF_len]; rfl) | (rw [blkR_len]; rfl)) hB2 (by exact Nat.le_of_eq (by simp [blkR_len])) rfl ?_; intro w14 hB14 hk14 hs14
        refine o_asc rfl ?_
        refine o_asc rfl ?_
        refine ops_nil ?_
        refine W_ret ?_
        refine retATT ((blkR Bk.zero)) ((.bool false)) ((.int .i64 2)) rfl rfl rfl rfl rfl rfl (by first | rfl | (rw [binV_len]; rfl) | (rw [dgR_len]; rfl) | (rw [refR_len]; rfl) | (rw [secR_len]; rfl) | (rw [List.length_map, tagF_len]; rfl) | (rw [blkR_len]; rfl)) ((bk_st hB14).all) ?_
        exact ⟨by rw [hE, if_pos h12]; rfl, hk02.new hk14 (by omega)⟩
      · refine W_skip ?_
        refine W_seq ?_
        refine W_seq ?_
        refine W_region ?_
        refine o_asc rfl ?_
        refine ops_nil ?_
        refine W_block ?_
        rw [if_neg h12] at hE
        refine W_loop [10] [7, 8, 10, 24, 25, 26, 27, 28, 29, 30, 31, 32, 33, 34, 35, 36, 37, 38, 39, 40, 41, 42, 43, 44, 45, 46, 47, 48, 49, 50, 51, 52, 53] (fun vs w' => ∃ (j : Nat), vs = [.int .i64 j] ∧ j ≤ (blkS vv.bl).length ∧ (∀ p ∈ (blkS vv.bl).take j, p.1 ≠ n) ∧ Keep All w11 w') (fun vs _ => match vs with | [.int _ y] => (blkS vv.bl).length - y.toNat | _ => 0) ⟨0, rfl, Nat.zero_le _, (fun p hp => by cases hp), Keep.refl _⟩ ?_
        rintro J16 vs w16 ⟨j, rfl, hj, hH, hkJ⟩ -
        have hk0J := hk02.trans hkJ
        refine W_seq ?_
        refine W_seq ?_
        refine W_region ?_
        refine o_mvt rfl ?_
        refine o_mvt rfl ?_
        refine o_mvt rfl ?_
        refine op_run (r_idxS rfl rfl rfl rfl (by omega) (by omega)) rfl ?_
        refine op_run (r_fieldAddr rfl rfl rfl rfl rfl) rfl ?_
        refine op_run (r_load rfl rfl rfl (by rw [Int.toNat_natCast]; exact hk0J.cell (hci 3 _ rfl) trivial)) rfl ?_
        refine op_run (r_len rfl rfl rfl) rfl ?_
        refine op_run (r_lss rfl rfl) rfl ?_
        refine ops_nil ?_
        refine W_cond_p rfl (fun h19 => ?_) (fun h19 => ?_)
        · refine W_skip ?_
          refine W_seq ?_
          refine W_block ?_
          refine W_seq ?_
          refine W_region ?_
          refine o_mvt rfl ?_
          refine o_mvt rfl ?_
          have hjl : j < (blkS vv.bl).length := by omega
          obtain ⟨p, pb, po, pc, hp, ep, hcp⟩ := nb_at hbi hjl
          cases ep
          have hinc2 := inc64' j (by omega)
          refine op_run (r_idxS rfl rfl rfl rfl (by omega) (by omega)) rfl ?_
          refine op_run (r_fieldAddr rfl rfl rfl rfl rfl) rfl ?_
          refine op_run (r_load rfl rfl rfl (by rw [Int.toNat_natCast]; exact hk0J.cell (hci 3 _ rfl) trivial)) rfl ?_
          refine o_mvt rfl ?_
          refine op_run (r_idxS rfl rfl rfl rfl (by omega) (by omega)) rfl ?_
          refine op_run (r_fieldAddr rfl rfl rfl rfl rfl) rfl ?_
          refine op_run (r_load rfl rfl rfl (by rw [Int.toNat_natCast]; have h := hcp 0 _ rfl; rw [Addr.add_lit] at h; exact hk0J.cell h trivial)) rfl ?_
          refine o_mvt rfl ?_
          refine op_run (r_eql rfl rfl) rfl ?_
          refine ops_nil ?_
          refine W_cond_p rfl (fun h24 => ?_) (fun h24 => ?_)
          · refine W_seq ?_
            refine W_region ?_
            refine o_mvt rfl ?_
            refine o_mvt rfl ?_
            refine op_run (r_idxS rfl rfl rfl rfl (by omega) (by omega)) rfl ?_
            refine op_run (r_fieldAddr rfl rfl rfl rfl rfl) rfl ?_
            refine op_run (r_load rfl rfl rfl (by rw [Int.toNat_natCast]; exact hk0J.cell (hci 3 _ rfl) trivial)) rfl ?_
            refine o_mvt rfl ?_
            refine op_run (r_idxS rfl rfl rfl rfl (by omega) (by omega)) rfl ?_
            refine op_run (r_fieldAddr rfl rfl rfl rfl rfl) rfl ?_
            refine op_run (r_loadA (blkR p.2) rfl rfl rfl (by first | rfl | (rw [binV_len]; rfl) | (rw [dgR_len]; rfl) | (rw [refR_len]; rfl) | (rw [secR_len]; rfl) | (rw [List.length_map, tagF_len]; rfl) | (rw [blkR_len]; rfl)) ((fun m u hm => by rw [Int.toNat_natCast, Addr.add_lit]; have h := hcp (1 + m) u (nbR_blk hm); rw [Addr.add_lit, ← Nat.add_assoc] at h; exact hk0J.cell h trivial))) rfl ?_
            refine o_storeA (cs := blkR p.2) rfl rfl (by first | rfl | exact binV_one _ | exact dgR_one _ | exact refR_one _ | exact secR_one _ | exact all_c8 _ | exact blkR_one _) (by first | rfl | (rw [binV_len]; rfl) | (rw [dgR_len]; rfl) | (rw [refR_len]; rfl) | (rw [secR_len]; rfl) | (rw [List.length_map, tagF_len]; rfl) | (rw [blkR_len]; rfl)) (hkJ.blk' hB2 trivial) (by exact Nat.le_of_eq (by simp [blkR_len])) rfl ?_; intro w29 hB29 hk29 hs29
            refine o_asc rfl ?_
            refine o_asc rfl ?_
            refine ops_nil ?_
            refine W_ret ?_
            refine retATT ((blkR p.2)) ((.bool true)) ((.int .i64 0)) rfl rfl rfl rfl rfl rfl (by first | rfl | (rw [binV_len]; rfl) | (rw [dgR_len]; rfl) | (rw [refR_len]; rfl) | (rw [secR_len]; rfl) | (rw [List.length_map, tagF_len]; rfl) | (rw [blkR_len]; rfl)) ((bk_st hB29).all) ?_
            have hlk := had_t hp h24
            exact ⟨by rw [hE, hlk]; rfl, hk0J.new hk29 (by omega)⟩
          · refine W_skip ?_
            refine W_region ?_
            refine o_mvt rfl ?_
            refine op_run (r_add rfl rfl) rfl ?_
            refine o_ast rfl ?_
            refine ops_nil ?_
            refine ⟨by (repeat (first | with_reducible exact offM_refl _ _ | refine offM_updc rfl ?_ | refine offM_upd rfl ?_ | refine offM_updo rfl ?_ | refine offM_updo_none ?_ | refine offM_head rfl rfl ?_)), ⟨j + 1, congrArg (fun z : Int => [Value.int .i64 z]) hinc2, by omega, fun q hq => ?_, hkJ⟩, ?_⟩
            · rw [List.take_succ_eq_append_getElem hjl, (List.getElem?_eq_some_iff.1 hp).2] at hq
              rcases List.mem_append.1 hq with hq | hq
              · exact hH q hq
              · rw [List.mem_singleton.1 hq]; exact h24
            · show (blkS vv.bl).length - (IntKind.i64.wrap ((j : Int) + 1)).toNat < (blkS vv.bl).length - (j : Int).toNat
              rw [hinc2]; omega
        · refine W_exit ?_
          refine W_seq ?_
          refine W_region ?_
          have hje : j = (blkS vv.bl).length := by omega
          rw [hje] at hH
          have hno : lookP vv.bl n = none := had_none (z := -1) (.inl ⟨rfl, hH⟩) (by decide)
          refine op_run (r_buildA (blkR Bk.zero) (_) ([]) rfl rfl rfl rfl rfl (rfl)) rfl ?_
          refine o_storeA (cs := blkR Bk.zero) rfl rfl (by first | rfl | exact binV_one _ | exact dgR_one _ | exact refR_one _ | exact secR_one _ | exact all_c8 _ | exact blkR_one _) (by first | rfl | (rw [binV_len]; rfl) | (rw [dgR_len]; rfl) | (rw [refR_len]; rfl) | (rw [secR_len]; rfl) | (rw [List.length_map, tagF_len]; rfl) | (rw [blkR_len]; rfl)) (hkJ.blk' hB2 trivial) (by exact Nat.le_of_eq (by simp [blkR_len])) rfl ?_; intro w33 hB33 hk33 hs33
          refine o_asc rfl ?_
          refine o_asc rfl ?_
          refine ops_nil ?_
          refine W_ret ?_
          refine retATT ((blkR Bk.zero)) ((.bool false)) ((.int .i64 0)) rfl rfl rfl rfl rfl rfl (by first | rfl | (rw [binV_len]; rfl) | (rw [dgR_len]; rfl) | (rw [refR_len]; rfl) | (rw [secR_len]; rfl) | (rw [List.length_map, tagF_len]; rfl) | (rw [blkR_len]; rfl)) ((bk_st hB33).all) ?_
          exact ⟨by rw [hE, hno]; rfl, hk0J.new hk33 (by omega)⟩
end Go.Proofs.YtkmciohghhffnaaGreat.B
