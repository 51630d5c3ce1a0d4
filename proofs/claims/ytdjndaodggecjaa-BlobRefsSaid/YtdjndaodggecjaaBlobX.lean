/-
  BlobRefs: the walk.
-/
import Derived.Test.YtdjndaodggecjaaBlobR
import Derived.Test.YtdjndaodggecjaaIn01
import Derived.Test.YtdjndaodggecjaaRef07p
namespace Go.Proofs.Ytdjndaodggecjaa.B
open Go
set_option linter.unusedVariables false
set_option maxHeartbeats 2000000
set_option maxRecDepth 100000
attribute [local irreducible] W OpsW OpsQ retP
theorem walk_BlobRefs (w : World) (r : Rf) (v : Value) (bs : List UInt8) (hv : By w v bs) :
    Ret Try.prog 7 [.agg (refR r).toArray, v].toArray w fun u w' => u = .bool true ∧ Keep All w w' := by
  obtain ⟨a0, c0, rfl, hc0, hcm0⟩ := hv.form
  refine enter (fn := Try.f7) (n := 71) Try.func7 rfl rfl (by simp) ?_
  refine W_seq ?_
  refine W_region ?_
  refine o_box rfl rfl rfl ?_; intro w1 b1 e1 hB1 hk1 hs1
  have hB1 : Blk w1 b1 (refR r) 26 := hB1
  refine o_asc rfl ?_
  refine ops_nil ?_
  refine W_seq ?_
  refine W_seq ?_
  refine W_region ?_
  refine op_call rfl rfl rfl (speaks07 w1) ?_; rintro v2 w2 ⟨rfl, hk2⟩
  have hkw2 := hk1.trans hk2
  have hB2 := hk2.blk' hB1 trivial
  refine op_run (r_not rfl) rfl ?_
  refine ops_nil ?_
  refine W_no rfl (rfl) ?_
  refine W_skip ?_
  refine W_seq ?_
  refine W_seq ?_
  refine W_region ?_
  refine o_mvt rfl ?_
  refine op_run (r_len rfl rfl rfl) rfl ?_
  refine op_run (r_gtr rfl rfl) rfl ?_
  refine ops_nil ?_
  refine W_cond_p rfl (fun h5 => ?_) (fun h5 => ?_)
  · refine W_seq ?_
    refine W_region ?_
    refine o_asc rfl ?_
    refine ops_nil ?_
    refine W_ret ?_
    refine ret1 (.bool true) rfl ?_ ?_; rfl
    exact ⟨rfl, hkw2⟩
  · refine W_skip ?_
    refine W_seq ?_
    refine W_region ?_
    have hbl : bs.length ≤ 300 := by omega
    have hz2 := hkw2.size
    refine o_bs0 rfl rfl rfl ?_; intro w7 b7 e7 hB7 hk7 hs7
    refine o_mvt rfl ?_
    refine o_appS (v := .slice (some ⟨b7, 0, none⟩) 0 0) (m := 0) (xs := []) rfl rfl (hv.k (hkw2.trans hk7)) rfl ti_u8 rfl rfl (Own.blk (n := 0) hB7 rfl (Nat.zero_le _)) (all_c8 _) (by unfold maxLen; omega) (by omega) rfl ?_; intro v8 w8 hown8 hk8 hb8
    have hown8 : OwnB w8 5 v8 bs := by have h := OwnB.app (xs := []) hown8; exact h
    have hk28 : Keep All w2 w8 := hk7.own hk8 (fun z hz _ => by obtain rfl : b7 = z := Option.some.inj hz; omega)
    refine op_call rfl rfl rfl (pack_From w8 v8 bs (OwnB.by_ hown8) (by omega)) ?_; rintro v9 w9 ⟨bI, rfl, hbI, hI9, hk9⟩
    refine o_mvt rfl ?_
    refine op_run (r_build ([.slice a0 bs.length c0, .int .i64 0, .bool false]) (_) ([(0, .slice a0 bs.length c0)]) rfl rfl rfl rfl rfl (rfl)) rfl ?_
    refine o_box (cs := [.slice a0 bs.length c0, .int .i64 0, .bool false]) rfl rfl rfl ?_; intro w11 b11 e11 hB11 hk11 hs11
    have hk211 : Keep All w2 w11 := (hk28.trans hk9).trans hk11
    have hv11 := hv.k (hkw2.trans hk211)
    have hR11 : RIn w11 b11 (fun k => k < w.heap.size) bs false := RIn.new hB11 hv11 hv.ltE (by omega)
    have hI11 := hI9.keep hk11 trivial (fun _ _ => trivial)
    have hbIl : bI < w9.heap.size := by obtain ⟨_, h, _⟩ := hI9; exact h.lt
    have hz8 := hk28.size
    have hz11 := hk11.size
    refine o_ast rfl ?_
    refine o_ast rfl ?_
    refine ops_nil ?_
    refine W_seq ?_
    refine W_cut [31] [20, 21, 22, 23, 24, 25, 26, 27, 28, 29, 30, 31] (fun vs w12 => vs = [.bool false] ∧ Keep (fun k => k ≠ bI ∧ k ≠ b11) w11 w12) ?_ ?_
    · refine W_region ?_
      refine o_mvt rfl ?_
      refine op_call rfl rfl rfl (bl_Take w11 bI _ bs false (fun h => Nat.lt_irrefl _ h.2) (fun k hk => by have := hk.2; omega) hI11) ?_; rintro v13 w13 ⟨rfl, hI13, hk13⟩
      refine o_mvt rfl ?_
      refine op_call rfl rfl rfl (rf07_Take w13 b11 _ bs false (by omega) (fun k hk => by have := hk13.size; omega) (hR11.keep' hk13 (show b11 ≠ bI by omega) (fun k _ hk e => by omega))) ?_; rintro v14 w14 ⟨rfl, hR14, hk14⟩
      refine op_run (r_neqC (p := True) rfl rfl rfl rfl (by kernel_rfl) (okC_ref _) (okC_ref _) rfl (⟨fun _ => trivial, fun _ => rfl⟩)) rfl ?_
      refine o_mvt rfl ?_
      refine g_split rfl rfl rfl (fun g16 => ?_) (fun g => absurd g (by simp))
      refine o_mvt (g_yes rfl rfl rfl g16) ?_
      refine op_call rfl rfl (g_yes rfl rfl rfl g16) (in_Done w14 bI _ _ _ (hI13.keep hk14 (show bI ≠ b11 by omega) (fun k hk e => by have := hk.2; omega))) ?_; rintro v17 w17 ⟨rfl, hk17⟩
      refine o_mvt (g_yes rfl rfl rfl g16) ?_
      refine op_call rfl rfl (g_yes rfl rfl rfl g16) (rn_Done w17 b11 _ _ _ (hR14.k hk17)) ?_; rintro v18 w18 ⟨rfl, hk18⟩
      refine op_run (r_neq rfl rfl) (g_yes rfl rfl rfl g16) ?_
      refine o_pkFt rfl g16 rfl ?_
      refine ops_nil ?_
      exact ⟨by (repeat (first | with_reducible exact offM_refl _ _ | refine offM_updc rfl ?_ | refine offM_upd rfl ?_ | refine offM_updo rfl ?_ | refine offM_updo_none ?_ | refine offM_head rfl rfl ?_)), congrArg (fun b => [Value.bool b]) (by simp), (((hk13.mono fun k _ h => h.1).trans (hk14.mono fun k _ h => h.2)).trans hk17.all).trans hk18.all⟩
    · rintro J20 vs w20 ⟨rfl, hk20⟩ -
      have hkE : Keep All w2 w20 := hk211.outA (B := fun k => k = bI ∨ k = b11) (hk20.mono fun k _ h => ⟨fun e => h (.inl e), fun e => h (.inr e)⟩) (fun k h => by rcases h with rfl | rfl <;> omega)
      have hB20 := hkE.blk' hB2 trivial
      refine W_no rfl (rfl) ?_
      refine W_skip ?_
      refine W_seq ?_
      refine W_region ?_
      refine o_bs1 (v := .int .u8 9) rfl rfl rfl rfl rfl rfl ?_; intro w23 b23 e23 hB23 hk23 hs23
      have hO23 : OwnB w23 5 (.slice (some ⟨b23, 0, none⟩) 1 1) [9] := Own.blk (n := 1) hB23 rfl (by unfold maxLen; omega)
      refine op_run (r_loadA (refR r) rfl rfl rfl (by first | rfl | (rw [dgR_len]; rfl) | (rw [refR_len]; rfl) | (rw [secR_len]; rfl) | (rw [List.length_map, tagF_len]; rfl)) ((hk23.blk' hB20 trivial).all)) rfl ?_
      refine op_call rfl rfl rfl (bl_Put w23 _ [9] r hO23 (by decide)) ?_; rintro v25 w25 ⟨hown25, hk25, hb25⟩
      have hz23 := hk23.size
      have hlt2 := hB20.lt
      have hk25' : Keep All w20 w25 := hk23.own hk25 (fun z hz _ => by obtain rfl : b23 = z := Option.some.inj hz; omega)
      refine o_ast rfl ?_
      refine ops_nil ?_
      refine W_seq ?_
      refine W_seq ?_
      refine W_region ?_
      refine o_mvt rfl ?_
      refine o_bs1 (v := .int .u8 9) rfl rfl rfl rfl rfl rfl ?_; intro w26 b26 e26 hB26 hk26 hs26
      have hO26 : OwnB w26 5 (.slice (some ⟨b26, 0, none⟩) 1 1) [9] := Own.blk (n := 1) hB26 rfl (by unfold maxLen; omega)
      refine op_run (r_loadA (refR r) rfl rfl rfl (by first | rfl | (rw [dgR_len]; rfl) | (rw [refR_len]; rfl) | (rw [secR_len]; rfl) | (rw [List.length_map, tagF_len]; rfl)) (((hk25'.trans hk26).blk' hB20 trivial).all)) rfl ?_
      refine op_call rfl rfl rfl (rf07_Put w26 _ [9] r hO26 (by decide)) ?_; rintro v28 w28 ⟨hown28, hk28', hb28⟩
      have hz25 := hk25'.size
      have hz26 := hk26.size
      have hk28k : Keep All w20 w28 := (hk25'.trans hk26).own hk28' (fun z hz _ => by obtain rfl : b26 = z := Option.some.inj hz; omega)
      have hown25' : OwnB w28 5 v25 ([9] ++ encR r) := (hown25.keep hk26 (fun _ _ => trivial)).keep hk28' (fun z hz e => by have := hown25.lt z hz; have e : z = b26 := Option.some.inj e; omega)
      refine op_call rfl rfl rfl (ref01_Same w28 v25 v28 _ _ (OwnB.by_ hown25') (OwnB.by_ hown28)) ?_; rintro v29 w29 ⟨rfl, hk29⟩
      have hB29 := (hk28k.trans hk29).blk' hB20 trivial
      have hlr := encR_len r
      refine op_run (r_not rfl) rfl ?_
      refine ops_nil ?_
      refine W_no rfl (by simp) ?_
      refine W_skip ?_
      refine W_seq ?_
      refine W_cut [58] [41, 42, 43, 44, 45, 46, 47, 48, 49, 50, 51, 52, 53, 54, 55, 56, 57, 58] (fun vs w32 => vs = [.bool (decide (¬ r.may))] ∧ w32 = w29) ?_ ?_
      · refine W_region ?_
        refine op_run (r_fieldAddr rfl rfl rfl rfl rfl) rfl ?_
        refine op_run (r_load rfl rfl rfl (hB29.cell (refR_32 r))) rfl ?_
        refine op_run (r_lss rfl rfl) rfl ?_
        refine o_mvt rfl ?_
        refine g_split rfl rfl rfl (fun g34 => ?_) (fun g34 => ?_)
        · refine op_run (r_fieldAddr rfl rfl rfl rfl rfl) (g_yes rfl rfl rfl g34) ?_
          refine op_run (r_load rfl rfl rfl (hB29.cell (refR_32 r))) (g_yes rfl rfl rfl g34) ?_
          refine op_run (r_gtr rfl rfl) (g_yes rfl rfl rfl g34) ?_
          refine o_pkFt rfl g34 rfl ?_
          refine o_mvt rfl ?_
          refine g_split rfl rfl rfl (fun g36 => ?_) (fun g36 => ?_)
          · refine op_run (r_fieldAddr rfl rfl rfl rfl rfl) (g_yes rfl rfl rfl g36) ?_
            refine op_run (r_load rfl rfl rfl (hB29.cell (refR_33 r))) (g_yes rfl rfl rfl g36) ?_
            refine op_run (r_lss rfl rfl) (g_yes rfl rfl rfl g36) ?_
            refine o_pkFt rfl g36 rfl ?_
            refine o_mvt rfl ?_
            refine g_split rfl rfl rfl (fun g38 => ?_) (fun g38 => ?_)
            · refine op_run (r_fieldAddr rfl rfl rfl rfl rfl) (g_yes rfl rfl rfl g38) ?_
              refine op_run (r_load rfl rfl rfl (hB29.cell (refR_33 r))) (g_yes rfl rfl rfl g38) ?_
              refine op_run (r_gtr rfl rfl) (g_yes rfl rfl rfl g38) ?_
              refine o_pkFt rfl g38 rfl ?_
              refine ops_nil ?_
              exact ⟨by (repeat (first | with_reducible exact offM_refl _ _ | refine offM_updc rfl ?_ | refine offM_upd rfl ?_ | refine offM_updo rfl ?_ | refine offM_updo_none ?_ | refine offM_head rfl rfl ?_)), congrArg (fun b => [Value.bool b]) (by
                have g34 := of_decide_eq_false g34; have g36 := of_decide_eq_false g36; have g38 := of_decide_eq_false g38
                rw [decide_eq_decide]; unfold Rf.may; omega), rfl⟩
            · refine op_skip (g_no rfl rfl rfl g38) ?_
              refine op_skip (g_no rfl rfl rfl g38) ?_
              refine op_skip (g_no rfl rfl rfl g38) ?_
              refine o_pkTc rfl g38 rfl ?_
              refine ops_nil ?_
              exact ⟨by (repeat (first | with_reducible exact offM_refl _ _ | refine offM_updc rfl ?_ | refine offM_upd rfl ?_ | refine offM_updo rfl ?_ | refine offM_updo_none ?_ | refine offM_head rfl rfl ?_)), congrArg (fun b => [Value.bool b]) (by have g := of_decide_eq_true g38; symm; apply decide_eq_true; unfold Rf.may; omega), rfl⟩
          · refine op_skip (g_no rfl rfl rfl g36) ?_
            refine op_skip (g_no rfl rfl rfl g36) ?_
            refine op_skip (g_no rfl rfl rfl g36) ?_
            refine o_pkTc rfl g36 rfl ?_
            refine o_mvt rfl ?_
            refine op_skip (g_no rfl rfl rfl rfl) ?_
            refine op_skip (g_no rfl rfl rfl rfl) ?_
            refine op_skip (g_no rfl rfl rfl rfl) ?_
            refine o_pkTc rfl rfl rfl ?_
            refine ops_nil ?_
            exact ⟨by (repeat (first | with_reducible exact offM_refl _ _ | refine offM_updc rfl ?_ | refine offM_upd rfl ?_ | refine offM_updo rfl ?_ | refine offM_updo_none ?_ | refine offM_head rfl rfl ?_)), congrArg (fun b => [Value.bool b]) (by have g := of_decide_eq_true g36; symm; apply decide_eq_true; unfold Rf.may; omega), rfl⟩
        · refine op_skip (g_no rfl rfl rfl g34) ?_
          refine op_skip (g_no rfl rfl rfl g34) ?_
          refine op_skip (g_no rfl rfl rfl g34) ?_
          refine o_pkTc rfl g34 rfl ?_
          refine o_mvt rfl ?_
          refine op_skip (g_no rfl rfl rfl rfl) ?_
          refine op_skip (g_no rfl rfl rfl rfl) ?_
          refine op_skip (g_no rfl rfl rfl rfl) ?_
          refine o_pkTc rfl rfl rfl ?_
          refine o_mvt rfl ?_
          refine op_skip (g_no rfl rfl rfl rfl) ?_
          refine op_skip (g_no rfl rfl rfl rfl) ?_
          refine op_skip (g_no rfl rfl rfl rfl) ?_
          refine o_pkTc rfl rfl rfl ?_
          refine ops_nil ?_
          exact ⟨by (repeat (first | with_reducible exact offM_refl _ _ | refine offM_updc rfl ?_ | refine offM_upd rfl ?_ | refine offM_updo rfl ?_ | refine offM_updo_none ?_ | refine offM_head rfl rfl ?_)), congrArg (fun b => [Value.bool b]) (by have g := of_decide_eq_true g34; symm; apply decide_eq_true; unfold Rf.may; omega), rfl⟩
      · rintro J44 vs w44 ⟨rfl, rfl⟩ -
        have hkF := (hkw2.trans hkE).trans (hk28k.trans hk29)
        refine W_cond_p rfl (fun h45 => ?_) (fun h45 => ?_)
        · refine W_seq ?_
          refine W_region ?_
          refine o_asc rfl ?_
          refine ops_nil ?_
          refine W_ret ?_
          refine ret1 (.bool true) rfl ?_ ?_; rfl
          exact ⟨rfl, hkF⟩
        · refine W_skip ?_
          refine W_seq ?_
          refine W_region ?_
          refine o_mvt rfl ?_
          have hmay : r.may := Decidable.not_not.1 h45
          obtain ⟨a25, c25, rfl, hc25, hcm25⟩ := (OwnB.by_ hown25').form
          have hby44 := By.sub (xs := [9] ++ encR r) ((OwnB.by_ hown25').keep hk29 (fun _ _ => trivial)) (l := 1) (h := ([9] ++ encR r).length) (m := c25) (by simp) (Nat.le_refl _) hc25 (Nat.le_refl _)
          rw [List.take_length] at hby44
          have hby44 : By w44 (subSl a25 1 1 ([9] ++ encR r).length c25) (encR r) := hby44
          refine op_run (r_sliceS_lo rfl rfl rfl rfl (by simp) (by (rw [List.length_append]; simp only [List.length_cons, List.length_nil]; omega))) rfl ?_
          refine op_call rfl rfl rfl (pack_From w44 _ (encR r) hby44 (by omega)) ?_; rintro v48 w48 ⟨bN, rfl, hbN, hI48, hk48⟩
          have hbNl : bN < w48.heap.size := by obtain ⟨_, h, _⟩ := hI48; exact h.lt
          refine o_ast rfl ?_
          refine ops_nil ?_
          refine W_seq ?_
          refine W_held (fun w' => Keep (fun k => k ≠ bN) w48 w') (by kernel_rfl) ((Keep.drawn w48).all) (fun hS => ?_)
          refine any_mvt 0 rfl (by kernel_rfl) (by kernel_rfl) (by kernel_rfl) rfl hS ?_
          refine any_run 2 (fun w' hS' => (r_loadA (refR r) rfl rfl rfl (by first | rfl | (rw [dgR_len]; rfl) | (rw [refR_len]; rfl) | (rw [secR_len]; rfl) | (rw [List.length_map, tagF_len]; rfl)) ((hS'.blk' (hk48.blk' hB29 trivial) (show b1 ≠ bN by have := hB29.lt; omega)).all))) rfl (by kernel_rfl) (by kernel_rfl) (by kernel_rfl) rfl hS ?_
          refine any_one 1 (by kernel_rfl) (one_of rfl ?_)
          refine op_call rfl rfl rfl (bl_Take _ bN _ (encR r) false (fun h => Nat.lt_irrefl _ h.2) (fun k hk => by have := hk.2; show k < w48.heap.size; omega) (hI48.keep (Keep.drawn w48) trivial (fun _ _ => trivial))) ?_; rintro v51 w51 ⟨rfl, hI51, hk51⟩
          have hrr : rfR (encR r) false = (r, [], false) := by have h := rfR_enc hmay []; rwa [List.append_nil] at h
          rw [hrr] at hI51 ⊢
          refine ops_nil ⟨hS.trans hk51, fun hS => ?_⟩
          refine any_run 3 (fun w' hS' => (r_eqlC (p := True) rfl rfl rfl rfl (by kernel_rfl) (okC_ref _) (okC_ref _) rfl (⟨fun _ => trivial, fun _ => rfl⟩))) rfl (by kernel_rfl) (by kernel_rfl) (by kernel_rfl) rfl hS ?_
          refine any_mvt 4 rfl (by kernel_rfl) (by kernel_rfl) (by kernel_rfl) rfl hS ?_
          refine a_split 66 true rfl (fun g54 => ?_) (fun g => absurd g (by simp))
          refine any_mvt 5 rfl (by kernel_rfl) (by kernel_rfl) (by kernel_rfl) (g_yes rfl rfl rfl g54) hS ?_
          refine any_one 6 (by kernel_rfl) (one_of rfl ?_)
          refine op_call rfl rfl (g_yes rfl rfl rfl g54) (in_Done w51 bN _ _ _ hI51) ?_; rintro v55 w55 ⟨rfl, hk55⟩
          refine ops_nil ⟨hS.trans hk55.all, fun hS => ?_⟩
          refine any_run 7 (fun w' hS' => (r_eql rfl rfl)) rfl (by kernel_rfl) (by kernel_rfl) (by kernel_rfl) (g_yes rfl rfl rfl g54) hS ?_
          refine any_run 8 (fun w' hS' => (r_pickT rfl g54)) rfl (by kernel_rfl) (by kernel_rfl) (by kernel_rfl) rfl hS ?_
          refine any_ast 9 rfl (by kernel_rfl) (by kernel_rfl) (by kernel_rfl) rfl hS ?_
          refine any_done (by kernel_rfl) ?_
          refine W_ret ?_
          refine ret1 (.bool true) rfl ?_ ?_; rfl
          exact ⟨rfl, (hkF.trans hk48).new hS (by have := hkF.size; omega)⟩
end Go.Proofs.Ytdjndaodggecjaa.B
