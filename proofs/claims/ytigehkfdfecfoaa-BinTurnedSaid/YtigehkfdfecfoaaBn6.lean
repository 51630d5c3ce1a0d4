/-
  Bins: what is written is read; the example; BinCodes.
-/
import Derived.Test.YtigehkfdfecfoaaBn5
import Derived.Test.YtigehkfdfecfoaaMLib
import Derived.Test.YtigehkfdfecfoaaBlobW
namespace Go.Proofs.Ytigehkfdfecfoaa.B
open Go
set_option linter.unusedVariables false
set_option maxHeartbeats 2000000
set_option maxRecDepth 100000
attribute [local irreducible] W OpsW OpsQ retP
theorem putAt_mid {M l : List Sec} {a : Nat} (h : a + l.length ≤ M.length) : ((putAt M a l).drop a).take l.length = l := by
  unfold putAt
  have h1 : (M.take a).length = a := by rw [List.length_take]; omega
  rw [List.append_assoc, List.drop_left' h1, List.take_left' rfl]
theorem heads_pads (L : List Bk) : (L.map padB).map headB = L := by
  rw [List.map_map]
  conv => rhs; rw [← List.map_id L]
  exact List.map_congr_left fun x _ => headB_pad x
theorem allB_put {M : List Sec} {a : Nat} {L : List Bk} {n : Int} (hL : 1 ≤ L.length) (h : a + L.length ≤ M.length) : allB (putAt M a (L.map padB)) ⟨n, a, L.length, rootB L⟩ = some L := by
  have hl : (L.map padB).length = L.length := List.length_map _
  have e : (((putAt M a (L.map padB)).drop a).take L.length).map headB = L := by
    have h2 := putAt_mid (M := M) (a := a) (l := L.map padB) (by omega)
    rw [hl] at h2
    rw [h2, heads_pads]
  unfold allB
  simp only [Int.toNat_natCast]
  rw [e, if_pos ⟨⟨by omega, by unfold fitsB; rw [putAt_len (by omega)]; omega⟩, rfl⟩]
theorem readB_put {M : List Sec} {a : Nat} {L : List Bk} {n : Int} {d : Dig} (h : a + L.length ≤ M.length) {i : Nat} {x : Bk} (hi : L[i]? = some x) : readB (putAt M a (L.map padB)) ⟨n, a, L.length, d⟩ i (fgB x) = (x, 0) := by
  have hl : (L.map padB).length = L.length := List.length_map _
  have hil := (List.getElem?_eq_some_iff.1 hi).1
  have hg : (putAt M a (L.map padB))[a + i]? = some (padB x) := by
    rw [putAt_get (by omega), if_pos ⟨by omega, by omega⟩, Nat.add_sub_cancel_left, List.getElem?_map, hi]; rfl
  unfold readB
  simp only
  rw [if_neg (by omega), if_neg (by unfold fitsB; rw [putAt_len (by omega)]; omega), show ((a : Int) + (i : Int)).toNat = a + i by omega, hg]
  simp only [headB_pad, if_true]
def bkA (x : UInt8) : Bk := ⟨x :: List.replicate 47 0, by simp⟩
theorem speaks10 (w : World) : Ret Try.prog 8 [].toArray w fun r w' => r = .bool true ∧ Keep All w w' := by
  refine enter (fn := Try.f8) (n := 49) Try.func8 rfl rfl (by simp) ?_
  refine W_seq ?_
  refine W_region ?_
  refine o_asc rfl ?_
  refine ops_nil ?_
  refine W_seq ?_
  refine W_region ?_
  refine op_call rfl rfl rfl (DV.new w 9 (by decide) (by decide)) ?_; rintro v1 w1 ⟨bD, rfl, hD1⟩
  refine o_mvt rfl ?_
  refine op_run (r_extract rfl rfl) rfl ?_
  refine op_run (r_extract rfl rfl) rfl ?_
  refine o_ast rfl ?_
  refine o_ast rfl ?_
  refine ops_nil ?_
  refine W_seq ?_
  refine W_cut [16] [11, 12, 13, 14, 15, 16] (fun vs w2 => vs = [.bool false] ∧ w2 = w1) ?_ ?_
  · refine W_region ?_
    refine o_mvt rfl ?_
    refine op_run (r_neq rfl rfl) rfl ?_
    refine o_mvt rfl ?_
    refine g_split rfl rfl rfl (fun g3 => ?_) (fun g3 => ?_)
    · refine o_mvt (g_yes rfl rfl rfl g3) ?_
      refine op_run (r_isNilP rfl rfl) (g_yes rfl rfl rfl g3) ?_
      refine o_pkFt rfl g3 rfl ?_
      refine ops_nil ?_
      exact ⟨by (repeat (first | with_reducible exact offM_refl _ _ | refine offM_updc rfl ?_ | refine offM_upd rfl ?_ | refine offM_updo rfl ?_ | refine offM_updo_none ?_ | refine offM_head rfl rfl ?_)), rfl, rfl⟩
    · refine op_skip (g_no rfl rfl rfl g3) ?_
      refine op_skip (g_no rfl rfl rfl g3) ?_
      refine o_pkTc rfl g3 rfl ?_
      refine ops_nil ?_
      exact absurd g3 (by decide)
  · rintro J6 vs w6 ⟨rfl, rfl⟩ -
    refine W_no rfl (rfl) ?_
    refine W_skip ?_
    refine W_seq ?_
    refine W_region ?_
    refine o_mvt rfl ?_
    refine op_run (r_buildA ((blkR (bkA 1))) (_) ([(0, c8 1)]) rfl rfl rfl rfl rfl (rfl)) rfl ?_
    refine op_run (r_buildA ((blkR (bkA 2))) (_) ([(0, c8 2)]) rfl rfl rfl rfl rfl (rfl)) rfl ?_
    refine o_bsR blkR blkR_len [bkA 1, bkA 2] rfl ti_bk rfl rfl rfl rfl rfl rfl ?_; intro w11 b11 e11 hB11 hk11 hs11
    have hD11 := hD1.fresh hk11 (Nat.le_of_eq e11.symm) (Keep.refl (A := (· ≠ b11)) w11) (by omega)
    have hS11 : Sl w11 (.slice (some ⟨b11, 0, none⟩) 2 2) 2 48 (rows blkR [bkA 1, bkA 2]) := (Own.blk (n := 2) (sz := 48) hB11 rfl (by unfold maxLen; omega)).sl
    have hE : wrE (Int.toNat 9) 1 2 [bkA 1, bkA 2] = 0 := (if_neg (by rintro (h | h); omega; cases h)).trans (if_pos (by decide))
    have hEB : wrB (Int.toNat 9) 1 2 [bkA 1, bkA 2] = ⟨1, (2 : Nat), ([bkA 1, bkA 2] : List Bk).length, rootB [bkA 1, bkA 2]⟩ := if_pos hE
    have hEM : wrM (Int.toNat 9) (List.replicate (Int.toNat 9) Sec.zero) 1 2 [bkA 1, bkA 2] = putAt (List.replicate (Int.toNat 9) Sec.zero) 2 ([bkA 1, bkA 2].map padB) := if_pos hE
    refine op_call rfl rfl rfl (bn_Write w _ bD _ 0 _ w11 hD11 1 2 _ [bkA 1, bkA 2] (fun w2 _ h2 => Sl.keep hS11 h2 (fun z hz => .inr (by obtain rfl : b11 = z := Option.some.inj hz; rfl))) (by decide) (by decide) (by decide) (by decide)) ?_; rintro v12 w12 ⟨rfl, hD12, hk12⟩
    rw [hE, hEB]
    rw [hEM] at hD12
    obtain ⟨B, hB⟩ : ∃ B : Bn, B = ⟨1, (2 : Nat), ([bkA 1, bkA 2] : List Bk).length, rootB [bkA 1, bkA 2]⟩ := ⟨_, rfl⟩
    rw [← hB]
    refine o_mvt rfl ?_
    refine op_run (r_extract rfl rfl) rfl ?_
    refine op_run (r_extract rfl rfl) rfl ?_
    refine o_alloc rfl rfl rfl ?_; intro w13 b13 e13 hB13 hk13 hs13
    refine o_storeA (cs := binV B) rfl rfl (by first | rfl | exact binV_one _ | exact dgR_one _ | exact refR_one _ | exact secR_one _ | exact all_c8 _ | exact blkR_one _) (by first | rfl | (rw [binV_len]; rfl) | (rw [dgR_len]; rfl) | (rw [refR_len]; rfl) | (rw [secR_len]; rfl) | (rw [List.length_map, tagF_len]; rfl) | (rw [blkR_len]; rfl)) hB13 (by simp [binV_len]) rfl ?_; intro w14 hB14 hk14 hs14
    have hB14 : Blk w14 b13 (binV B) 31 := by
      have h := hB14
      rwa [splice_all (by simp [binV_len])] at h
    have hD14 := hD12.fresh hk13 (Nat.le_of_eq e13.symm) hk14 (by omega)
    have hall : allB (putAt (List.replicate (Int.toNat 9) Sec.zero) 2 ([bkA 1, bkA 2].map padB)) B = some [bkA 1, bkA 2] := by rw [hB]; exact allB_put (by decide) (by rw [List.length_replicate]; decide)
    refine o_ast rfl ?_
    refine ops_nil ?_
    refine W_seq ?_
    refine W_region ?_
    refine o_mvt rfl ?_
    refine op_run (r_loadA (binV B) rfl rfl rfl (by first | rfl | (rw [binV_len]; rfl) | (rw [dgR_len]; rfl) | (rw [refR_len]; rfl) | (rw [secR_len]; rfl) | (rw [List.length_map, tagF_len]; rfl) | (rw [blkR_len]; rfl)) (hB14.all)) rfl ?_
    refine op_call rfl rfl rfl (bn_All w _ bD _ _ _ w14 hD14 B (by decide) (by rw [hB]; decide) (by rw [hB]; decide) (by decide)) ?_; rintro v16 w16 ⟨v, rfl, hS16, hk16⟩
    rw [hall] at hS16 ⊢
    obtain ⟨av, cv, rfl, hcv, hcvm⟩ := hS16.form
    obtain ⟨bp, op, rfl, hcell⟩ := rows_at' (i := 1) blkR_len hS16 (show 1 < ([bkA 1, bkA 2] : List Bk).length by decide) (by decide)
    refine o_mvt rfl ?_
    refine op_run (r_extract rfl rfl) rfl ?_
    refine op_run (r_extract rfl rfl) rfl ?_
    refine o_ast rfl ?_
    refine o_ast rfl ?_
    refine ops_nil ?_
    refine W_seq ?_
    refine W_region ?_
    refine o_mvt rfl ?_
    refine op_run (r_eql rfl rfl) rfl ?_
    refine o_mvt rfl ?_
    refine g_split rfl rfl rfl (fun g17 => ?_) (fun g => absurd g (by simp))
    refine o_mvt (g_yes rfl rfl rfl g17) ?_
    refine op_run (r_eql rfl rfl) (g_yes rfl rfl rfl g17) ?_
    refine o_pkTt rfl g17 rfl ?_
    refine o_mvt rfl ?_
    refine g_split rfl rfl rfl (fun g18 => ?_) (fun g => absurd g (by simp))
    refine o_mvt (g_yes rfl rfl rfl g18) ?_
    refine op_run (r_len rfl rfl rfl) (g_yes rfl rfl rfl g18) ?_
    refine op_run (r_eql rfl rfl) (g_yes rfl rfl rfl g18) ?_
    refine o_pkTt rfl g18 rfl ?_
    refine o_mvt rfl ?_
    refine g_split rfl rfl rfl (fun g19 => ?_) (fun g => absurd g (by simp))
    refine o_mvt (g_yes rfl rfl rfl g19) ?_
    refine op_run (r_idxS rfl rfl rfl ti_bk (by decide) (by decide)) (g_yes rfl rfl rfl g19) ?_
    refine op_run (r_loadA (blkR (bkA 2)) rfl rfl rfl (by first | rfl | (rw [binV_len]; rfl) | (rw [dgR_len]; rfl) | (rw [refR_len]; rfl) | (rw [secR_len]; rfl) | (rw [List.length_map, tagF_len]; rfl) | (rw [blkR_len]; rfl)) (hcell)) (g_yes rfl rfl rfl g19) ?_
    refine op_run (r_buildA ((blkR (bkA 2))) (_) ([(0, c8 2)]) rfl rfl rfl rfl rfl (rfl)) (g_yes rfl rfl rfl g19) ?_
    refine op_run (r_eqlC (p := True) rfl rfl rfl rfl (by kernel_rfl) (okC_bk _) (okC_bk _) rfl (⟨fun _ => trivial, fun _ => rfl⟩)) (g_yes rfl rfl rfl g19) ?_
    refine o_pkTt rfl g19 rfl ?_
    refine o_ast rfl ?_
    refine ops_nil ?_
    refine W_ret ?_
    refine ret1 (.bool (decide True)) rfl ?_ ?_; rfl
    exact ⟨rfl, hD14.kw.trans hk16⟩
theorem walk_BinCodes (w : World) (r : Bn) (v : Value) (bs : List UInt8) (hv : By w v bs) :
    Ret Try.prog 5 [.agg (binV r).toArray, v].toArray w fun u w' => u = .bool true ∧ Keep All w w' := by
  obtain ⟨a0, c0, rfl, hc0, hcm0⟩ := hv.form
  refine enter (fn := Try.f5) (n := 83) Try.func5 rfl rfl (by simp) ?_
  refine W_seq ?_
  refine W_region ?_
  refine o_box rfl rfl rfl ?_; intro w1 b1 e1 hB1 hk1 hs1
  have hB1 : Blk w1 b1 (binV r) 31 := hB1
  refine o_asc rfl ?_
  refine ops_nil ?_
  refine W_seq ?_
  refine W_seq ?_
  refine W_region ?_
  refine op_call rfl rfl rfl (speaks10 w1) ?_; rintro v2 w2 ⟨rfl, hk2⟩
  have hkw2 := hk1.trans hk2
  have hB2 := hk2.blk' hB1 trivial
  refine op_run (r_not rfl) rfl ?_
  refine ops_nil ?_
  refine W_no rfl (rfl) ?_
  refine W_skip ?_
  refine W_seq ?_
  refine W_seq ?_
  refine W_region ?_
  refine o_mvt rfl ?_
  refine op_run (r_len rfl rfl rfl) rfl ?_
  refine op_run (r_gtr rfl rfl) rfl ?_
  refine ops_nil ?_
  refine W_cond_p rfl (fun h5 => ?_) (fun h5 => ?_)
  · refine W_seq ?_
    refine W_region ?_
    refine o_asc rfl ?_
    refine ops_nil ?_
    refine W_ret ?_
    refine ret1 (.bool true) rfl ?_ ?_; rfl
    exact ⟨rfl, hkw2⟩
  · refine W_skip ?_
    refine W_seq ?_
    refine W_region ?_
    have hbl : bs.length ≤ 300 := by omega
    have hz2 := hkw2.size
    refine o_bs0 rfl rfl rfl ?_; intro w7 b7 e7 hB7 hk7 hs7
    refine o_mvt rfl ?_
    refine o_appS (v := .slice (some ⟨b7, 0, none⟩) 0 0) (m := 0) (xs := []) rfl rfl (hv.k (hkw2.trans hk7)) rfl ti_u8 rfl rfl (Own.blk (n := 0) hB7 rfl (Nat.zero_le _)) (all_c8 _) (by unfold maxLen; omega) (by omega) rfl ?_; intro v8 w8 hown8 hk8 hb8
    have hown8 : OwnB w8 5 v8 bs := by have h := OwnB.app (xs := []) hown8; exact h
    have hk28 : Keep All w2 w8 := hk7.own hk8 (fun z hz _ => by obtain rfl : b7 = z := Option.some.inj hz; omega)
    refine op_call rfl rfl rfl (pack_From w8 v8 bs (OwnB.by_ hown8) (by omega)) ?_; rintro v9 w9 ⟨bI, rfl, hbI, hI9, hk9⟩
    refine o_mvt rfl ?_
    refine op_run (r_build ([.slice a0 bs.length c0, .int .i64 0, .bool false]) (_) ([(0, .slice a0 bs.length c0)]) rfl rfl rfl rfl rfl (rfl)) rfl ?_
    refine o_box (cs := [.slice a0 bs.length c0, .int .i64 0, .bool false]) rfl rfl rfl ?_; intro w11 b11 e11 hB11 hk11 hs11
    have hk211 : Keep All w2 w11 := (hk28.trans hk9).trans hk11
    have hv11 := hv.k (hkw2.trans hk211)
    have hR11 : RIn w11 b11 (fun k => k < w.heap.size) bs false := RIn.new hB11 hv11 hv.ltE (by omega)
    have hI11 := hI9.keep hk11 trivial (fun _ _ => trivial)
    have hbIl : bI < w9.heap.size := by obtain ⟨_, h, _⟩ := hI9; exact h.lt
    have hz8 := hk28.size
    have hz11 := hk11.size
    refine o_ast rfl ?_
    refine o_ast rfl ?_
    refine ops_nil ?_
    refine W_seq ?_
    refine W_cut [32] [21, 22, 23, 24, 25, 26, 27, 28, 29, 30, 31, 32] (fun vs w12 => vs = [.bool false] ∧ Keep (fun k => k ≠ bI ∧ k ≠ b11) w11 w12) ?_ ?_
    · refine W_region ?_
      refine o_mvt rfl ?_
      refine op_call rfl rfl rfl (bn_Take w11 bI _ bs false (fun h => Nat.lt_irrefl _ h.2) (fun k hk => by have := hk.2; omega) hI11) ?_; rintro v13 w13 ⟨rfl, hI13, hk13⟩
      refine o_mvt rfl ?_
      refine op_call rfl rfl rfl (rf10_Take w13 b11 _ bs false (by omega) (fun k hk => by have := hk13.size; omega) (hR11.keep' hk13 (show b11 ≠ bI by omega) (fun k _ hk e => by omega))) ?_; rintro v14 w14 ⟨rfl, hR14, hk14⟩
      refine op_run (r_neqC (p := True) rfl rfl rfl rfl (by kernel_rfl) (okC_bin _) (okC_bin _) rfl (⟨fun _ => trivial, fun _ => rfl⟩)) rfl ?_
      refine o_mvt rfl ?_
      refine g_split rfl rfl rfl (fun g16 => ?_) (fun g => absurd g (by simp))
      refine o_mvt (g_yes rfl rfl rfl g16) ?_
      refine op_call rfl rfl (g_yes rfl rfl rfl g16) (in_Done w14 bI _ _ _ (hI13.keep hk14 (show bI ≠ b11 by omega) (fun k hk e => by have := hk.2; omega))) ?_; rintro v17 w17 ⟨rfl, hk17⟩
      refine o_mvt (g_yes rfl rfl rfl g16) ?_
      refine op_call rfl rfl (g_yes rfl rfl rfl g16) (rn_Done w17 b11 _ _ _ (hR14.k hk17)) ?_; rintro v18 w18 ⟨rfl, hk18⟩
      refine op_run (r_neq rfl rfl) (g_yes rfl rfl rfl g16) ?_
      refine o_pkFt rfl g16 rfl ?_
      refine ops_nil ?_
      exact ⟨by (repeat (first | with_reducible exact offM_refl _ _ | refine offM_updc rfl ?_ | refine offM_upd rfl ?_ | refine offM_updo rfl ?_ | refine offM_updo_none ?_ | refine offM_head rfl rfl ?_)), congrArg (fun b => [Value.bool b]) (by simp), (((hk13.mono fun k _ h => h.1).trans (hk14.mono fun k _ h => h.2)).trans hk17.all).trans hk18.all⟩
    · rintro J20 vs w20 ⟨rfl, hk20⟩ -
      have hkE : Keep All w2 w20 := hk211.outA (B := fun k => k = bI ∨ k = b11) (hk20.mono fun k _ h => ⟨fun e => h (.inl e), fun e => h (.inr e)⟩) (fun k h => by rcases h with rfl | rfl <;> omega)
      have hB20 := hkE.blk' hB2 trivial
      have hlr := encBn_len r
      refine W_no rfl (rfl) ?_
      refine W_skip ?_
      refine W_seq ?_
      refine W_region ?_
      refine op_run (r_loadA (binV r) rfl rfl rfl (by first | rfl | (rw [binV_len]; rfl) | (rw [dgR_len]; rfl) | (rw [refR_len]; rfl) | (rw [secR_len]; rfl) | (rw [List.length_map, tagF_len]; rfl)) (hB20.all)) rfl ?_
      refine op_call rfl rfl rfl (bn_Put w20 _ [] r (own_nil _ _ _) (by decide)) ?_; rintro v24 w24 ⟨hown24, hk24, hb24⟩
      have hk24A : Keep All w20 w24 := hk24.mono fun z _ _ h => by cases h
      have hlt2 := hB20.lt
      refine o_ast rfl ?_
      refine ops_nil ?_
      refine W_seq ?_
      refine W_seq ?_
      refine W_region ?_
      refine o_mvt rfl ?_
      refine op_run (r_loadA (binV r) rfl rfl rfl (by first | rfl | (rw [binV_len]; rfl) | (rw [dgR_len]; rfl) | (rw [refR_len]; rfl) | (rw [secR_len]; rfl) | (rw [List.length_map, tagF_len]; rfl)) ((hk24A.blk' hB20 trivial).all)) rfl ?_
      refine op_call rfl rfl rfl (rf10_Put w24 _ [] r (own_nil _ _ _) (by decide)) ?_; rintro v26 w26 ⟨hown26, hk26, hb26⟩
      have hk26A : Keep All w24 w26 := hk26.mono fun z _ _ h => by cases h
      have hkPQ := hk24A.trans hk26A
      have hown24' : OwnB w26 5 v24 ([] ++ encBn r) := hown24.keep hk26A (fun _ _ => trivial)
      rw [List.nil_append] at hown24' hown26
      refine op_call rfl rfl rfl (ref01_Same w26 v24 v26 _ _ (OwnB.by_ hown24') (OwnB.by_ hown26)) ?_; rintro v27 w27 ⟨rfl, hk27⟩
      have hB27 := (hkPQ.trans hk27).blk' hB20 trivial
      refine op_run (r_not rfl) rfl ?_
      refine ops_nil ?_
      refine W_no rfl (by simp) ?_
      refine W_skip ?_
      refine W_seq ?_
      refine W_region ?_
      refine o_mvt rfl ?_
      refine op_call rfl rfl rfl (pack_From w27 _ (encBn r) ((OwnB.by_ hown24').k hk27) (by omega)) ?_; rintro v30 w30 ⟨bN, rfl, hbN, hI30, hk30⟩
      have hbNl : bN < w30.heap.size := by obtain ⟨_, h, _⟩ := hI30; exact h.lt
      have hB30 := hk30.blk' hB27 trivial
      have hkF := (hkw2.trans hkE).trans (hkPQ.trans hk27)
      refine o_ast rfl ?_
      refine ops_nil ?_
      refine W_cut [8] [8, 42, 43, 44, 45, 46, 47, 48, 49, 50, 51, 52, 53, 54, 55, 56, 57, 58, 59, 60, 61, 62, 63, 64, 65, 66, 67, 68, 69] (fun vs w31 => vs = [.bool (decide r.may)] ∧ w31 = w30) ?_ ?_
      · refine W_region ?_
        refine op_run (r_fieldAddr rfl rfl rfl rfl rfl) rfl ?_
        refine op_run (r_load rfl rfl rfl (hB30.cell rfl)) rfl ?_
        refine op_run (r_geq rfl rfl) rfl ?_
        refine o_mvt rfl ?_
        refine g_split rfl rfl rfl (fun g33 => ?_) (fun g33 => ?_)
        · refine op_run (r_fieldAddr rfl rfl rfl rfl rfl) (g_yes rfl rfl rfl g33) ?_
          refine op_run (r_load rfl rfl rfl (hB30.cell rfl)) (g_yes rfl rfl rfl g33) ?_
          refine op_run (r_leq rfl rfl) (g_yes rfl rfl rfl g33) ?_
          refine o_pkTt rfl g33 rfl ?_
          refine o_mvt rfl ?_
          refine g_split rfl rfl rfl (fun g35 => ?_) (fun g35 => ?_)
          · refine op_run (r_fieldAddr rfl rfl rfl rfl rfl) (g_yes rfl rfl rfl g35) ?_
            refine op_run (r_load rfl rfl rfl (hB30.cell rfl)) (g_yes rfl rfl rfl g35) ?_
            refine op_run (r_geq rfl rfl) (g_yes rfl rfl rfl g35) ?_
            refine o_pkTt rfl g35 rfl ?_
            refine o_mvt rfl ?_
            refine g_split rfl rfl rfl (fun g37 => ?_) (fun g37 => ?_)
            · refine op_run (r_fieldAddr rfl rfl rfl rfl rfl) (g_yes rfl rfl rfl g37) ?_
              refine op_run (r_load rfl rfl rfl (hB30.cell rfl)) (g_yes rfl rfl rfl g37) ?_
              refine op_run (r_lss rfl rfl) (g_yes rfl rfl rfl g37) ?_
              refine o_pkTt rfl g37 rfl ?_
              refine o_mvt rfl ?_
              refine g_split rfl rfl rfl (fun g39 => ?_) (fun g39 => ?_)
              · refine op_run (r_fieldAddr rfl rfl rfl rfl rfl) (g_yes rfl rfl rfl g39) ?_
                refine op_run (r_load rfl rfl rfl (hB30.cell rfl)) (g_yes rfl rfl rfl g39) ?_
                refine op_run (r_geq rfl rfl) (g_yes rfl rfl rfl g39) ?_
                refine o_pkTt rfl g39 rfl ?_
                refine o_mvt rfl ?_
                refine g_split rfl rfl rfl (fun g41 => ?_) (fun g41 => ?_)
                · refine op_run (r_fieldAddr rfl rfl rfl rfl rfl) (g_yes rfl rfl rfl g41) ?_
                  refine op_run (r_load rfl rfl rfl (hB30.cell rfl)) (g_yes rfl rfl rfl g41) ?_
                  refine op_run (r_leq rfl rfl) (g_yes rfl rfl rfl g41) ?_
                  refine o_pkTt rfl g41 rfl ?_
                  refine o_ast rfl ?_
                  refine ops_nil ?_
                  exact ⟨by (repeat (first | with_reducible exact offM_refl _ _ | refine offM_updc rfl ?_ | refine offM_upd rfl ?_ | refine offM_updo rfl ?_ | refine offM_updo_none ?_ | refine offM_head rfl rfl ?_)), congrArg (fun b => [Value.bool b]) (by
                    have g33 := of_decide_eq_true g33; have g35 := of_decide_eq_true g35; have g37 := of_decide_eq_true g37; have g39 := of_decide_eq_true g39; have g41 := of_decide_eq_true g41
                    rw [decide_eq_decide]; unfold Bn.may; omega), rfl⟩
                · refine op_skip (g_no rfl rfl rfl g41) ?_
                  refine op_skip (g_no rfl rfl rfl g41) ?_
                  refine op_skip (g_no rfl rfl rfl g41) ?_
                  refine o_pkFc rfl g41 rfl ?_
                  refine o_ast rfl ?_
                  refine ops_nil ?_
                  exact ⟨by (repeat (first | with_reducible exact offM_refl _ _ | refine offM_updc rfl ?_ | refine offM_upd rfl ?_ | refine offM_updo rfl ?_ | refine offM_updo_none ?_ | refine offM_head rfl rfl ?_)), congrArg (fun b => [Value.bool b]) (by have g := of_decide_eq_false g41; symm; apply decide_eq_false; unfold Bn.may; omega), rfl⟩
              · refine op_skip (g_no rfl rfl rfl g39) ?_
                refine op_skip (g_no rfl rfl rfl g39) ?_
                refine op_skip (g_no rfl rfl rfl g39) ?_
                refine o_pkFc rfl g39 rfl ?_
                refine o_mvt rfl ?_
                refine op_skip (g_no rfl rfl rfl rfl) ?_
                refine op_skip (g_no rfl rfl rfl rfl) ?_
                refine op_skip (g_no rfl rfl rfl rfl) ?_
                refine o_pkFc rfl rfl rfl ?_
                refine o_ast rfl ?_
                refine ops_nil ?_
                exact ⟨by (repeat (first | with_reducible exact offM_refl _ _ | refine offM_updc rfl ?_ | refine offM_upd rfl ?_ | refine offM_updo rfl ?_ | refine offM_updo_none ?_ | refine offM_head rfl rfl ?_)), congrArg (fun b => [Value.bool b]) (by have g := of_decide_eq_false g39; symm; apply decide_eq_false; unfold Bn.may; omega), rfl⟩
            · refine op_skip (g_no rfl rfl rfl g37) ?_
              refine op_skip (g_no rfl rfl rfl g37) ?_
              refine op_skip (g_no rfl rfl rfl g37) ?_
              refine o_pkFc rfl g37 rfl ?_
              refine o_mvt rfl ?_
              refine op_skip (g_no rfl rfl rfl rfl) ?_
              refine op_skip (g_no rfl rfl rfl rfl) ?_
              refine op_skip (g_no rfl rfl rfl rfl) ?_
              refine o_pkFc rfl rfl rfl ?_
              refine o_mvt rfl ?_
              refine op_skip (g_no rfl rfl rfl rfl) ?_
              refine op_skip (g_no rfl rfl rfl rfl) ?_
              refine op_skip (g_no rfl rfl rfl rfl) ?_
              refine o_pkFc rfl rfl rfl ?_
              refine o_ast rfl ?_
              refine ops_nil ?_
              exact ⟨by (repeat (first | with_reducible exact offM_refl _ _ | refine offM_updc rfl ?_ | refine offM_upd rfl ?_ | refine offM_updo rfl ?_ | refine offM_updo_none ?_ | refine offM_head rfl rfl ?_)), congrArg (fun b => [Value.bool b]) (by have g := of_decide_eq_false g37; symm; apply decide_eq_false; unfold Bn.may; omega), rfl⟩
          · refine op_skip (g_no rfl rfl rfl g35) ?_
            refine op_skip (g_no rfl rfl rfl g35) ?_
            refine op_skip (g_no rfl rfl rfl g35) ?_
            refine o_pkFc rfl g35 rfl ?_
            refine o_mvt rfl ?_
            refine op_skip (g_no rfl rfl rfl rfl) ?_
            refine op_skip (g_no rfl rfl rfl rfl) ?_
            refine op_skip (g_no rfl rfl rfl rfl) ?_
            refine o_pkFc rfl rfl rfl ?_
            refine o_mvt rfl ?_
            refine op_skip (g_no rfl rfl rfl rfl) ?_
            refine op_skip (g_no rfl rfl rfl rfl) ?_
            refine op_skip (g_no rfl rfl rfl rfl) ?_
            refine o_pkFc rfl rfl rfl ?_
            refine o_mvt rfl ?_
            refine op_skip (g_no rfl rfl rfl rfl) ?_
            refine op_skip (g_no rfl rfl rfl rfl) ?_
            refine op_skip (g_no rfl rfl rfl rfl) ?_
            refine o_pkFc rfl rfl rfl ?_
            refine o_ast rfl ?_
            refine ops_nil ?_
            exact ⟨by (repeat (first | with_reducible exact offM_refl _ _ | refine offM_updc rfl ?_ | refine offM_upd rfl ?_ | refine offM_updo rfl ?_ | refine offM_updo_none ?_ | refine offM_head rfl rfl ?_)), congrArg (fun b => [Value.bool b]) (by have g := of_decide_eq_false g35; symm; apply decide_eq_false; unfold Bn.may; omega), rfl⟩
        · refine op_skip (g_no rfl rfl rfl g33) ?_
          refine op_skip (g_no rfl rfl rfl g33) ?_
          refine op_skip (g_no rfl rfl rfl g33) ?_
          refine o_pkFc rfl g33 rfl ?_
          refine o_mvt rfl ?_
          refine op_skip (g_no rfl rfl rfl rfl) ?_
          refine op_skip (g_no rfl rfl rfl rfl) ?_
          refine op_skip (g_no rfl rfl rfl rfl) ?_
          refine o_pkFc rfl rfl rfl ?_
          refine o_mvt rfl ?_
          refine op_skip (g_no rfl rfl rfl rfl) ?_
          refine op_skip (g_no rfl rfl rfl rfl) ?_
          refine op_skip (g_no rfl rfl rfl rfl) ?_
          refine o_pkFc rfl rfl rfl ?_
          refine o_mvt rfl ?_
          refine op_skip (g_no rfl rfl rfl rfl) ?_
          refine op_skip (g_no rfl rfl rfl rfl) ?_
          refine op_skip (g_no rfl rfl rfl rfl) ?_
          refine o_pkFc rfl rfl rfl ?_
          refine o_mvt rfl ?_
          refine op_skip (g_no rfl rfl rfl rfl) ?_
          refine op_skip (g_no rfl rfl rfl rfl) ?_
          refine op_skip (g_no rfl rfl rfl rfl) ?_
          refine o_pkFc rfl rfl rfl ?_
          refine o_ast rfl ?_
          refine ops_nil ?_
          exact ⟨by (repeat (first | with_reducible exact offM_refl _ _ | refine offM_updc rfl ?_ | refine offM_upd rfl ?_ | refine offM_updo rfl ?_ | refine offM_updo_none ?_ | refine offM_head rfl rfl ?_)), congrArg (fun b => [Value.bool b]) (by have g := of_decide_eq_false g33; symm; apply decide_eq_false; unfold Bn.may; omega), rfl⟩
      · rintro J49 vs w49 ⟨rfl, rfl⟩ -
        refine W_seq ?_
        refine W_held (fun w' => Keep (fun k => k ≠ bN) w49 w') (by kernel_rfl) ((Keep.drawn w49).all) (fun hS => ?_)
        refine any_mvt 0 rfl (by kernel_rfl) (by kernel_rfl) (by kernel_rfl) rfl hS ?_
        refine any_run 1 (fun w' hS' => (r_not rfl)) rfl (by kernel_rfl) (by kernel_rfl) (by kernel_rfl) rfl hS ?_
        refine any_mvt 2 rfl (by kernel_rfl) (by kernel_rfl) (by kernel_rfl) rfl hS ?_
        refine a_split 72 false rfl (fun g51 => ?_) (fun g51 => ?_)
        · refine any_mvt 3 rfl (by kernel_rfl) (by kernel_rfl) (by kernel_rfl) (g_yes rfl rfl rfl (by rw [g51] <;> rfl)) hS ?_
          have hmay : r.may := by simpa using g51
          refine any_run 5 (fun w' hS' => (r_loadA (binV r) rfl rfl rfl (by first | rfl | (rw [binV_len]; rfl) | (rw [dgR_len]; rfl) | (rw [refR_len]; rfl) | (rw [secR_len]; rfl) | (rw [List.length_map, tagF_len]; rfl)) ((hS'.blk' hB30 (show b1 ≠ bN by have := hB27.lt; omega)).all))) rfl (by kernel_rfl) (by kernel_rfl) (by kernel_rfl) (g_yes rfl rfl rfl (by rw [g51] <;> rfl)) hS ?_
          refine any_one 4 (by kernel_rfl) (one_of rfl ?_)
          refine op_call rfl rfl (g_yes rfl rfl rfl (by rw [g51] <;> rfl)) (bn_Take _ bN _ (encBn r) false (fun h => Nat.lt_irrefl _ h.2) (fun k hk => by have := hk.2; show k < w49.heap.size; omega) (hI30.keep (Keep.drawn w49) trivial (fun _ _ => trivial))) ?_; rintro v53 w53 ⟨rfl, hI53, hk53⟩
          have hrr : bnR (encBn r) false = (r, [], false) := by have h := bnR_enc hmay []; rwa [List.append_nil] at h
          rw [hrr] at hI53 ⊢
          refine ops_nil ⟨hS.trans hk53, fun hS => ?_⟩
          refine any_run 6 (fun w' hS' => (r_eqlC (p := True) rfl rfl rfl rfl (by kernel_rfl) (okC_bin _) (okC_bin _) rfl (⟨fun _ => trivial, fun _ => rfl⟩))) rfl (by kernel_rfl) (by kernel_rfl) (by kernel_rfl) (g_yes rfl rfl rfl (by rw [g51] <;> rfl)) hS ?_
          refine any_mvt 7 rfl (by kernel_rfl) (by kernel_rfl) (by kernel_rfl) (g_yes rfl rfl rfl (by rw [g51] <;> rfl)) hS ?_
          refine a_split 77 true rfl (fun g56 => ?_) (fun g => absurd g (by simp))
          refine any_mvt 8 rfl (by kernel_rfl) (by kernel_rfl) (by kernel_rfl) (g_yes rfl rfl rfl g56) hS ?_
          refine any_one 9 (by kernel_rfl) (one_of rfl ?_)
          refine op_call rfl rfl (g_yes rfl rfl rfl g56) (in_Done w53 bN _ _ _ hI53) ?_; rintro v57 w57 ⟨rfl, hk57⟩
          refine ops_nil ⟨hS.trans hk57.all, fun hS => ?_⟩
          refine any_run 10 (fun w' hS' => (r_eql rfl rfl)) rfl (by kernel_rfl) (by kernel_rfl) (by kernel_rfl) (g_yes rfl rfl rfl g56) hS ?_
          refine any_run 11 (fun w' hS' => (r_pickT rfl g56)) rfl (by kernel_rfl) (by kernel_rfl) (by kernel_rfl) (g_yes rfl rfl rfl (by rw [g51] <;> rfl)) hS ?_
          refine any_run 12 (fun w' hS' => (r_pickF rfl (by rw [g51] <;> rfl))) rfl (by kernel_rfl) (by kernel_rfl) (by kernel_rfl) rfl hS ?_
          refine any_ast 13 rfl (by kernel_rfl) (by kernel_rfl) (by kernel_rfl) rfl hS ?_
          refine any_done (by kernel_rfl) ?_
          refine W_ret ?_
          refine ret1 (.bool true) rfl ?_ ?_; rfl
          exact ⟨rfl, (hkF.trans hk30).new hS (by have := hkF.size; omega)⟩
        · refine any_skip 3 rfl (by kernel_rfl) (by kernel_rfl) (by kernel_rfl) (g_no rfl rfl rfl (by rw [g51] <;> rfl)) hS ?_
          refine any_skip 5 rfl (by kernel_rfl) (by kernel_rfl) (by kernel_rfl) (g_no rfl rfl rfl (by rw [g51] <;> rfl)) hS ?_
          refine any_one 4 (by kernel_rfl) (one_of rfl ?_)
          refine op_skip (g_no rfl rfl rfl (by rw [g51] <;> rfl)) ?_
          refine ops_nil ⟨hS, fun hS => ?_⟩
          refine any_skip 6 rfl (by kernel_rfl) (by kernel_rfl) (by kernel_rfl) (g_no rfl rfl rfl (by rw [g51] <;> rfl)) hS ?_
          refine any_skip 7 rfl (by kernel_rfl) (by kernel_rfl) (by kernel_rfl) (g_no rfl rfl rfl (by rw [g51] <;> rfl)) hS ?_
          refine any_skip 8 rfl (by kernel_rfl) (by kernel_rfl) (by kernel_rfl) (g_und rfl rfl rfl) hS ?_
          refine any_one 9 (by kernel_rfl) (one_of rfl ?_)
          refine op_skip (g_und rfl rfl rfl) ?_
          refine ops_nil ⟨hS, fun hS => ?_⟩
          refine any_skip 10 rfl (by kernel_rfl) (by kernel_rfl) (by kernel_rfl) (g_und rfl rfl rfl) hS ?_
          refine any_skip 11 rfl (by kernel_rfl) (by kernel_rfl) (by kernel_rfl) (g_no rfl rfl rfl (by rw [g51] <;> rfl)) hS ?_
          refine any_run 12 (fun w' hS' => (r_pickT rfl (by rw [g51] <;> rfl))) rfl (by kernel_rfl) (by kernel_rfl) (by kernel_rfl) rfl hS ?_
          refine any_ast 13 rfl (by kernel_rfl) (by kernel_rfl) (by kernel_rfl) rfl hS ?_
          refine any_done (by kernel_rfl) ?_
          refine W_ret ?_
          refine ret1 (.bool true) rfl ?_ ?_; rfl
          exact ⟨rfl, (hkF.trans hk30).new hS (by have := hkF.size; omega)⟩
end Go.Proofs.Ytigehkfdfecfoaa.B
