/-
  slots: the document's example.
-/
import Derived.Test.YtcbbodjcgjbfaaaSlots3
namespace Go.Proofs.Ytcbbodjcgjbfaaa.B
open Go
set_option linter.unusedVariables false
set_option maxHeartbeats 2000000
set_option maxRecDepth 100000
attribute [local irreducible] W OpsW OpsQ retP
theorem told_zero : told Sec.zero.val = none := by
  cases h : told Sec.zero.val with
  | none => rfl
  | some r =>
    have h1 := (told_iff.1 h).2
    have h2 : (laidB r)[0]? = some 1 := rfl
    rw [h1] at h2
    exact absurd h2 (by decide)
theorem rdS_some {M : List Sec} {i : Nat} {s : Sec} (hi : i < 2) (h : M[i]? = some s) : rdS M i = told s.val := by
  unfold rdS
  rw [if_pos ⟨by omega, by omega⟩, Int.toNat_natCast, h]; rfl
theorem told_laidS {r : Rf} (h : r.may) : told (laidS r).val = some r := told_laid h
def dig7 : Dig := ⟨7 :: List.replicate 31 0, by simp⟩
def r7 : Rf := ⟨dig7, 300, 9⟩
theorem may7 : r7.may := by decide
theorem find7a : findS (List.replicate (Int.toNat 3) Sec.zero) dig7 = none := by
  have h0 : rdS (List.replicate (Int.toNat 3) Sec.zero) ((0 : Nat) : Int) = none := (rdS_some (by decide) rfl).trans told_zero
  have h1 : rdS (List.replicate (Int.toNat 3) Sec.zero) ((1 : Nat) : Int) = none := (rdS_some (by decide) rfl).trans told_zero
  unfold findS fnd
  rw [h0, h1]; rfl
theorem find7b : findS ((List.replicate (Int.toNat 3) Sec.zero).set (3 % 2) (laidS r7)) dig7 = some r7 := by
  have h0 : rdS ((List.replicate (Int.toNat 3) Sec.zero).set (3 % 2) (laidS r7)) ((0 : Nat) : Int) = none := (rdS_some (by decide) rfl).trans told_zero
  have h1 : rdS ((List.replicate (Int.toNat 3) Sec.zero).set (3 % 2) (laidS r7)) ((1 : Nat) : Int) = some r7 := (rdS_some (by decide) rfl).trans (told_laidS may7)
  unfold findS fnd
  rw [h0, h1]; rfl

theorem speaks14 (w : World) : Ret Try.prog 5 [].toArray w fun r w' => r = .bool true ∧ Keep All w w' := by
  refine enter (fn := Try.f5) (n := 58) Try.func5 rfl rfl (by simp) ?_
  refine W_seq ?_
  refine W_region ?_
  refine o_asc rfl ?_
  refine ops_nil ?_
  refine W_seq ?_
  refine W_region ?_
  refine op_call rfl rfl rfl (DV.new w 3 (by decide) (by decide)) ?_; rintro v1 w1 ⟨b1, rfl, hD1⟩
  refine o_mvt rfl ?_
  refine op_run (r_extract rfl rfl) rfl ?_
  refine op_run (r_extract rfl rfl) rfl ?_
  refine o_ast rfl ?_
  refine o_ast rfl ?_
  refine ops_nil ?_
  refine W_seq ?_
  refine W_cut [18] [13, 14, 15, 16, 17, 18] (fun vs w2 => vs = [.bool false] ∧ w2 = w1) ?_ ?_
  · refine W_region ?_
    refine o_mvt rfl ?_
    refine op_run (r_neq rfl rfl) rfl ?_
    refine o_mvt rfl ?_
    refine g_split rfl rfl rfl (fun g3 => ?_) (fun g3 => ?_)
    · refine o_mvt (g_yes rfl rfl rfl g3) ?_
      refine op_run (r_isNilP rfl rfl) (g_yes rfl rfl rfl g3) ?_
      refine o_pkFt rfl g3 rfl ?_
      refine ops_nil ?_
      exact ⟨by (repeat (first | with_reducible exact offM_refl _ _ | refine offM_updc rfl ?_ | refine offM_upd rfl ?_ | refine offM_updo rfl ?_ | refine offM_updo_none ?_ | refine offM_head rfl rfl ?_)), rfl, rfl⟩
    · refine op_skip (g_no rfl rfl rfl g3) ?_
      refine op_skip (g_no rfl rfl rfl g3) ?_
      refine o_pkTc rfl g3 rfl ?_
      refine ops_nil ?_
      exact absurd g3 (by decide)
  · rintro J6 vs w6 ⟨rfl, rfl⟩ -
    refine W_no rfl (rfl) ?_
    refine W_skip ?_
    refine W_seq ?_
    refine W_region ?_
    refine op_run (r_buildA ((dgR dig7)) ((List.replicate 32 (c8 0))) ([(0, .int .u8 7)]) rfl rfl rfl rfl rfl (rfl)) rfl ?_
    refine op_run (r_build ((refR r7)) ((refR Rf.zero)) ([(0, .agg (dgR dig7).toArray), (1, .int .i64 300), (2, .int .i64 9)]) rfl rfl rfl rfl rfl (rfl)) rfl ?_
    refine o_alloc rfl rfl rfl ?_; intro w11 b11 e11 hB11 hk11 hs11
    refine o_storeA (cs := refR r7) rfl rfl (by first | rfl | exact dgR_one _ | exact refR_one _ | exact secR_one _ | exact all_c8 _) (by first | rfl | (rw [dgR_len]; rfl) | (rw [refR_len]; rfl) | (rw [secR_len]; rfl) | (rw [List.length_map, tagF_len]; rfl)) hB11 (by exact Nat.le_of_eq (by simp [refR_len])) rfl ?_; intro w12 hB12 hk12 hs12
    rw [splice_all (by simp [refR_len])] at hB12
    have hB12 : Blk w12 b11 (refR r7) 26 := hB12
    have hD12 := hD1.fresh hk11 (Nat.le_of_eq e11.symm) hk12 (by omega)
    refine ops_nil ?_
    refine W_seq ?_
    refine W_region ?_
    refine o_mvt rfl ?_
    refine op_run (r_fieldAddr rfl rfl rfl rfl rfl) rfl ?_
    refine op_run (r_loadA (dgR dig7) rfl rfl rfl (by first | rfl | (rw [dgR_len]; rfl) | (rw [refR_len]; rfl) | (rw [secR_len]; rfl) | (rw [List.length_map, tagF_len]; rfl)) ((fun j v hj => by rw [Addr.add_lit]; show w12.cell? ⟨b11, 0 + 0 + j, none⟩ = some v; rw [Nat.zero_add]; exact hB12.cell (refR_dig r7 hj)))) rfl ?_
    refine op_call rfl rfl rfl (hD12.sfind dig7 (by decide) (by decide)) ?_; rintro v14 w14 ⟨rfl, hk14⟩
    rw [find7a]
    refine o_mvt rfl ?_
    refine op_run (r_extract rfl rfl) rfl ?_
    refine op_run (r_extract rfl rfl) rfl ?_
    refine o_alloc rfl rfl rfl ?_; intro w15 b15 e15 hB15 hk15 hs15
    refine o_storeA (cs := refR Rf.zero) rfl rfl (by first | rfl | exact dgR_one _ | exact refR_one _ | exact secR_one _ | exact all_c8 _) (by first | rfl | (rw [dgR_len]; rfl) | (rw [refR_len]; rfl) | (rw [secR_len]; rfl) | (rw [List.length_map, tagF_len]; rfl)) hB15 (by exact Nat.le_of_eq (by simp [refR_len])) rfl ?_; intro w16 hB16 hk16 hs16
    have hB16 : Blk w16 b15 (refR Rf.zero) 26 := by
      have h := hB16
      rwa [splice_all (by simp [refR_len])] at h
    have hD16 := (hD12.keep hk14).fresh hk15 (Nat.le_of_eq e15.symm) hk16 (by omega)
    have hB12' := hk16.blk' (hk15.blk' (hk14.blk' hB12 trivial) trivial) (show b11 ≠ b15 by have := hk14.size; omega)
    refine o_ast rfl ?_
    refine ops_nil ?_
    refine W_seq ?_
    refine W_region ?_
    refine o_mvt rfl ?_
    refine op_run (r_loadA (refR r7) rfl rfl rfl (by first | rfl | (rw [dgR_len]; rfl) | (rw [refR_len]; rfl) | (rw [secR_len]; rfl) | (rw [List.length_map, tagF_len]; rfl)) (hB12'.all)) rfl ?_
    refine op_call rfl rfl rfl (hD16.swrite 3 r7 (by decide) (by decide) (by decide)) ?_; rintro v18 w18 ⟨rfl, hD18, hk18⟩
    rw [if_pos may7] at hD18
    rw [if_pos may7]
    have hB12'' := hk18.blk' hB12' (.inl (.inr rfl))
    have hB16' := hk18.blk' hB16 (.inr rfl)
    refine o_ast rfl ?_
    refine ops_nil ?_
    refine W_seq ?_
    refine W_region ?_
    refine o_mvt rfl ?_
    refine op_run (r_fieldAddr rfl rfl rfl rfl rfl) rfl ?_
    refine op_run (r_loadA (dgR dig7) rfl rfl rfl (by first | rfl | (rw [dgR_len]; rfl) | (rw [refR_len]; rfl) | (rw [secR_len]; rfl) | (rw [List.length_map, tagF_len]; rfl)) ((fun j v hj => by rw [Addr.add_lit]; show w18.cell? ⟨b11, 0 + 0 + j, none⟩ = some v; rw [Nat.zero_add]; exact hB12''.cell (refR_dig r7 hj)))) rfl ?_
    refine op_call rfl rfl rfl (hD18.sfind dig7 (by decide) (by decide)) ?_; rintro v20 w20 ⟨rfl, hk20⟩
    rw [find7b]
    refine o_mvt rfl ?_
    refine op_run (r_extract rfl rfl) rfl ?_
    refine op_run (r_extract rfl rfl) rfl ?_
    refine o_alloc rfl rfl rfl ?_; intro w21 b21 e21 hB21 hk21 hs21
    refine o_storeA (cs := refR r7) rfl rfl (by first | rfl | exact dgR_one _ | exact refR_one _ | exact secR_one _ | exact all_c8 _) (by first | rfl | (rw [dgR_len]; rfl) | (rw [refR_len]; rfl) | (rw [secR_len]; rfl) | (rw [List.length_map, tagF_len]; rfl)) hB21 (by exact Nat.le_of_eq (by simp [refR_len])) rfl ?_; intro w22 hB22 hk22 hs22
    have hB22 : Blk w22 b21 (refR r7) 26 := by
      have h := hB22
      rwa [splice_all (by simp [refR_len])] at h
    have hz := hk20.size
    have hlt12 := hB12''.lt
    have hlt16 := hB16'.lt
    have hBx := hk22.blk' (hk21.blk' (hk20.blk' hB16' trivial) trivial) (show b15 ≠ b21 by omega)
    have hB3 := hk22.blk' (hk21.blk' (hk20.blk' hB12'' trivial) trivial) (show b11 ≠ b21 by omega)
    have hkw : Keep All w w22 := ((hD18.kw.trans hk20).trans hk21).new hk22 (by have := hD18.kw.size; omega)
    refine o_ast rfl ?_
    refine ops_nil ?_
    refine W_seq ?_
    refine W_region ?_
    refine o_mvt rfl ?_
    refine op_run (r_eql rfl rfl) rfl ?_
    refine o_mvt rfl ?_
    refine g_split rfl rfl rfl (fun g23 => ?_) (fun g => absurd g (by decide))
    refine op_run (r_loadA (refR Rf.zero) rfl rfl rfl (by first | rfl | (rw [dgR_len]; rfl) | (rw [refR_len]; rfl) | (rw [secR_len]; rfl) | (rw [List.length_map, tagF_len]; rfl)) (hBx.all)) (g_yes rfl rfl rfl g23) ?_
    refine op_run (r_build ((refR Rf.zero)) (_) ([]) rfl rfl rfl rfl rfl (by rw [refR_zero]; rfl)) (g_yes rfl rfl rfl g23) ?_
    refine op_run (r_eqlC (p := True) rfl rfl rfl rfl (by kernel_rfl) (okC_ref _) (okC_ref _) rfl (by simp)) (g_yes rfl rfl rfl g23) ?_
    refine o_pkTt rfl g23 rfl ?_
    refine o_mvt rfl ?_
    refine g_split rfl rfl rfl (fun g27 => ?_) (fun g => absurd g (by simp))
    refine o_mvt (g_yes rfl rfl rfl g27) ?_
    refine op_run (r_eql rfl rfl) (g_yes rfl rfl rfl g27) ?_
    refine o_pkTt rfl g27 rfl ?_
    refine o_mvt rfl ?_
    refine g_split rfl rfl rfl (fun g28 => ?_) (fun g => absurd g (by decide))
    refine o_mvt (g_yes rfl rfl rfl g28) ?_
    refine op_run (r_eql rfl rfl) (g_yes rfl rfl rfl g28) ?_
    refine o_pkTt rfl g28 rfl ?_
    refine o_mvt rfl ?_
    refine g_split rfl rfl rfl (fun g29 => ?_) (fun g => absurd g (by decide))
    refine op_run (r_loadA (refR r7) rfl rfl rfl (by first | rfl | (rw [dgR_len]; rfl) | (rw [refR_len]; rfl) | (rw [secR_len]; rfl) | (rw [List.length_map, tagF_len]; rfl)) (hB22.all)) (g_yes rfl rfl rfl g29) ?_
    refine op_run (r_loadA (refR r7) rfl rfl rfl (by first | rfl | (rw [dgR_len]; rfl) | (rw [refR_len]; rfl) | (rw [secR_len]; rfl) | (rw [List.length_map, tagF_len]; rfl)) (hB3.all)) (g_yes rfl rfl rfl g29) ?_
    refine op_run (r_eqlC (p := True) rfl rfl rfl rfl (by kernel_rfl) (okC_ref _) (okC_ref _) rfl (by simp)) (g_yes rfl rfl rfl g29) ?_
    refine o_pkTt rfl g29 rfl ?_
    refine o_ast rfl ?_
    refine ops_nil ?_
    refine W_ret ?_
    refine ret1 (.bool true) rfl ?_ ?_; rfl
    exact ⟨rfl, hkw⟩
end Go.Proofs.Ytcbbodjcgjbfaaa.B
