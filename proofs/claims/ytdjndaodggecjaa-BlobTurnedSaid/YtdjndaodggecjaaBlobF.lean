/-
  BlobFound: the walk.
-/
import Derived.Test.YtdjndaodggecjaaBlobR
import Derived.Test.YtdjndaodggecjaaDisk8
namespace Go.Proofs.Ytdjndaodggecjaa.B
open Go
set_option linter.unusedVariables false
set_option maxHeartbeats 2000000
set_option maxRecDepth 100000
attribute [local irreducible] W OpsW OpsQ retP
theorem rdB_some {M : List Sec} {r : Rf} {y : List UInt8} (h : rdB M r = some y) : (y.length : Int) = r.len ∧ tagD 3 [y] = r.dig := by
  unfold rdB at h
  split at h
  · rename_i hc
    obtain ⟨⟨⟨h1, h2⟩, h3, h4, h5⟩, h6⟩ := hc
    injection h with h
    have := bytesAt_len (M := M) (at_ := r.at_.toNat) (len := r.len.toNat) (by omega)
    subst h
    exact ⟨by omega, h6⟩
  · cases h
theorem walk_BlobFound (w : World) (at_ : Int) (v vl : Value) (bs : List UInt8) (M : List Sec) (hv : By w v bs) (hl : Sl w vl M.length 64 (rows secR M)) (ha : -2 ^ 63 ≤ at_) (ha2 : at_ < 2 ^ 63) :
    Ret Try.prog 5 [.int .i64 at_, v, vl].toArray w fun u w' => u = .bool true ∧ Keep All w w' := by
  obtain ⟨a0, c0, rfl, hc0, hcm0⟩ := hv.form
  obtain ⟨al, cl, rfl, hcl, hcml⟩ := hl.form
  refine enter (fn := Try.f5) (n := 91) Try.func5 rfl rfl (by simp) ?_
  refine W_seq ?_
  refine W_region ?_
  refine o_asc rfl ?_
  refine ops_nil ?_
  refine W_seq ?_
  refine W_seq ?_
  refine W_region ?_
  refine op_call rfl rfl rfl (speaks07 w) ?_; rintro v1 w1 ⟨rfl, hk1⟩
  refine op_run (r_not rfl) rfl ?_
  refine ops_nil ?_
  refine W_no rfl (rfl) ?_
  refine W_skip ?_
  refine W_seq ?_
  refine W_cut [32] [16, 17, 18, 19, 20, 21, 22, 23, 24, 25, 26, 27, 28, 29, 30, 31, 32] (fun vs w4 => vs = [.bool (decide (at_ < 0 ∨ 1000 < bs.length ∨ M.length < 1 ∨ 60 < M.length))] ∧ w4 = w1) ?_ ?_
  · refine W_region ?_
    refine o_mvt rfl ?_
    refine op_run (r_lss rfl rfl) rfl ?_
    refine o_mvt rfl ?_
    refine g_split rfl rfl rfl (fun g5 => ?_) (fun g5 => ?_)
    · refine o_mvt (g_yes rfl rfl rfl g5) ?_
      refine op_run (r_len rfl rfl rfl) (g_yes rfl rfl rfl g5) ?_
      refine op_run (r_gtr rfl rfl) (g_yes rfl rfl rfl g5) ?_
      refine o_pkFt rfl g5 rfl ?_
      refine o_mvt rfl ?_
      refine g_split rfl rfl rfl (fun g6 => ?_) (fun g6 => ?_)
      · refine o_mvt (g_yes rfl rfl rfl g6) ?_
        refine op_run (r_len rfl rfl rfl) (g_yes rfl rfl rfl g6) ?_
        refine op_run (r_lss rfl rfl) (g_yes rfl rfl rfl g6) ?_
        refine o_pkFt rfl g6 rfl ?_
        refine o_mvt rfl ?_
        refine g_split rfl rfl rfl (fun g7 => ?_) (fun g7 => ?_)
        · refine o_mvt (g_yes rfl rfl rfl g7) ?_
          refine op_run (r_len rfl rfl rfl) (g_yes rfl rfl rfl g7) ?_
          refine op_run (r_gtr rfl rfl) (g_yes rfl rfl rfl g7) ?_
          refine o_pkFt rfl g7 rfl ?_
          refine ops_nil ?_
          exact ⟨by (repeat (first | with_reducible exact offM_refl _ _ | refine offM_updc rfl ?_ | refine offM_upd rfl ?_ | refine offM_updo rfl ?_ | refine offM_updo_none ?_ | refine offM_head rfl rfl ?_)), congrArg (fun b => [Value.bool b]) (by have g5 := of_decide_eq_false g5; have g6 := of_decide_eq_false g6; have g7 := of_decide_eq_false g7; rw [decide_eq_decide]; omega), rfl⟩
        · refine op_skip (g_no rfl rfl rfl g7) ?_
          refine op_skip (g_no rfl rfl rfl g7) ?_
          refine op_skip (g_no rfl rfl rfl g7) ?_
          refine o_pkTc rfl g7 rfl ?_
          refine ops_nil ?_
          exact ⟨by (repeat (first | with_reducible exact offM_refl _ _ | refine offM_updc rfl ?_ | refine offM_upd rfl ?_ | refine offM_updo rfl ?_ | refine offM_updo_none ?_ | refine offM_head rfl rfl ?_)), congrArg (fun b => [Value.bool b]) (by have g7 := of_decide_eq_true g7; symm; apply decide_eq_true; omega), rfl⟩
      · refine op_skip (g_no rfl rfl rfl g6) ?_
        refine op_skip (g_no rfl rfl rfl g6) ?_
        refine op_skip (g_no rfl rfl rfl g6) ?_
        refine o_pkTc rfl g6 rfl ?_
        refine o_mvt rfl ?_
        refine op_skip (g_no rfl rfl rfl rfl) ?_
        refine op_skip (g_no rfl rfl rfl rfl) ?_
        refine op_skip (g_no rfl rfl rfl rfl) ?_
        refine o_pkTc rfl rfl rfl ?_
        refine ops_nil ?_
        exact ⟨by (repeat (first | with_reducible exact offM_refl _ _ | refine offM_updc rfl ?_ | refine offM_upd rfl ?_ | refine offM_updo rfl ?_ | refine offM_updo_none ?_ | refine offM_head rfl rfl ?_)), congrArg (fun b => [Value.bool b]) (by have g6 := of_decide_eq_true g6; symm; apply decide_eq_true; omega), rfl⟩
    · refine op_skip (g_no rfl rfl rfl g5) ?_
      refine op_skip (g_no rfl rfl rfl g5) ?_
      refine op_skip (g_no rfl rfl rfl g5) ?_
      refine o_pkTc rfl g5 rfl ?_
      refine o_mvt rfl ?_
      refine op_skip (g_no rfl rfl rfl rfl) ?_
      refine op_skip (g_no rfl rfl rfl rfl) ?_
      refine op_skip (g_no rfl rfl rfl rfl) ?_
      refine o_pkTc rfl rfl rfl ?_
      refine o_mvt rfl ?_
      refine op_skip (g_no rfl rfl rfl rfl) ?_
      refine op_skip (g_no rfl rfl rfl rfl) ?_
      refine op_skip (g_no rfl rfl rfl rfl) ?_
      refine o_pkTc rfl rfl rfl ?_
      refine ops_nil ?_
      exact ⟨by (repeat (first | with_reducible exact offM_refl _ _ | refine offM_updc rfl ?_ | refine offM_upd rfl ?_ | refine offM_updo rfl ?_ | refine offM_updo_none ?_ | refine offM_head rfl rfl ?_)), congrArg (fun b => [Value.bool b]) (by have g5 := of_decide_eq_true g5; symm; apply decide_eq_true; omega), rfl⟩
  · rintro J12 vs w12 ⟨rfl, rfl⟩ -
    refine W_cond_p rfl (fun h13 => ?_) (fun h13 => ?_)
    · refine W_seq ?_
      refine W_region ?_
      refine o_asc rfl ?_
      refine ops_nil ?_
      refine W_ret ?_
      refine ret1 (.bool true) rfl ?_ ?_; rfl
      exact ⟨rfl, hk1⟩
    · refine W_skip ?_
      refine W_seq ?_
      refine W_region ?_
      refine o_mvt rfl ?_
      refine op_run (r_len rfl rfl rfl) rfl ?_
      refine op_call rfl rfl rfl (DV.new w12 (M.length : Int) (by omega) (by omega)) ?_; rintro v15 w15 ⟨bD, rfl, hD15⟩
      rw [Int.toNat_natCast] at hD15
      refine o_mvt rfl ?_
      refine op_run (r_extract rfl rfl) rfl ?_
      refine op_run (r_extract rfl rfl) rfl ?_
      refine o_ast rfl ?_
      refine o_ast rfl ?_
      refine ops_nil ?_
      refine W_seq ?_
      refine W_cut [44] [39, 40, 41, 42, 43, 44] (fun vs w16 => vs = [.bool false] ∧ w16 = w15) ?_ ?_
      · refine W_region ?_
        refine o_mvt rfl ?_
        refine op_run (r_neq rfl rfl) rfl ?_
        refine o_mvt rfl ?_
        refine g_split rfl rfl rfl (fun g17 => ?_) (fun g17 => ?_)
        · refine o_mvt (g_yes rfl rfl rfl g17) ?_
          refine op_run (r_isNilP rfl rfl) (g_yes rfl rfl rfl g17) ?_
          refine o_pkFt rfl g17 rfl ?_
          refine ops_nil ?_
          exact ⟨by (repeat (first | with_reducible exact offM_refl _ _ | refine offM_updc rfl ?_ | refine offM_upd rfl ?_ | refine offM_updo rfl ?_ | refine offM_updo_none ?_ | refine offM_head rfl rfl ?_)), rfl, rfl⟩
        · refine op_skip (g_no rfl rfl rfl g17) ?_
          refine op_skip (g_no rfl rfl rfl g17) ?_
          refine o_pkTc rfl g17 rfl ?_
          refine ops_nil ?_
          exact absurd g17 (by decide)
      · rintro J20 vs w20 ⟨rfl, rfl⟩ -
        refine W_no rfl (rfl) ?_
        refine W_skip ?_
        refine W_seq ?_
        refine W_seq ?_
        refine W_region ?_
        refine o_mvt rfl ?_
        refine op_run (r_len rfl rfl rfl) rfl ?_
        refine o_mvc rfl ?_
        refine ops_nil ?_
        refine W_block ?_
        refine W_loop [47] [9, 10, 47, 48, 49, 50, 51, 52, 53, 54, 55, 56] (fun vs w' => ∃ k : Nat, vs = [.int .i64 k] ∧ k ≤ M.length ∧ DV w12 (fun _ => False) bD M.length (putAt (List.replicate M.length Sec.zero) 0 (M.take k)) 0 w') (fun vs _ => match vs with | [.int _ k] => M.length - k.toNat | _ => 0) ⟨0, rfl, Nat.zero_le _, by rw [List.take_zero, putAt_0]; exact hD15⟩ ?_
        rintro J23 vs w23 ⟨k, rfl, hk, hD⟩ -
        refine W_seq ?_
        refine W_region ?_
        refine op_run (r_lss rfl rfl) rfl ?_
        refine ops_nil ?_
        refine W_seq ?_
        refine W_cond_p rfl (fun h24 => ?_) (fun h24 => ?_)
        · refine W_skip ?_
          refine W_seq ?_
          refine W_block ?_
          refine W_seq ?_
          refine W_region ?_
          refine o_mvt rfl ?_
          have hk' : k < M.length := by omega
          obtain ⟨s, hs⟩ : ∃ s, M[k]? = some s := ⟨_, List.getElem?_eq_getElem hk'⟩
          obtain ⟨bl, ol, rfl, hcells⟩ := rows_at' (i := k) secR_len hl hk' (by decide)
          rw [(List.getElem?_eq_some_iff.1 hs).2] at hcells
          refine op_run (r_idxS rfl rfl rfl ti_sec (by omega) (by omega)) rfl ?_
          refine op_run (r_loadA (secR s) rfl rfl rfl (by first | rfl | (rw [dgR_len]; rfl) | (rw [refR_len]; rfl) | (rw [secR_len]; rfl) | (rw [List.length_map, tagF_len]; rfl)) ((by intro u v hu; rw [Int.toNat_natCast]; exact (hk1.trans hD.kw).cell (hcells u v hu) trivial))) rfl ?_
          refine o_alloc rfl rfl rfl ?_; intro w27 b27 e27 hB27 hk27 hs27
          refine o_ast rfl ?_
          refine o_storeA (cs := secR s) rfl rfl (by first | rfl | exact dgR_one _ | exact refR_one _ | exact secR_one _ | exact all_c8 _) (by first | rfl | (rw [dgR_len]; rfl) | (rw [refR_len]; rfl) | (rw [secR_len]; rfl) | (rw [List.length_map, tagF_len]; rfl)) hB27 (by exact Nat.le_of_eq (by simp [secR_len])) rfl ?_; intro w28 hB28 hk28 hs28
          have hB28 : Blk w28 b27 (secR s) 33 := by
            have h := hB28
            rwa [splice_all (by simp [secR_len])] at h
          have hD28 := (hD.fresh hk27 (Nat.le_of_eq e27.symm) hk28 (by omega)).mono (K' := fun _ => False) (fun _ h => h.elim)
          refine ops_nil ?_
          refine W_region ?_
          refine o_mvt rfl ?_
          refine o_mvt rfl ?_
          refine op_run (r_loadA (secR s) rfl rfl rfl (by first | rfl | (rw [dgR_len]; rfl) | (rw [refR_len]; rfl) | (rw [secR_len]; rfl) | (rw [List.length_map, tagF_len]; rfl)) (hB28.all)) rfl ?_
          refine op_call rfl rfl rfl (hD28.set (k : Int) s (by omega)) ?_; rintro v30 w30 ⟨rfl, hD30, hk30⟩
          have hset := putAt_set (M := List.replicate M.length Sec.zero) (at_ := 0) (k := k) (l := M) (s := s) (by rw [List.length_replicate]; omega) hs
          rw [Nat.zero_add] at hset
          rw [if_pos (show (0 : Int) ≤ (k : Int) ∧ (k : Int) < (M.length : Int) by omega), Int.toNat_natCast, hset] at hD30
          have hinc := inc64' k (by omega)
          refine ops_nil ?_
          refine W_region ?_
          refine op_run (r_add rfl rfl) rfl ?_
          refine o_mvt rfl ?_
          refine ops_nil ?_
          refine ⟨by (repeat (first | with_reducible exact offM_refl _ _ | refine offM_updc rfl ?_ | refine offM_upd rfl ?_ | refine offM_updo rfl ?_ | refine offM_updo_none ?_ | refine offM_head rfl rfl ?_)), ⟨k + 1, congrArg (fun z : Int => [Value.int .i64 z]) hinc, by omega, hD30⟩, ?_⟩
          show M.length - (IntKind.i64.wrap ((k : Int) + 1)).toNat < M.length - (k : Int).toNat
          rw [hinc]; omega
        · refine W_exit ?_
          refine W_seq ?_
          refine W_region ?_
          refine o_mvt rfl ?_
          refine o_mvt rfl ?_
          have hke : k = M.length := by omega
          subst hke
          have hpa : putAt (List.replicate M.length Sec.zero) 0 (M.take M.length) = M := by unfold putAt; rw [List.take_length, List.take_zero, List.nil_append, List.drop_eq_nil_of_le (by rw [List.length_replicate]; omega), List.append_nil]
          rw [hpa] at hD
          refine op_call rfl rfl rfl (rf07_Of w23 at_ _ bs (hv.k (hk1.trans hD.kw)) (by omega)) ?_; rintro v32 w32 ⟨rfl, hk32⟩
          refine o_alloc rfl rfl rfl ?_; intro w33 b33 e33 hB33 hk33 hs33
          refine o_storeA (cs := refR (ofR at_ bs)) rfl rfl (by first | rfl | exact dgR_one _ | exact refR_one _ | exact secR_one _ | exact all_c8 _) (by first | rfl | (rw [dgR_len]; rfl) | (rw [refR_len]; rfl) | (rw [secR_len]; rfl) | (rw [List.length_map, tagF_len]; rfl)) hB33 (by exact Nat.le_of_eq (by simp [refR_len])) rfl ?_; intro w34 hB34 hk34 hs34
          have hB34 : Blk w34 b33 (refR (ofR at_ bs)) 26 := by
            have h := hB34
            rwa [splice_all (by simp [refR_len])] at h
          have hD34 := (hD.keep hk32).fresh hk33 (Nat.le_of_eq e33.symm) hk34 (by omega)
          refine ops_nil ?_
          refine W_seq ?_
          refine W_region ?_
          refine o_mvt rfl ?_
          refine op_run (r_loadA (refR (ofR at_ bs)) rfl rfl rfl (by first | rfl | (rw [dgR_len]; rfl) | (rw [refR_len]; rfl) | (rw [secR_len]; rfl) | (rw [List.length_map, tagF_len]; rfl)) (hB34.all)) rfl ?_
          refine op_call rfl rfl rfl (bl_Read w12 _ bD _ _ _ w34 hD34 (ofR at_ bs) (by omega) ha ha2) ?_; rintro v36 w36 ⟨vx, rfl, hby36, hin36, hk36⟩
          obtain ⟨ax, cx, rfl, _, _⟩ := hby36.form
          have hkE := (hk1.trans hD34.kw).trans hk36
          refine o_mvt rfl ?_
          refine op_run (r_extract rfl rfl) rfl ?_
          refine op_run (r_extract rfl rfl) rfl ?_
          refine o_ast rfl ?_
          refine o_ast rfl ?_
          refine ops_nil ?_
          refine W_seq ?_
          refine W_quiet (Keep All w36) (by kernel_rfl) (by kernel_rfl) (Keep.drawn _) ?_
          refine q_mvt rfl ?_
          refine q_run (fun _ _ => (r_eql rfl rfl)) rfl ?_
          refine q_mvt rfl ?_
          refine q_split rfl rfl rfl (fun g38 => ?_) (fun g38 => ?_)
          · refine q_mvt (g_yes rfl rfl rfl g38) ?_
            refine q_run (fun _ _ => (r_len rfl rfl rfl)) (g_yes rfl rfl rfl g38) ?_
            refine q_run (fun _ _ => (r_eql rfl rfl)) (g_yes rfl rfl rfl g38) ?_
            refine q_pkTt rfl g38 rfl ?_
            refine q_mvt rfl ?_
            have hno : rdB M (ofR at_ bs) = none := by
              cases hr : rdB M (ofR at_ bs) with
              | none => rfl
              | some y => rw [hr] at g38; exact absurd g38 (by simp)
            refine q_split rfl rfl rfl (fun g => absurd g (by simp [hno])) (fun g39 => ?_)
            refine q_skip (g_no rfl rfl rfl g39) ?_
            refine q_skip (g_no rfl rfl rfl g39) ?_
            refine q_skip (g_no rfl rfl rfl g39) ?_
            refine q_skip (g_und rfl rfl rfl) ?_
            refine q_skip (g_und rfl rfl rfl) ?_
            refine q_skip (g_und rfl rfl rfl) ?_
            refine q_skip (g_und rfl rfl rfl) ?_
            refine q_skip (g_und rfl rfl rfl) ?_
            refine q_skip (g_no rfl rfl rfl g39) ?_
            refine q_skip (g_no rfl rfl rfl g39) ?_
            refine q_skip (g_und rfl rfl rfl) ?_
            refine q_skip (g_und rfl rfl rfl) ?_
            refine q_skip (g_und rfl rfl rfl) ?_
            refine q_skip (g_und rfl rfl rfl) ?_
            refine q_skip (g_und rfl rfl rfl) ?_
            refine q_skip (g_no rfl rfl rfl g39) ?_
            refine q_pkTc rfl g39 rfl ?_
            refine q_ast rfl ?_
            refine q_nil ?_; intro w40 hk40
            refine W_ret ?_
            refine ret1 (.bool true) rfl ?_ ?_; rfl
            exact ⟨rfl, hkE.trans hk40⟩
          · refine q_skip (g_no rfl rfl rfl g38) ?_
            refine q_skip (g_no rfl rfl rfl g38) ?_
            refine q_skip (g_no rfl rfl rfl g38) ?_
            refine q_pkFc rfl g38 rfl ?_
            refine q_mvt rfl ?_
            refine q_mvt (g_yes rfl rfl rfl rfl) ?_
            refine q_run (fun _ _ => (r_eql rfl rfl)) (g_yes rfl rfl rfl rfl) ?_
            refine q_mvt (g_yes rfl rfl rfl rfl) ?_
            obtain ⟨y, hy⟩ : ∃ y, rdB M (ofR at_ bs) = some y := by
              cases hr : rdB M (ofR at_ bs) with
              | none => rw [hr] at g38; exact absurd g38 (by simp)
              | some y => exact ⟨y, rfl⟩
            obtain ⟨hyl, hyt⟩ := rdB_some hy
            have hyl : y.length = bs.length := by have h : (y.length : Int) = (bs.length : Int) := hyl; omega
            have hoe : ofR at_ y = ofR at_ bs := by
              have h := (ofR_iff (r := ofR at_ bs) (bs := y) (by show (y.length : Int) = (bs.length : Int); omega)).2 hyt
              exact h
            refine q_split rfl rfl rfl (fun g42 => ?_) (fun g => absurd g (by simp [hy]))
            refine q_mvt (g_yes rfl rfl rfl g42) ?_
            refine q_run (fun _ _ => (r_len rfl rfl rfl)) (g_yes rfl rfl rfl g42) ?_
            refine q_mvt (g_yes rfl rfl rfl g42) ?_
            refine q_run (fun _ _ => (r_len rfl rfl rfl)) (g_yes rfl rfl rfl g42) ?_
            refine q_run (fun _ _ => (r_eql rfl rfl)) (g_yes rfl rfl rfl g42) ?_
            refine q_pkTt rfl g42 (g_yes rfl rfl rfl rfl) ?_
            refine q_mvt (g_yes rfl rfl rfl rfl) ?_
            refine q_split rfl rfl rfl (fun g43 => ?_) (fun g => absurd g (by simp [hy, hyl]))
            refine q_mvt (g_yes rfl rfl rfl g43) ?_
            refine q_mvt (g_yes rfl rfl rfl g43) ?_
            refine q_call rfl rfl (g_yes rfl rfl rfl g43) (fun _ hk => (rf07_Of _ at_ _ ((rdB M (ofR at_ bs)).getD []) (hby36.k hk) (by rw [hy]; show y.length ≤ _; omega)).mono fun e w'' ⟨u, he, h1, h2⟩ => ⟨u, he, h1, hk.trans h2⟩) ?_
            refine q_run (fun _ hk => r_loadA (refR (ofR at_ bs)) rfl rfl rfl (by first | rfl | (rw [dgR_len]; rfl) | (rw [refR_len]; rfl) | (rw [secR_len]; rfl) | (rw [List.length_map, tagF_len]; rfl)) ((hk.blk' (hk36.blk' hB34 trivial) trivial).all)) (g_yes rfl rfl rfl g43) ?_
            refine q_run (fun _ _ => (r_eqlC (p := True) rfl rfl rfl rfl (by kernel_rfl) (okC_ref _) (okC_ref _) rfl (by rw [hy]; show refR (ofR at_ y) = refR (ofR at_ bs) ↔ True; rw [hoe]; exact ⟨fun _ => trivial, fun _ => rfl⟩))) (g_yes rfl rfl rfl g43) ?_
            refine q_pkTt rfl g43 (g_yes rfl rfl rfl rfl) ?_
            refine q_pkFt rfl rfl rfl ?_
            refine q_ast rfl ?_
            refine q_nil ?_; intro w47 hk47
            refine W_ret ?_
            refine ret1 (.bool (decide True)) rfl ?_ ?_; rfl
            exact ⟨congrArg Value.bool (by simp), hkE.trans hk47⟩
end Go.Proofs.Ytdjndaodggecjaa.B
