/-
  MerkleEach: the walk.
-/
import Derived.Test.YtnjepmdgbkhoaaaMerkT
namespace Go.Proofs.Ytnjepmdgbkhoaaa.B
open Go
set_option linter.unusedVariables false
set_option maxHeartbeats 2000000
set_option maxRecDepth 100000
attribute [local irreducible] W OpsW OpsQ retP
/-- Where each of some rows lies. -/
theorem rowsB_all {w : World} {a : Option Addr} {c : Nat} {pss : List (List UInt8)} (hv : SlR w (.slice a pss.length c) 1 (RowB w) pss) (h0 : 0 < pss.length) : ∃ b o, a = some ⟨b, o, none⟩ ∧ ∀ (k : Nat) (hk : k < pss.length), ∃ vk, w.cell? ⟨b, o + k, none⟩ = some vk ∧ By w vk pss[k] := by
  obtain ⟨bp, op, cp, vk, ep, _, _⟩ := rowsB_get (k := 0) hv h0
  injection ep with ep1 ep2 ep3
  subst ep1; subst ep3
  refine ⟨bp, op, rfl, fun k hk => ?_⟩
  obtain ⟨bp', op', cp', vk, ep, hck, hby⟩ := rowsB_get (k := k) hv hk
  injection ep with ep1 ep2 ep3
  injection ep1 with ep1
  injection ep1 with e1 e2
  subst e1; subst e2
  exact ⟨vk, hck, hby⟩
theorem walk_MerkleEach (w : World) (v : Value) (pss : List (List UInt8)) (hv : SlR w v 1 (RowB w) pss) :
    Ret Try.prog 6 [v].toArray w fun r w' => r = .bool true ∧ Keep All w w' := by
  obtain ⟨a0, c0, rfl, hc0, hcm0⟩ := hv.form
  refine enter (fn := Try.f6) (n := 87) Try.func6 rfl rfl (by simp) ?_
  refine W_seq ?_
  refine W_region ?_
  refine o_asc rfl ?_
  refine ops_nil ?_
  refine W_seq ?_
  refine W_seq ?_
  refine W_region ?_
  refine op_call rfl rfl rfl (speaks03 w) ?_; rintro v1 w1 ⟨rfl, hk1⟩
  refine op_run (r_not rfl) rfl ?_
  refine ops_nil ?_
  refine W_no rfl (rfl) ?_
  refine W_skip ?_
  refine W_seq ?_
  refine W_cut [16] [10, 11, 12, 13, 14, 15, 16] (fun vs w4 => vs = [.bool (decide (20 < pss.length ∨ (60 < pss.length ∨ ∃ p ∈ pss, 300 < p.length)))] ∧ Keep All w1 w4) ?_ ?_
  · refine W_region ?_
    refine o_mvt rfl ?_
    refine op_run (r_len rfl rfl rfl) rfl ?_
    refine op_run (r_gtr rfl rfl) rfl ?_
    refine o_mvt rfl ?_
    refine g_split rfl rfl rfl (fun g5 => ?_) (fun g5 => ?_)
    · refine o_mvt (g_yes rfl rfl rfl g5) ?_
      refine op_call rfl rfl (g_yes rfl rfl rfl g5) (great03 _ _ pss (rowsB_keep hv hk1)) ?_; rintro v6 w6 ⟨rfl, hk6⟩
      refine o_pkFt rfl g5 rfl ?_
      refine ops_nil ?_
      exact ⟨by (repeat (first | with_reducible exact offM_refl _ _ | refine offM_updc rfl ?_ | refine offM_upd rfl ?_ | refine offM_updo rfl ?_ | refine offM_updo_none ?_ | refine offM_head rfl rfl ?_)), congrArg (fun b => [Value.bool b]) (by have g5 := of_decide_eq_false g5; rw [decide_eq_decide]; exact ⟨.inr, fun h => h.resolve_left (by omega)⟩), hk6⟩
    · refine op_skip (g_no rfl rfl rfl g5) ?_
      refine op_skip (g_no rfl rfl rfl g5) ?_
      refine o_pkTc rfl g5 rfl ?_
      refine ops_nil ?_
      exact ⟨by (repeat (first | with_reducible exact offM_refl _ _ | refine offM_updc rfl ?_ | refine offM_upd rfl ?_ | refine offM_updo rfl ?_ | refine offM_updo_none ?_ | refine offM_head rfl rfl ?_)), congrArg (fun b => [Value.bool b]) (by have g5 := of_decide_eq_true g5; symm; apply decide_eq_true; left; omega), Keep.refl _⟩
  · rintro J9 vs w9 ⟨rfl, hk9⟩ -
    refine W_cond_p rfl (fun h10 => ?_) (fun h10 => ?_)
    · refine W_seq ?_
      refine W_region ?_
      refine o_asc rfl ?_
      refine ops_nil ?_
      refine W_ret ?_
      refine ret1 (.bool true) rfl ?_ ?_; rfl
      exact ⟨rfl, hk1.trans hk9⟩
    · refine W_skip ?_
      refine W_seq ?_
      refine W_region ?_
      refine o_mvt rfl ?_
      obtain ⟨h60, hl⟩ := great_not (fun h => h10 (.inr h))
      have hkw := hk1.trans hk9
      refine op_call rfl rfl rfl (mk_Root pss.length _ _ pss rfl (rowsB_keep hv hkw) hl) ?_; rintro v12 w12 ⟨rfl, hk12⟩
      refine o_alloc rfl rfl rfl ?_; intro w13 b13 e13 hB13 hk13 hs13
      refine o_storeA (cs := dgR (rootD tagD pss)) rfl rfl (by first | rfl | exact dgR_one _ | exact refR_one _ | exact secR_one _ | exact all_c8 _) (by first | rfl | (rw [dgR_len]; rfl) | (rw [refR_len]; rfl) | (rw [secR_len]; rfl) | (rw [List.length_map, tagF_len]; rfl)) hB13 (by exact Nat.le_of_eq (by simp [dgR_len])) rfl ?_; intro w14 hB14 hk14 hs14
      have hB14 : Blk w14 b13 (dgR (rootD tagD pss)) 23 := by
        have h := hB14
        rwa [splice_all (by simp [dgR_len])] at h
      have hkw14 : Keep All w w14 := ((hkw.trans hk12).trans hk13).new hk14 (by have := hkw.size; have := hk12.size; omega)
      refine ops_nil ?_
      refine W_seq ?_
      refine W_seq ?_
      refine W_region ?_
      refine o_mvt rfl ?_
      refine op_run (r_len rfl rfl rfl) rfl ?_
      refine o_mvc rfl ?_
      refine ops_nil ?_
      refine W_block ?_
      refine W_loop [21] [2, 4, 5, 6, 7, 21, 22, 23, 24, 25, 26, 27, 28, 29, 30, 31, 32, 33, 34, 35, 36, 37, 38, 39, 40, 41, 42, 43, 44, 45, 46, 47, 48, 49, 50, 51, 52, 53, 54, 55, 56, 57, 58, 59, 60, 61, 62, 63, 64, 65, 66, 67, 68, 69, 70, 71, 72, 73, 74, 75, 76, 77, 78, 79, 80, 81, 82, 83, 84, 85, 86] (fun vs w' => ∃ i : Nat, vs = [.int .i64 i] ∧ i ≤ pss.length ∧ Keep All w14 w') (fun vs _ => match vs with | [.int _ y] => pss.length - y.toNat | _ => 0) ⟨0, rfl, Nat.zero_le _, Keep.refl _⟩ ?_
      rintro J15 vs w15 ⟨i, rfl, hi, hk15⟩ -
      refine W_seq ?_
      refine W_region ?_
      refine op_run (r_lss rfl rfl) rfl ?_
      refine ops_nil ?_
      refine W_seq ?_
      refine W_cond_p rfl (fun h16 => ?_) (fun h16 => ?_)
      · refine W_skip ?_
        refine W_seq ?_
        refine W_block ?_
        refine W_seq ?_
        refine W_region ?_
        refine o_mvt rfl ?_
        refine o_ast rfl ?_
        refine ops_nil ?_
        refine W_seq ?_
        refine W_region ?_
        refine o_mvt rfl ?_
        refine o_mvt rfl ?_
        have hi' : i < pss.length := by omega
        obtain ⟨bp, op, rfl, hrow⟩ := rowsB_all hv (by omega)
        obtain ⟨vi, hci, hbi⟩ := hrow i hi'
        have hkw15 := hkw14.trans hk15
        refine op_call rfl rfl rfl (mk_Prove _ _ pss i (rowsB_keep hv hkw15) hl (by omega)) ?_; rintro v17 w17 ⟨u, e, ds, rfl, hO, hin, heq, hk17⟩
        refine o_mvt rfl ?_
        refine op_run (r_extract rfl rfl) rfl ?_
        refine op_run (r_extract rfl rfl) rfl ?_
        refine o_ast rfl ?_
        refine o_ast rfl ?_
        refine ops_nil ?_
        refine W_seq ?_
        rw [if_pos ⟨by omega, by omega⟩] at heq
        injection heq with he hd
        subst he
        obtain ⟨au, cu, rfl, hcu, hcmu⟩ := hO.form
        have hdl : ds.length < pss.length := by rw [hd]; exact proveD_len _ _ _ (Nat.le_refl _) hi'
        refine W_cut [38] [30, 31, 32, 33, 34, 35, 36, 37, 38] (fun vs w18 => vs = [.bool false] ∧ w18 = w17) ?_ ?_
        · refine W_region ?_
          refine o_mvt rfl ?_
          refine op_run (r_neq rfl rfl) rfl ?_
          refine o_mvt rfl ?_
          refine g_split rfl rfl rfl (fun g19 => ?_) (fun g => absurd g (by simp))
          refine o_mvt (g_yes rfl rfl rfl g19) ?_
          refine op_run (r_len rfl rfl rfl) (g_yes rfl rfl rfl g19) ?_
          refine o_mvt (g_yes rfl rfl rfl g19) ?_
          refine op_run (r_len rfl rfl rfl) (g_yes rfl rfl rfl g19) ?_
          refine op_run (r_geq rfl rfl) (g_yes rfl rfl rfl g19) ?_
          refine o_pkFt rfl g19 rfl ?_
          refine ops_nil ?_
          exact ⟨by (repeat (first | with_reducible exact offM_refl _ _ | refine offM_updc rfl ?_ | refine offM_upd rfl ?_ | refine offM_updo rfl ?_ | refine offM_updo_none ?_ | refine offM_head rfl rfl ?_)), congrArg (fun b => [Value.bool b]) (decide_eq_false (by omega)), rfl⟩
        · rintro J21 vs w21 ⟨rfl, rfl⟩ -
          refine W_no rfl (rfl) ?_
          refine W_skip ?_
          refine W_seq ?_
          refine W_seq ?_
          refine W_region ?_
          refine o_mvt rfl ?_
          refine op_run (r_len rfl rfl rfl) rfl ?_
          refine o_mvc rfl ?_
          refine ops_nil ?_
          refine W_block ?_
          refine W_loop [41] [2, 7, 41, 42, 43, 44, 45, 46, 47, 48, 49, 50, 51, 52, 53, 54, 55, 56, 57, 58, 59, 60, 61, 62, 63, 64, 65, 66, 67, 68, 69, 70, 71, 72, 73, 74] (fun vs w' => ∃ k : Nat, vs = [.int .i64 k] ∧ k ≤ pss.length ∧ Keep All w21 w') (fun vs _ => match vs with | [.int _ y] => pss.length - y.toNat | _ => 0) ⟨0, rfl, Nat.zero_le _, Keep.refl _⟩ ?_
          rintro J24 vs w24 ⟨k, rfl, hk, hk24⟩ -
          have hk17' := hk17.trans hk24
          have hkw24 := hkw15.trans hk17'
          have hB24 := (hk15.trans hk17').blk' hB14 trivial
          refine W_seq ?_
          refine W_region ?_
          refine op_run (r_lss rfl rfl) rfl ?_
          refine ops_nil ?_
          refine W_seq ?_
          refine W_cond_p rfl (fun h25 => ?_) (fun h25 => ?_)
          · refine W_skip ?_
            refine W_seq ?_
            refine W_block ?_
            refine W_seq ?_
            refine W_region ?_
            refine o_mvt rfl ?_
            refine o_ast rfl ?_
            refine ops_nil ?_
            have hk' : k < pss.length := by omega
            obtain ⟨vk, hck, hbk⟩ := hrow k hk'
            refine W_cut [65] [44, 45, 46, 47, 48, 49, 50, 51, 52, 53, 54, 55, 56, 57, 58, 59, 60, 61, 62, 63, 64, 65] (fun vs w26 => vs = [.bool (decide (leadD tagD pss.length k pss[i] ds = (rootD tagD pss, true) ∧ pss[k] ≠ pss[i]))] ∧ Keep All w24 w26) ?_ ?_
            · refine W_quiet (Keep All w24) (by kernel_rfl) (by kernel_rfl) (Keep.drawn _) ?_
              refine q_run (fun _ hk => r_loadA (dgR (rootD tagD pss)) rfl rfl rfl (by first | rfl | (rw [dgR_len]; rfl) | (rw [refR_len]; rfl) | (rw [secR_len]; rfl) | (rw [List.length_map, tagF_len]; rfl)) ((hk.blk' hB24 trivial).all)) rfl ?_
              refine q_mvt rfl ?_
              refine q_run (fun _ _ => (r_len rfl rfl rfl)) rfl ?_
              refine q_mvt rfl ?_
              refine q_mvt rfl ?_
              refine q_mvt rfl ?_
              refine q_run (fun _ _ => r_idxS1 rfl rfl rfl rfl (by omega) (by omega)) rfl ?_
              refine q_run (fun _ hk => r_load rfl rfl rfl (hk.cell (by rw [Int.toNat_natCast]; exact hkw24.cell hci trivial) trivial)) rfl ?_
              refine q_mvt rfl ?_
              refine q_call rfl rfl rfl (fun _ hk => Calls.mono (mk_Verify _ (rootD tagD pss) pss.length k _ _ pss[i] ds (by unfold maxLen at hcm0; omega) (hbi.k (hkw24.trans hk)) (hl _ (List.getElem_mem _)) ((hO.keep (hk24.trans hk) (fun _ _ => trivial)).sl)) fun e w'' ⟨u, he, h1, h2⟩ => ⟨u, he, h1, hk.trans h2⟩) ?_
              refine q_mvt rfl ?_
              refine q_split rfl rfl rfl (fun g32 => ?_) (fun g32 => ?_)
              · refine q_mvt (g_yes rfl rfl rfl g32) ?_
                refine q_mvt (g_yes rfl rfl rfl g32) ?_
                refine q_run (fun _ _ => r_idxS1 rfl rfl rfl rfl (by omega) (by omega)) (g_yes rfl rfl rfl g32) ?_
                refine q_run (fun _ hk => r_load rfl rfl rfl (hk.cell (by rw [Int.toNat_natCast]; exact hkw24.cell hck trivial) trivial)) (g_yes rfl rfl rfl g32) ?_
                refine q_mvt (g_yes rfl rfl rfl g32) ?_
                refine q_mvt (g_yes rfl rfl rfl g32) ?_
                refine q_run (fun _ _ => r_idxS1 rfl rfl rfl rfl (by omega) (by omega)) (g_yes rfl rfl rfl g32) ?_
                refine q_run (fun _ hk => r_load rfl rfl rfl (hk.cell (by rw [Int.toNat_natCast]; exact hkw24.cell hci trivial) trivial)) (g_yes rfl rfl rfl g32) ?_
                refine q_call rfl rfl (g_yes rfl rfl rfl g32) (fun _ hk => Calls.mono (ref01_Same _ _ _ pss[k] pss[i] (hbk.k (hkw24.trans hk)) (hbi.k (hkw24.trans hk))) fun e w'' ⟨u, he, h1, h2⟩ => ⟨u, he, h1, hk.trans h2⟩) ?_
                refine q_run (fun _ _ => (r_not rfl)) (g_yes rfl rfl rfl g32) ?_
                refine q_pkTt rfl g32 rfl ?_
                refine q_nil ?_; intro w38 hk38
                exact ⟨by (repeat (first | with_reducible exact offM_refl _ _ | refine offM_updc rfl ?_ | refine offM_upd rfl ?_ | refine offM_updo rfl ?_ | refine offM_updo_none ?_ | refine offM_head rfl rfl ?_)), congrArg (fun b => [Value.bool b]) (by
                  have g32 := (of_decide_eq_true g32).2
                  simp only [Int.toNat_natCast] at g32
                  simp [g32]), hk38⟩
              · refine q_skip (g_no rfl rfl rfl g32) ?_
                refine q_skip (g_no rfl rfl rfl g32) ?_
                refine q_skip (g_no rfl rfl rfl g32) ?_
                refine q_skip (g_no rfl rfl rfl g32) ?_
                refine q_skip (g_no rfl rfl rfl g32) ?_
                refine q_skip (g_no rfl rfl rfl g32) ?_
                refine q_skip (g_no rfl rfl rfl g32) ?_
                refine q_skip (g_no rfl rfl rfl g32) ?_
                refine q_skip (g_no rfl rfl rfl g32) ?_
                refine q_skip (g_no rfl rfl rfl g32) ?_
                refine q_pkFc rfl g32 rfl ?_
                refine q_nil ?_; intro w40 hk40
                exact ⟨by (repeat (first | with_reducible exact offM_refl _ _ | refine offM_updc rfl ?_ | refine offM_upd rfl ?_ | refine offM_updo rfl ?_ | refine offM_updo_none ?_ | refine offM_head rfl rfl ?_)), congrArg (fun b => [Value.bool b]) (by
                  have g32 := of_decide_eq_false g32
                  symm; refine decide_eq_false fun h => g32 ⟨⟨by omega, by omega⟩, ?_⟩
                  simp only [Int.toNat_natCast]; exact h.1), hk40⟩
            · rintro J42 vs w42 ⟨rfl, hk42⟩ -
              refine W_cond_p rfl (fun h43 => ?_) (fun h43 => ?_)
              · refine W_seq ?_
                refine W_region ?_
                refine o_mvt rfl ?_
                refine o_mvt rfl ?_
                refine o_mvt rfl ?_
                refine o_mvt rfl ?_
                refine op_run (r_idxS1 rfl rfl rfl rfl (by omega) (by omega)) rfl ?_
                refine op_run (r_load rfl rfl rfl (by rw [Int.toNat_natCast]; exact (hkw24.trans hk42).cell hci trivial)) rfl ?_
                refine o_mvt rfl ?_
                refine op_call rfl rfl rfl (law_clash pss.length _ _ _ _ pss k pss[i] ds rfl hk' (rowsB_keep hv (hkw24.trans hk42)) hl (hbi.k (hkw24.trans hk42)) (hl _ (List.getElem_mem _)) ((hO.keep (hk24.trans hk42) (fun _ _ => trivial)).sl)) ?_; rintro v46 w46 ⟨rfl, hk46⟩
                refine o_ast rfl ?_
                refine ops_nil ?_
                refine W_ret ?_
                refine ret1 (.bool (clashD tagD pss k pss[i] ds)) rfl ?_ ?_; rfl
                exact ⟨congrArg Value.bool (clash_found tagD pss.length pss k pss[i] ds (Nat.le_refl _) hk' h43.1 (.inl (by rw [List.getElem?_eq_getElem hk']; intro h; injection h with h; exact h43.2 h))), (hkw24.trans hk42).trans hk46⟩
              · refine W_skip ?_
                refine W_region ?_
                refine op_run (r_add rfl rfl) rfl ?_
                refine o_mvt rfl ?_
                refine ops_nil ?_
                have e : IntKind.i64.wrap ((k : Int) + 1) = ((k + 1 : Nat) : Int) := by unfold maxLen at hcm0; rw [wrap_i64 (by omega) (by omega)]; omega
                refine ⟨by (repeat (first | with_reducible exact offM_refl _ _ | refine offM_updc rfl ?_ | refine offM_upd rfl ?_ | refine offM_updo rfl ?_ | refine offM_updo_none ?_ | refine offM_head rfl rfl ?_)), ⟨k + 1, congrArg (fun z : Int => [Value.int .i64 z]) e, by omega, hk24.trans hk42⟩, ?_⟩
                show pss.length - (IntKind.i64.wrap ((k : Int) + 1)).toNat < pss.length - (k : Int).toNat
                rw [e]; omega
          · refine W_exit ?_
            refine W_seq ?_
            refine W_quiet (Keep All w24) (by kernel_rfl) (by kernel_rfl) (Keep.drawn _) ?_
            refine q_run (fun _ hk => r_loadA (dgR (rootD tagD pss)) rfl rfl rfl (by first | rfl | (rw [dgR_len]; rfl) | (rw [refR_len]; rfl) | (rw [secR_len]; rfl) | (rw [List.length_map, tagF_len]; rfl)) ((hk.blk' hB24 trivial).all)) rfl ?_
            refine q_mvt rfl ?_
            refine q_run (fun _ _ => (r_len rfl rfl rfl)) rfl ?_
            refine q_mvt rfl ?_
            refine q_mvt rfl ?_
            refine q_mvt rfl ?_
            refine q_run (fun _ _ => r_idxS1 rfl rfl rfl rfl (by omega) (by omega)) rfl ?_
            refine q_run (fun _ hk => r_load rfl rfl rfl (hk.cell (by rw [Int.toNat_natCast]; exact hkw24.cell hci trivial) trivial)) rfl ?_
            refine q_mvt rfl ?_
            refine q_call rfl rfl rfl (fun _ hk => Calls.mono (mk_Verify _ (rootD tagD pss) pss.length i _ _ pss[i] ds (by unfold maxLen at hcm0; omega) (hbi.k (hkw24.trans hk)) (hl _ (List.getElem_mem _)) ((hO.keep (hk24.trans hk) (fun _ _ => trivial)).sl)) fun e w'' ⟨u, he, h1, h2⟩ => ⟨u, he, h1.trans (congrArg Value.bool (decide_eq_true ⟨⟨by omega, by omega⟩, by simp only [Int.toNat_natCast]; rw [hd]; exact prove_lead tagD pss.length pss i _ (Nat.le_refl _) (List.getElem?_eq_getElem hi')⟩)), hk.trans h2⟩) ?_
            refine q_run (fun _ _ => (r_not rfl)) rfl ?_
            refine q_nil ?_; intro w54 hk54
            refine W_no rfl (rfl) ?_
            refine W_skip ?_
            refine W_region ?_
            refine op_run (r_add rfl rfl) rfl ?_
            refine o_mvt rfl ?_
            refine ops_nil ?_
            have e : IntKind.i64.wrap ((i : Int) + 1) = ((i + 1 : Nat) : Int) := by unfold maxLen at hcm0; rw [wrap_i64 (by omega) (by omega)]; omega
            refine ⟨by (repeat (first | with_reducible exact offM_refl _ _ | refine offM_updc rfl ?_ | refine offM_upd rfl ?_ | refine offM_updo rfl ?_ | refine offM_updo_none ?_ | refine offM_head rfl rfl ?_)), ⟨i + 1, congrArg (fun z : Int => [Value.int .i64 z]) e, by omega, hk15.trans (hk17'.trans hk54)⟩, ?_⟩
            show pss.length - (IntKind.i64.wrap ((i : Int) + 1)).toNat < pss.length - (i : Int).toNat
            rw [e]; omega
      · refine W_exit ?_
        refine W_seq ?_
        refine W_region ?_
        refine o_asc rfl ?_
        refine ops_nil ?_
        refine W_ret ?_
        refine ret1 (.bool true) rfl ?_ ?_; rfl
        exact ⟨rfl, hkw14.trans hk15⟩
end Go.Proofs.Ytnjepmdgbkhoaaa.B
