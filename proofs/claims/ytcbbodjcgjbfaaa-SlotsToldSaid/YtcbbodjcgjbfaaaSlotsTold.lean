/-
  SlotsTold: the walk.
-/
import Derived.Test.YtcbbodjcgjbfaaaSlots4
import Derived.Test.YtcbbodjcgjbfaaaRef14c
import Derived.Test.YtcbbodjcgjbfaaaBsR
namespace Go.Proofs.Ytcbbodjcgjbfaaa.B
open Go
set_option linter.unusedVariables false
set_option maxHeartbeats 2000000
set_option maxRecDepth 100000
attribute [local irreducible] W OpsW OpsQ retP
theorem rowS {w : World} {b : Nat} {S : List Sec} {e : TypeId} {i : Nat} {s : Sec} (hB : Blk w b (rows secR S) e) (hs : S[i]? = some s) : ∀ (u : Nat) (v : Value), (secR s)[u]? = some v → w.cell? ((⟨b, 0 + i * 64, none⟩ : Addr).add u) = some v := by
  intro u v hu
  obtain ⟨h1, h2⟩ := List.getElem?_eq_some_iff.1 hs
  have hu64 : u < 64 := by have := (List.getElem?_eq_some_iff.1 hu).1; rwa [secR_len] at this
  rw [Addr.add_lit, Nat.zero_add]
  exact hB.cell (by rw [rows_get secR_len h1 hu64, h2]; exact hu)
/-- The wanted Ref, behind j slots from the last one on. -/
def wf (S : List Sec) (d : Dig) : Nat → Option Rf
  | 0 => none
  | 1 => fnd S d 1
  | _ + 2 => findS S d
theorem wf_s (S : List Sec) (d : Dig) {j : Nat} (hj : j < 2) : wf S d (j + 1) = (fnd S d (1 - j)).or (wf S d j) := by
  match j, hj with
  | 0, _ => simp [wf]
  | 1, _ => rfl
theorem fnd_eq {S : List Sec} {d : Dig} {i : Nat} {s : Sec} (hi : i < 2) (hs : S[i]? = some s) : fnd S d i = (told s.val).filter fun r => decide (r.dig = d) := by
  unfold fnd; rw [rdS_some hi hs]

theorem walk_SlotsTold (w : World) (epoch : Nat) (r : Rf) (first second : Sec) (dig : Dig) (slot : Int) (he : epoch < 2 ^ 64) :
    Ret Try.prog 3 [.int .u64 epoch, .agg (refR r).toArray, .agg (secR first).toArray, .agg (secR second).toArray, .agg (dgR dig).toArray, .int .i64 slot].toArray w fun u w' => u = .bool true ∧ Keep All w w' := by
  refine enter (fn := Try.f3) (n := 176) Try.func3 rfl rfl (by simp) ?_
  refine W_seq ?_
  refine W_region ?_
  refine o_box rfl rfl rfl ?_; intro w1 b1 e1 hB1 hk1 hs1
  refine o_box rfl rfl rfl ?_; intro w2 b2 e2 hB2 hk2 hs2
  refine o_box rfl rfl rfl ?_; intro w3 b3 e3 hB3 hk3 hs3
  refine o_box rfl rfl rfl ?_; intro w4 b4 e4 hB4 hk4 hs4
  refine o_asc rfl ?_
  refine ops_nil ?_
  refine W_seq ?_
  refine W_seq ?_
  refine W_region ?_
  refine op_call rfl rfl rfl (speaks14 w4) ?_; rintro v5 w5 ⟨rfl, hk5⟩
  have hB1 := hk5.blk' (hk4.blk' (hk3.blk' (hk2.blk' hB1 trivial) trivial) trivial) trivial
  have hB2 := hk5.blk' (hk4.blk' (hk3.blk' hB2 trivial) trivial) trivial
  have hB3 := hk5.blk' (hk4.blk' hB3 trivial) trivial
  have hB4 := hk5.blk' hB4 trivial
  have hkw5 := (((hk1.trans hk2).trans hk3).trans hk4).trans hk5
  refine op_run (r_not rfl) rfl ?_
  refine ops_nil ?_
  refine W_no rfl (rfl) ?_
  refine W_skip ?_
  refine W_seq ?_
  refine W_region ?_
  refine op_call rfl rfl rfl (DV.new w5 2 (by decide) (by decide)) ?_; rintro v8 w8 ⟨bD, rfl, hD8⟩
  refine o_mvt rfl ?_
  refine op_run (r_extract rfl rfl) rfl ?_
  refine op_run (r_extract rfl rfl) rfl ?_
  refine o_ast rfl ?_
  refine o_ast rfl ?_
  refine ops_nil ?_
  refine W_seq ?_
  refine W_cut [43] [38, 39, 40, 41, 42, 43] (fun vs w9 => vs = [.bool false] ∧ w9 = w8) ?_ ?_
  · refine W_region ?_
    refine o_mvt rfl ?_
    refine op_run (r_neq rfl rfl) rfl ?_
    refine o_mvt rfl ?_
    refine g_split rfl rfl rfl (fun g10 => ?_) (fun g10 => ?_)
    · refine o_mvt (g_yes rfl rfl rfl g10) ?_
      refine op_run (r_isNilP rfl rfl) (g_yes rfl rfl rfl g10) ?_
      refine o_pkFt rfl g10 rfl ?_
      refine ops_nil ?_
      exact ⟨by (repeat (first | with_reducible exact offM_refl _ _ | refine offM_updc rfl ?_ | refine offM_upd rfl ?_ | refine offM_updo rfl ?_ | refine offM_updo_none ?_ | refine offM_head rfl rfl ?_)), rfl, rfl⟩
    · refine op_skip (g_no rfl rfl rfl g10) ?_
      refine op_skip (g_no rfl rfl rfl g10) ?_
      refine o_pkTc rfl g10 rfl ?_
      refine ops_nil ?_
      exact absurd g10 (by decide)
  · rintro J13 vs w13 ⟨rfl, rfl⟩ -
    refine W_no rfl (rfl) ?_
    refine W_skip ?_
    refine W_seq ?_
    refine W_region ?_
    refine op_run (r_loadA (secR first) rfl rfl rfl (by first | rfl | (rw [dgR_len]; rfl) | (rw [refR_len]; rfl) | (rw [secR_len]; rfl) | (rw [List.length_map, tagF_len]; rfl)) ((hD8.kw.blk' hB2 trivial).all)) rfl ?_
    refine op_run (r_loadA (secR second) rfl rfl rfl (by first | rfl | (rw [dgR_len]; rfl) | (rw [refR_len]; rfl) | (rw [secR_len]; rfl) | (rw [List.length_map, tagF_len]; rfl)) ((hD8.kw.blk' hB3 trivial).all)) rfl ?_
    refine o_bsR secR secR_len [first, second] rfl ti_sec rfl rfl rfl rfl rfl rfl ?_; intro w18 b18 e18 hB18 hk18 hs18
    have hD18 := (hD8.keep hk18)
    have hD18 := hD8.fresh hk18 (Nat.le_of_eq e18.symm) (Keep.refl (A := (· ≠ b18)) w18) (by omega)
    refine o_ast rfl ?_
    refine ops_nil ?_
    refine W_seq ?_
    refine W_region ?_
    refine o_mvt rfl ?_
    refine op_run (r_loadA (secR first) rfl rfl rfl (by first | rfl | (rw [dgR_len]; rfl) | (rw [refR_len]; rfl) | (rw [secR_len]; rfl) | (rw [List.length_map, tagF_len]; rfl)) ((hD18.kw.blk' hB2 trivial).all)) rfl ?_
    refine op_call rfl rfl rfl (hD18.write 0 first (by decide)) ?_; rintro v20 w20 ⟨rfl, hD20, hk20⟩
    rw [if_pos (show (0 : Int) ≤ 0 ∧ (0 : Int) < ((Int.toNat 2 : Nat) : Int) by decide)] at hD20
    refine ops_nil ?_
    refine W_seq ?_
    refine W_region ?_
    refine o_mvt rfl ?_
    refine op_run (r_loadA (secR second) rfl rfl rfl (by first | rfl | (rw [dgR_len]; rfl) | (rw [refR_len]; rfl) | (rw [secR_len]; rfl) | (rw [List.length_map, tagF_len]; rfl)) ((hD20.kw.blk' hB3 trivial).all)) rfl ?_
    refine op_call rfl rfl rfl (hD20.write 1 second (by decide)) ?_; rintro v22 w22 ⟨rfl, hD22, hk22⟩
    rw [if_pos (show (0 : Int) ≤ 1 ∧ (1 : Int) < ((Int.toNat 2 : Nat) : Int) by decide)] at hD22
    have hD22 : DV w5 (fun j => False ∨ j = b18) bD 2 [first, second] 2 w22 := hD22
    have hL22 := hk22.blk' (hk20.blk' hB18 (.inr rfl)) (.inr rfl)
    have hb18 : w5.heap.size ≤ b18 := by have := hD8.kw.size; omega
    refine ops_nil ?_
    refine W_seq ?_
    refine W_seq ?_
    refine W_region ?_
    refine o_asc rfl ?_
    refine ops_nil ?_
    refine W_block ?_
    refine W_loop [16] [12, 16, 17, 18, 19, 20, 21, 22, 23, 24, 25, 26, 27, 28, 29, 30, 31, 53, 54, 55, 56, 57, 58, 59, 60, 61, 62, 63, 64, 65, 66, 67, 68, 69, 70, 71, 72, 73, 74, 75, 76, 77, 78, 79, 80, 81, 82, 83, 84, 85, 86, 87, 88, 89, 90, 91, 92, 93, 94, 95, 96, 97, 98, 99, 100, 101, 102, 103, 104, 105, 106, 107, 108, 109, 110, 111, 112, 113, 114, 115, 116, 117, 118, 119, 120, 121, 122, 123, 124, 125, 126, 127, 128, 129, 130, 131, 132, 133, 134, 135, 136, 137, 138, 139, 140, 141, 142, 143, 144, 145, 146, 147, 148, 149, 150, 151, 152, 153, 154, 155, 156, 157, 158, 159, 160, 161, 162, 163, 164, 165, 166, 167, 168, 169, 170, 171, 172, 173, 174, 175] (fun vs w' => ∃ (rd : Nat) (S : List Sec) (n : Nat), vs = [.int .i64 rd] ∧ rd ≤ 1 ∧ n ≤ 10 + rd ∧ DV w5 (fun j => False ∨ j = b18) bD 2 S n w' ∧ Blk w' b18 (rows secR S) 28) (fun vs _ => match vs with | [.int _ k] => 2 - k.toNat | _ => 0) ⟨0, [first, second], 2, rfl, by omega, by omega, hD22, hL22⟩ ?_
    rintro J23 vs w23 ⟨rd, S, n, rfl, hrd, hn, hD, hL⟩ -
    have hSl := hD.len
    refine W_seq ?_
    refine W_seq ?_
    refine W_region ?_
    refine o_mvt rfl ?_
    refine op_run (r_lss rfl rfl) rfl ?_
    refine ops_nil ?_
    refine W_cond_p rfl (fun h24 => ?_) (fun h24 => ?_)
    · refine W_skip ?_
      refine W_seq ?_
      refine W_block ?_
      refine W_seq ?_
      refine W_region ?_
      refine op_run (r_build ((refR Rf.zero)) (_) ([]) rfl rfl rfl rfl rfl (by rw [refR_zero]; rfl)) rfl ?_
      refine o_alloc rfl rfl rfl ?_; intro w26 b26 e26 hB26 hk26 hs26
      refine o_storeA (cs := refR Rf.zero) rfl rfl (by first | rfl | exact dgR_one _ | exact refR_one _ | exact secR_one _ | exact all_c8 _) (by first | rfl | (rw [dgR_len]; rfl) | (rw [refR_len]; rfl) | (rw [secR_len]; rfl) | (rw [List.length_map, tagF_len]; rfl)) hB26 (by exact Nat.le_of_eq (by simp [refR_len])) rfl ?_; intro w27 hB27 hk27 hs27
      have hB27 : Blk w27 b26 (refR Rf.zero) 26 := by
        have h := hB27
        rwa [splice_all (by simp [refR_len])] at h
      have hltL := hL.lt
      have hD27 := hD.fresh hk26 (Nat.le_of_eq e26.symm) hk27 (by omega)
      have hL27 := hk27.blk' (hk26.blk' hL trivial) (show b18 ≠ b26 by omega)
      have hb26 : w5.heap.size ≤ b26 := by have := hD.kw.size; omega
      refine o_asc rfl ?_
      refine ops_nil ?_
      refine W_seq ?_
      refine W_seq ?_
      refine W_region ?_
      refine o_asc rfl ?_
      refine ops_nil ?_
      refine W_block ?_
      refine W_loop [18, 19] [12, 18, 19, 20, 21, 22, 23, 58, 59, 60, 61, 62, 63, 64, 65, 66, 67, 68, 69, 70, 71, 72, 73, 74, 75, 76, 77, 78, 79, 80, 81, 82, 83, 84, 85, 86, 87, 88, 89, 90, 91] (fun vs w' => ∃ j : Nat, vs = [.bool (wf S dig j).isSome, .int .i64 (1 - (j : Int))] ∧ j ≤ 2 ∧ Blk w' b26 (refR ((wf S dig j).getD Rf.zero)) 26 ∧ Keep (· ≠ b26) w27 w') (fun vs _ => match vs with | [_, .int _ k] => (k + 1).toNat | _ => 0) ⟨0, rfl, by omega, hB27, Keep.refl _⟩ ?_
      rintro J28 vs w28 ⟨j, rfl, hj, hWt, hk28⟩ -
      have hD28 := hD27.other (.inr rfl) hb26 hk28
      have hL28 := hk28.blk' hL27 (show b18 ≠ b26 by omega)
      have hltW := hWt.lt
      refine W_seq ?_
      refine W_seq ?_
      refine W_region ?_
      refine o_mvt rfl ?_
      refine op_run (r_geq rfl rfl) rfl ?_
      refine ops_nil ?_
      refine W_cond_p rfl (fun h29 => ?_) (fun h29 => ?_)
      · refine W_skip ?_
        refine W_seq ?_
        refine W_block ?_
        refine W_seq ?_
        refine W_region ?_
        refine o_mvt rfl ?_
        refine o_mvt rfl ?_
        have hj2 : j < 2 := by omega
        obtain ⟨s, hs⟩ : ∃ s, S[1 - j]? = some s := ⟨_, List.getElem?_eq_getElem (by omega)⟩
        have hji : (1 - (j : Int)) = ((1 - j : Nat) : Int) := by omega
        have hrd := rdS_some (by omega) hs
        rw [← hji] at hrd
        refine op_run (r_idxS rfl rfl rfl ti_sec (by omega) (by omega)) rfl ?_
        refine op_run (r_loadA (secR s) rfl rfl rfl (by first | rfl | (rw [dgR_len]; rfl) | (rw [refR_len]; rfl) | (rw [secR_len]; rfl) | (rw [List.length_map, tagF_len]; rfl)) ((by intro u v hu; rw [show (1 - (j : Int)).toNat = 1 - j by omega]; exact rowS hL28 hs u v hu))) rfl ?_
        refine op_call rfl rfl rfl (rf14_Told w28 s) ?_; rintro v32 w32 ⟨rfl, hk32⟩
        refine o_mvt rfl ?_
        refine op_run (r_extract rfl rfl) rfl ?_
        refine op_run (r_extract rfl rfl) rfl ?_
        refine o_alloc rfl rfl rfl ?_; intro w33 b33 e33 hB33 hk33 hs33
        refine o_storeA (cs := refR ((told s.val).getD Rf.zero)) rfl rfl (by first | rfl | exact dgR_one _ | exact refR_one _ | exact secR_one _ | exact all_c8 _) (by first | rfl | (rw [dgR_len]; rfl) | (rw [refR_len]; rfl) | (rw [secR_len]; rfl) | (rw [List.length_map, tagF_len]; rfl)) hB33 (by exact Nat.le_of_eq (by simp [refR_len])) rfl ?_; intro w34 hB34 hk34 hs34
        have hB34 : Blk w34 b33 (refR ((told s.val).getD Rf.zero)) 26 := by
          have h := hB34
          rwa [splice_all (by simp [refR_len])] at h
        have hz32 := hk32.size
        have hD34 := ((hD28.keep hk32).fresh hk33 (Nat.le_of_eq e33.symm) hk34 (by omega)).mono (K' := fun k => (False ∨ k = b18) ∨ k = b26) fun k h => .inl h
        have hWt34 := hk34.blk' (hk33.blk' (hk32.blk' hWt trivial) trivial) (show b26 ≠ b33 by omega)
        refine o_ast rfl ?_
        refine ops_nil ?_
        refine W_seq ?_
        refine W_region ?_
        refine o_mvt rfl ?_
        refine o_mvt rfl ?_
        refine op_call rfl rfl rfl (hD34.sread (1 - (j : Int)) (by decide) (by omega)) ?_; rintro v35 w35 ⟨rfl, hk35⟩
        rw [hrd]
        refine o_mvt rfl ?_
        refine op_run (r_extract rfl rfl) rfl ?_
        refine op_run (r_extract rfl rfl) rfl ?_
        refine o_alloc rfl rfl rfl ?_; intro w36 b36 e36 hB36 hk36 hs36
        refine o_storeA (cs := refR ((told s.val).getD Rf.zero)) rfl rfl (by first | rfl | exact dgR_one _ | exact refR_one _ | exact secR_one _ | exact all_c8 _) (by first | rfl | (rw [dgR_len]; rfl) | (rw [refR_len]; rfl) | (rw [secR_len]; rfl) | (rw [List.length_map, tagF_len]; rfl)) hB36 (by exact Nat.le_of_eq (by simp [refR_len])) rfl ?_; intro w37 hB37 hk37 hs37
        have hB37 : Blk w37 b36 (refR ((told s.val).getD Rf.zero)) 26 := by
          have h := hB37
          rwa [splice_all (by simp [refR_len])] at h
        have hz35 := hk35.size
        have hlt34 := hB34.lt
        have hB34 := hk37.blk' (hk36.blk' (hk35.blk' hB34 trivial) trivial) (show b33 ≠ b36 by omega)
        have hWt37 := hk37.blk' (hk36.blk' (hk35.blk' hWt34 trivial) trivial) (show b26 ≠ b36 by omega)
        have hk2837 : Keep All w28 w37 := ((((hk32.trans hk33).new hk34 (by omega)).trans hk35).trans hk36).new hk37 (by omega)
        have hB4' := (hD28.kw.trans hk2837).blk' hB4 trivial
        refine o_ast rfl ?_
        refine ops_nil ?_
        refine W_seq ?_
        refine W_cut [83] [76, 77, 78, 79, 80, 81, 82, 83] (fun vs w38 => vs = [.bool false] ∧ w38 = w37) ?_ ?_
        · refine W_region ?_
          refine o_mvt rfl ?_
          refine o_mvt rfl ?_
          refine op_run (r_neqB rfl rfl rfl) rfl ?_
          refine o_mvt rfl ?_
          refine g_split rfl rfl rfl (fun g39 => ?_) (fun g => absurd g (by simp))
          refine op_run (r_loadA (refR ((told s.val).getD Rf.zero)) rfl rfl rfl (by first | rfl | (rw [dgR_len]; rfl) | (rw [refR_len]; rfl) | (rw [secR_len]; rfl) | (rw [List.length_map, tagF_len]; rfl)) (hB37.all)) (g_yes rfl rfl rfl g39) ?_
          refine op_run (r_loadA (refR ((told s.val).getD Rf.zero)) rfl rfl rfl (by first | rfl | (rw [dgR_len]; rfl) | (rw [refR_len]; rfl) | (rw [secR_len]; rfl) | (rw [List.length_map, tagF_len]; rfl)) (hB34.all)) (g_yes rfl rfl rfl g39) ?_
          refine op_run (r_neqC (p := True) rfl rfl rfl rfl (by kernel_rfl) (okC_ref _) (okC_ref _) rfl (by simp)) (g_yes rfl rfl rfl g39) ?_
          refine o_pkFt rfl g39 rfl ?_
          refine ops_nil ?_
          exact ⟨by (repeat (first | with_reducible exact offM_refl _ _ | refine offM_updc rfl ?_ | refine offM_upd rfl ?_ | refine offM_updo rfl ?_ | refine offM_updo_none ?_ | refine offM_head rfl rfl ?_)), congrArg (fun b => [Value.bool b]) (by simp), rfl⟩
        · rintro J44 vs w44 ⟨rfl, rfl⟩ -
          refine W_no rfl (rfl) ?_
          refine W_skip ?_
          refine W_cut [90] [84, 85, 86, 87, 88, 89, 90] (fun vs w47 => vs = [.bool (decide (fnd S dig (1 - j) ≠ none))] ∧ w47 = w44) ?_ ?_
          · refine W_region ?_
            refine o_mvt rfl ?_
            refine o_mvt rfl ?_
            refine g_split rfl rfl rfl (fun g48 => ?_) (fun g48 => ?_)
            · refine op_run (r_fieldAddr rfl rfl rfl rfl rfl) (g_yes rfl rfl rfl g48) ?_
              refine op_run (r_loadA (dgR ((told s.val).getD Rf.zero).dig) rfl rfl rfl (by first | rfl | (rw [dgR_len]; rfl) | (rw [refR_len]; rfl) | (rw [secR_len]; rfl) | (rw [List.length_map, tagF_len]; rfl)) ((fun u v hu => by rw [Addr.add_lit]; show w44.cell? ⟨b33, 0 + 0 + u, none⟩ = some v; rw [Nat.zero_add]; exact hB34.cell (refR_dig _ hu)))) (g_yes rfl rfl rfl g48) ?_
              refine op_run (r_loadA (dgR dig) rfl rfl rfl (by first | rfl | (rw [dgR_len]; rfl) | (rw [refR_len]; rfl) | (rw [secR_len]; rfl) | (rw [List.length_map, tagF_len]; rfl)) (hB4'.all)) (g_yes rfl rfl rfl g48) ?_
              refine op_run (r_eqlC (p := ((told s.val).getD Rf.zero).dig = dig) rfl rfl rfl rfl (by kernel_rfl) (okC_dgR _) (okC_dgR _) rfl (dgR_inj)) (g_yes rfl rfl rfl g48) ?_
              refine o_pkTt rfl g48 rfl ?_
              refine ops_nil ?_
              refine ⟨by (repeat (first | with_reducible exact offM_refl _ _ | refine offM_updc rfl ?_ | refine offM_upd rfl ?_ | refine offM_updo rfl ?_ | refine offM_updo_none ?_ | refine offM_head rfl rfl ?_)), congrArg (fun b => [Value.bool b]) ?_, rfl⟩
              have g48 : (told s.val).isSome = true := g48
              obtain ⟨x, hx⟩ := Option.isSome_iff_exists.1 g48
              rw [fnd_eq (by omega) hs, hx, decide_eq_decide]
              by_cases hh : x.dig = dig <;> simp [hh]
            · refine op_skip (g_no rfl rfl rfl g48) ?_
              refine op_skip (g_no rfl rfl rfl g48) ?_
              refine op_skip (g_no rfl rfl rfl g48) ?_
              refine op_skip (g_no rfl rfl rfl g48) ?_
              refine o_pkFc rfl g48 rfl ?_
              refine ops_nil ?_
              refine ⟨by (repeat (first | with_reducible exact offM_refl _ _ | refine offM_updc rfl ?_ | refine offM_upd rfl ?_ | refine offM_updo rfl ?_ | refine offM_updo_none ?_ | refine offM_head rfl rfl ?_)), congrArg (fun b => [Value.bool b]) ?_, rfl⟩
              have g48 : (told s.val).isSome = false := g48
              rw [fnd_eq (by omega) hs, Option.isSome_eq_false_iff.1 g48 |> Option.isNone_iff_eq_none.1]; rfl
          · rintro J54 vs w54 ⟨rfl, rfl⟩ -
            refine W_cond_p rfl (fun h55 => ?_) (fun h55 => ?_)
            · refine W_region ?_
              have hx : fnd S dig (1 - j) = some ((told s.val).getD Rf.zero) := by
                rw [fnd_eq (by omega) hs] at h55 ⊢
                cases hr : told s.val with
                | none => rw [hr] at h55; exact absurd rfl h55
                | some x =>
                  rw [hr] at h55
                  by_cases hh : x.dig = dig
                  · simp [hh]
                  · simp [hh] at h55
              refine op_run (r_loadA (refR ((told s.val).getD Rf.zero)) rfl rfl rfl (by first | rfl | (rw [dgR_len]; rfl) | (rw [refR_len]; rfl) | (rw [secR_len]; rfl) | (rw [List.length_map, tagF_len]; rfl)) (hB34.all)) rfl ?_
              refine o_storeA (cs := refR ((told s.val).getD Rf.zero)) rfl rfl (by first | rfl | exact dgR_one _ | exact refR_one _ | exact secR_one _ | exact all_c8 _) (by first | rfl | (rw [dgR_len]; rfl) | (rw [refR_len]; rfl) | (rw [secR_len]; rfl) | (rw [List.length_map, tagF_len]; rfl)) hWt37 (by exact Nat.le_of_eq (by simp [refR_len])) rfl ?_; intro w57 hB57 hk57 hs57
              rw [splice_all (by simp [refR_len])] at hB57
              refine o_asc rfl ?_
              refine ops_nil ?_
              refine W_region ?_
              refine o_mvt rfl ?_
              refine op_run ((r_sub rfl rfl).val (congrArg (Value.int .i64) (show IntKind.i64.wrap (1 - (j : Int) - 1) = 1 - ((j + 1 : Nat) : Int) from (wrap_i64 (by omega) (by omega)).trans (by omega)))) rfl ?_
              refine o_ast rfl ?_
              refine ops_nil ?_
              have hwj : wf S dig (j + 1) = some ((told s.val).getD Rf.zero) := by rw [wf_s S dig hj2, hx]; rfl
              refine ⟨by (repeat (first | with_reducible exact offM_refl _ _ | refine offM_updc rfl ?_ | refine offM_upd rfl ?_ | refine offM_updo rfl ?_ | refine offM_updo_none ?_ | refine offM_head rfl rfl ?_)), ⟨j + 1, by rw [hwj]; rfl, by omega, by rw [hwj]; exact hB57, (hk28.trans hk2837.all).trans hk57⟩, ?_⟩
              show ((1 - ((j + 1 : Nat) : Int)) + 1).toNat < ((1 - (j : Int)) + 1).toNat
              omega
            · refine W_skip ?_
              refine W_region ?_
              refine o_mvt rfl ?_
              refine op_run ((r_sub rfl rfl).val (congrArg (Value.int .i64) (show IntKind.i64.wrap (1 - (j : Int) - 1) = 1 - ((j + 1 : Nat) : Int) from (wrap_i64 (by omega) (by omega)).trans (by omega)))) rfl ?_
              refine o_ast rfl ?_
              refine ops_nil ?_
              have hwj : wf S dig (j + 1) = wf S dig j := by rw [wf_s S dig hj2, Decidable.not_not.1 h55]; rfl
              refine ⟨by (repeat (first | with_reducible exact offM_refl _ _ | refine offM_updc rfl ?_ | refine offM_upd rfl ?_ | refine offM_updo rfl ?_ | refine offM_updo_none ?_ | refine offM_head rfl rfl ?_)), ⟨j + 1, by rw [hwj]; rfl, by omega, by rw [hwj]; exact hWt37, hk28.trans hk2837.all⟩, ?_⟩
              show ((1 - ((j + 1 : Nat) : Int)) + 1).toNat < ((1 - (j : Int)) + 1).toNat
              omega
      · refine W_exit ?_
        refine W_seq ?_
        refine W_region ?_
        refine o_mvt rfl ?_
        have hjp : j = 2 := by omega
        subst hjp
        rw [show wf S dig 2 = findS S dig from rfl] at hWt ⊢
        refine op_run (r_loadA (dgR dig) rfl rfl rfl (by first | rfl | (rw [dgR_len]; rfl) | (rw [refR_len]; rfl) | (rw [secR_len]; rfl) | (rw [List.length_map, tagF_len]; rfl)) ((hD28.kw.blk' hB4 trivial).all)) rfl ?_
        refine op_call rfl rfl rfl (hD28.sfind dig (by decide) (by omega)) ?_; rintro v61 w61 ⟨rfl, hk61⟩
        refine o_mvt rfl ?_
        refine op_run (r_extract rfl rfl) rfl ?_
        refine op_run (r_extract rfl rfl) rfl ?_
        refine o_alloc rfl rfl rfl ?_; intro w62 b62 e62 hB62 hk62 hs62
        refine o_storeA (cs := refR ((findS S dig).getD Rf.zero)) rfl rfl (by first | rfl | exact dgR_one _ | exact refR_one _ | exact secR_one _ | exact all_c8 _) (by first | rfl | (rw [dgR_len]; rfl) | (rw [refR_len]; rfl) | (rw [secR_len]; rfl) | (rw [List.length_map, tagF_len]; rfl)) hB62 (by exact Nat.le_of_eq (by simp [refR_len])) rfl ?_; intro w63 hB63 hk63 hs63
        have hB63 : Blk w63 b62 (refR ((findS S dig).getD Rf.zero)) 26 := by
          have h := hB63
          rwa [splice_all (by simp [refR_len])] at h
        have hz61 := hk61.size
        have hWt63 := hk63.blk' (hk62.blk' (hk61.blk' hWt trivial) trivial) (show b26 ≠ b62 by omega)
        have hL63 := hk63.blk' (hk62.blk' (hk61.blk' hL28 trivial) trivial) (show b18 ≠ b62 by omega)
        have hD63 := ((hD28.keep hk61).fresh hk62 (Nat.le_of_eq e62.symm) hk63 (by omega)).mono (K' := fun k => False ∨ k = b18) fun k h => .inl (.inl h)
        refine o_ast rfl ?_
        refine ops_nil ?_
        refine W_seq ?_
        refine W_cut [114] [98, 99, 100, 101, 102, 103, 104, 105, 106, 107, 108, 109, 110, 111, 112, 113, 114] (fun vs w64 => vs = [.bool false] ∧ w64 = w63) ?_ ?_
        · refine W_region ?_
          refine op_run (r_loadA (refR ((findS S dig).getD Rf.zero)) rfl rfl rfl (by first | rfl | (rw [dgR_len]; rfl) | (rw [refR_len]; rfl) | (rw [secR_len]; rfl) | (rw [List.length_map, tagF_len]; rfl)) (hB63.all)) rfl ?_
          refine op_run (r_loadA (refR ((findS S dig).getD Rf.zero)) rfl rfl rfl (by first | rfl | (rw [dgR_len]; rfl) | (rw [refR_len]; rfl) | (rw [secR_len]; rfl) | (rw [List.length_map, tagF_len]; rfl)) (hWt63.all)) rfl ?_
          refine op_run (r_neqC (p := True) rfl rfl rfl rfl (by kernel_rfl) (okC_ref _) (okC_ref _) rfl (by simp)) rfl ?_
          refine o_mvt rfl ?_
          refine g_split rfl rfl rfl (fun g68 => ?_) (fun g => absurd g (by simp))
          refine o_mvt (g_yes rfl rfl rfl g68) ?_
          refine o_mvt (g_yes rfl rfl rfl g68) ?_
          refine op_run (r_eql rfl rfl) (g_yes rfl rfl rfl g68) ?_
          refine op_run (r_neqB rfl rfl rfl) (g_yes rfl rfl rfl g68) ?_
          refine o_pkFt rfl g68 rfl ?_
          refine o_mvt rfl ?_
          refine g_split rfl rfl rfl (fun g69 => ?_) (fun g => absurd g (by cases (findS S dig).isSome <;> simp))
          refine o_mvt (g_yes rfl rfl rfl g69) ?_
          refine op_run (r_not rfl) (g_yes rfl rfl rfl g69) ?_
          refine o_mvt (g_yes rfl rfl rfl g69) ?_
          refine g_split rfl rfl rfl (fun g70 => ?_) (fun g70 => ?_)
          · refine o_mvt (g_yes rfl rfl rfl (by rw [g70] <;> rfl)) ?_
            refine op_run (r_neq rfl rfl) (g_yes rfl rfl rfl (by rw [g70] <;> rfl)) ?_
            refine o_pkTt rfl (by rw [g70] <;> rfl) (g_yes rfl rfl rfl g69) ?_
            refine o_pkFt rfl g69 rfl ?_
            refine ops_nil ?_
            refine ⟨by (repeat (first | with_reducible exact offM_refl _ _ | refine offM_updc rfl ?_ | refine offM_upd rfl ?_ | refine offM_updo rfl ?_ | refine offM_updo_none ?_ | refine offM_head rfl rfl ?_)), congrArg (fun b => [Value.bool b]) ?_, rfl⟩
            have h : (!(findS S dig).isSome) = true := g70
            have h : (findS S dig).isSome = false := by simpa using h
            rw [h]; rfl
          · refine op_skip (g_no rfl rfl rfl (by rw [g70] <;> rfl)) ?_
            refine op_skip (g_no rfl rfl rfl (by rw [g70] <;> rfl)) ?_
            refine o_pkFc rfl (by rw [g70] <;> rfl) (g_yes rfl rfl rfl g69) ?_
            refine o_pkFt rfl g69 rfl ?_
            refine ops_nil ?_
            exact ⟨by (repeat (first | with_reducible exact offM_refl _ _ | refine offM_updc rfl ?_ | refine offM_upd rfl ?_ | refine offM_updo rfl ?_ | refine offM_updo_none ?_ | refine offM_head rfl rfl ?_)), rfl, rfl⟩
        · rintro J73 vs w73 ⟨rfl, rfl⟩ -
          refine W_no rfl (rfl) ?_
          refine W_skip ?_
          refine W_seq ?_
          refine W_seq ?_
          refine W_region ?_
          refine o_mvt rfl ?_
          refine o_mvt rfl ?_
          refine op_call rfl rfl rfl (hD63.sread slot (by decide) (by omega)) ?_; rintro v76 w76 ⟨rfl, hk76⟩
          refine o_mvt rfl ?_
          refine op_run (r_extract rfl rfl) rfl ?_
          refine op_run (r_extract rfl rfl) rfl ?_
          refine o_alloc rfl rfl rfl ?_; intro w77 b77 e77 hB77 hk77 hs77
          refine o_storeA (cs := refR ((rdS S slot).getD Rf.zero)) rfl rfl (by first | rfl | exact dgR_one _ | exact refR_one _ | exact secR_one _ | exact all_c8 _) (by first | rfl | (rw [dgR_len]; rfl) | (rw [refR_len]; rfl) | (rw [secR_len]; rfl) | (rw [List.length_map, tagF_len]; rfl)) hB77 (by exact Nat.le_of_eq (by simp [refR_len])) rfl ?_; intro w78 hB78 hk78 hs78
          have hz76 := hk76.size
          have hltL63 := hL63.lt
          have hL78 := hk78.blk' (hk77.blk' (hk76.blk' hL63 trivial) trivial) (show b18 ≠ b77 by omega)
          have hD78 := ((hD63.keep hk76).fresh hk77 (Nat.le_of_eq e77.symm) hk78 (by omega)).mono (K' := fun k => False ∨ k = b18) fun k h => .inl h
          refine o_ast rfl ?_
          refine ops_nil ?_
          refine W_cut [129] [121, 122, 123, 124, 125, 126, 127, 128, 129] (fun vs w79 => vs = [.bool false] ∧ w79 = w78) ?_ ?_
          · refine W_region ?_
            refine o_mvt rfl ?_
            refine o_mvt rfl ?_
            refine g_split rfl rfl rfl (fun g80 => ?_) (fun g80 => ?_)
            · refine o_mvt (g_yes rfl rfl rfl g80) ?_
              refine op_run (r_neq rfl rfl) (g_yes rfl rfl rfl g80) ?_
              refine o_pkTt rfl g80 rfl ?_
              refine o_mvt rfl ?_
              refine g_split rfl rfl rfl (fun g81 => ?_) (fun g81 => ?_)
              · refine o_mvt (g_yes rfl rfl rfl g81) ?_
                refine op_run (r_neq rfl rfl) (g_yes rfl rfl rfl g81) ?_
                refine o_pkTt rfl g81 rfl ?_
                refine ops_nil ?_
                have g80 : (rdS S slot).isSome = true := g80
                have g81 := of_decide_eq_true g81
                have hsl : 0 ≤ slot ∧ slot < 2 := by
                  apply Decidable.byContradiction
                  intro h
                  unfold rdS at g80
                  rw [if_neg h] at g80; cases g80
                exact ⟨by (repeat (first | with_reducible exact offM_refl _ _ | refine offM_updc rfl ?_ | refine offM_upd rfl ?_ | refine offM_updo rfl ?_ | refine offM_updo_none ?_ | refine offM_head rfl rfl ?_)), congrArg (fun b => [Value.bool b]) (decide_eq_false (by omega)), rfl⟩
              · refine op_skip (g_no rfl rfl rfl g81) ?_
                refine op_skip (g_no rfl rfl rfl g81) ?_
                refine o_pkFc rfl g81 rfl ?_
                refine ops_nil ?_
                exact ⟨by (repeat (first | with_reducible exact offM_refl _ _ | refine offM_updc rfl ?_ | refine offM_upd rfl ?_ | refine offM_updo rfl ?_ | refine offM_updo_none ?_ | refine offM_head rfl rfl ?_)), rfl, rfl⟩
            · refine op_skip (g_no rfl rfl rfl g80) ?_
              refine op_skip (g_no rfl rfl rfl g80) ?_
              refine o_pkFc rfl g80 rfl ?_
              refine o_mvt rfl ?_
              refine op_skip (g_no rfl rfl rfl rfl) ?_
              refine op_skip (g_no rfl rfl rfl rfl) ?_
              refine o_pkFc rfl rfl rfl ?_
              refine ops_nil ?_
              exact ⟨by (repeat (first | with_reducible exact offM_refl _ _ | refine offM_updc rfl ?_ | refine offM_upd rfl ?_ | refine offM_updo rfl ?_ | refine offM_updo_none ?_ | refine offM_head rfl rfl ?_)), rfl, rfl⟩
          · rintro J85 vs w85 ⟨rfl, rfl⟩ -
            refine W_no rfl (rfl) ?_
            refine W_skip ?_
            refine W_seq ?_
            refine W_seq ?_
            refine W_region ?_
            refine o_mvt rfl ?_
            refine op_run (r_eql rfl rfl) rfl ?_
            refine ops_nil ?_
            refine W_cond_p rfl (fun h88 => ?_) (fun h88 => ?_)
            · refine W_exit ?_
              refine W_seq ?_
              refine W_region ?_
              refine o_asc rfl ?_
              refine ops_nil ?_
              refine W_ret ?_
              refine ret1 (.bool true) rfl ?_ ?_; rfl
              exact ⟨rfl, hkw5.trans hD78.kw⟩
            · refine W_skip ?_
              refine W_seq ?_
              refine W_region ?_
              refine o_mvt rfl ?_
              refine o_mvt rfl ?_
              have hrd0 : rd = 0 := by omega
              subst hrd0
              refine op_run (r_loadA (refR r) rfl rfl rfl (by first | rfl | (rw [dgR_len]; rfl) | (rw [refR_len]; rfl) | (rw [secR_len]; rfl) | (rw [List.length_map, tagF_len]; rfl)) ((hD78.kw.blk' hB1 trivial).all)) rfl ?_
              refine op_call rfl rfl rfl (hD78.swrite epoch r (by decide) (by omega) he) ?_; rintro v91 w91 ⟨rfl, hD91, hk91⟩
              have hL91 := hk91.blk' hL78 (.inr rfl)
              refine o_ast rfl ?_
              refine ops_nil ?_
              refine W_seq ?_
              refine W_cut [149] [136, 137, 138, 139, 140, 141, 142, 143, 144, 145, 146, 147, 148, 149] (fun vs w92 => vs = [.bool false] ∧ Keep All w91 w92) ?_ ?_
              · refine W_region ?_
                refine op_run (r_loadA (refR r) rfl rfl rfl (by first | rfl | (rw [dgR_len]; rfl) | (rw [refR_len]; rfl) | (rw [secR_len]; rfl) | (rw [List.length_map, tagF_len]; rfl)) ((hD91.kw.blk' hB1 trivial).all)) rfl ?_
                refine op_call rfl rfl rfl (rf14_May w91 r) ?_; rintro v94 w94 ⟨rfl, hk94⟩
                refine o_mvt rfl ?_
                refine op_run (r_eql rfl rfl) rfl ?_
                refine op_run (r_neqB rfl rfl rfl) rfl ?_
                refine o_mvt rfl ?_
                refine g_split rfl rfl rfl (fun g95 => ?_) (fun g => absurd g (by by_cases h : r.may <;> simp [h]))
                refine op_run (r_loadA (refR r) rfl rfl rfl (by first | rfl | (rw [dgR_len]; rfl) | (rw [refR_len]; rfl) | (rw [secR_len]; rfl) | (rw [List.length_map, tagF_len]; rfl)) ((hk94.blk' (hD91.kw.blk' hB1 trivial) trivial).all)) (g_yes rfl rfl rfl g95) ?_
                refine op_call rfl rfl (g_yes rfl rfl rfl g95) (rf14_May w94 r) ?_; rintro v97 w97 ⟨rfl, hk97⟩
                refine op_run (r_not rfl) (g_yes rfl rfl rfl g95) ?_
                refine o_mvt (g_yes rfl rfl rfl g95) ?_
                refine g_split rfl rfl rfl (fun g98 => ?_) (fun g98 => ?_)
                · refine o_mvt (g_yes rfl rfl rfl (by rw [g98] <;> rfl)) ?_
                  refine op_run (r_neq rfl rfl) (g_yes rfl rfl rfl (by rw [g98] <;> rfl)) ?_
                  refine o_pkTt rfl (by rw [g98] <;> rfl) (g_yes rfl rfl rfl g95) ?_
                  refine o_pkFt rfl g95 rfl ?_
                  refine ops_nil ?_
                  have hm : ¬ r.may := by have h : (!decide r.may) = true := g98; simpa using h
                  exact ⟨by (repeat (first | with_reducible exact offM_refl _ _ | refine offM_updc rfl ?_ | refine offM_upd rfl ?_ | refine offM_updo rfl ?_ | refine offM_updo_none ?_ | refine offM_head rfl rfl ?_)), congrArg (fun b => [Value.bool b]) (by simp [hm]), hk94.trans hk97⟩
                · refine op_skip (g_no rfl rfl rfl (by rw [g98] <;> rfl)) ?_
                  refine op_skip (g_no rfl rfl rfl (by rw [g98] <;> rfl)) ?_
                  refine o_pkFc rfl (by rw [g98] <;> rfl) (g_yes rfl rfl rfl g95) ?_
                  refine o_pkFt rfl g95 rfl ?_
                  refine ops_nil ?_
                  exact ⟨by (repeat (first | with_reducible exact offM_refl _ _ | refine offM_updc rfl ?_ | refine offM_upd rfl ?_ | refine offM_updo rfl ?_ | refine offM_updo_none ?_ | refine offM_head rfl rfl ?_)), rfl, hk94.trans hk97⟩
              · rintro J101 vs w101 ⟨rfl, hk101⟩ -
                refine W_no rfl (rfl) ?_
                refine W_skip ?_
                refine W_cut [] [150, 151, 152, 153, 154, 155, 156, 157] (fun vs w104 => DV w5 (fun j => False ∨ j = b18) bD 2 (if r.may then S.set (epoch % 2) (laidS r) else S) (n + 1) w104 ∧ Blk w104 b18 (rows secR (if r.may then S.set (epoch % 2) (laidS r) else S)) 28) ?_ ?_
                · refine W_seq ?_
                  refine W_region ?_
                  have hD101 := hD91.keep hk101
                  have hL101 := hk101.blk' hL91 trivial
                  refine op_run (r_loadA (refR r) rfl rfl rfl (by first | rfl | (rw [dgR_len]; rfl) | (rw [refR_len]; rfl) | (rw [secR_len]; rfl) | (rw [List.length_map, tagF_len]; rfl)) ((hD101.kw.blk' hB1 trivial).all)) rfl ?_
                  refine op_call rfl rfl rfl (rf14_May w101 r) ?_; rintro v106 w106 ⟨rfl, hk106⟩
                  refine ops_nil ?_
                  refine W_cond_p rfl (fun h107 => ?_) (fun h107 => ?_)
                  · refine W_region ?_
                    refine o_mvt rfl ?_
                    refine o_mvt rfl ?_
                    refine op_run ((r_rem rfl rfl (by decide)).val (congrArg (Value.int .u64) (show Int.tmod (epoch : Int) 2 = ((epoch % 2 : Nat) : Int) from rfl))) rfl ?_
                    refine op_run (r_loadA (refR r) rfl rfl rfl (by first | rfl | (rw [dgR_len]; rfl) | (rw [refR_len]; rfl) | (rw [secR_len]; rfl) | (rw [List.length_map, tagF_len]; rfl)) ((hk106.blk' (hD101.kw.blk' hB1 trivial) trivial).all)) rfl ?_
                    refine op_call rfl rfl rfl (rf14_Laid w106 r) ?_; rintro v109 w109 ⟨rfl, hk109⟩
                    refine op_run (r_idxS rfl rfl rfl ti_sec (by omega) (by omega)) rfl ?_
                    refine o_storeA (cs := secR (laidS r)) rfl rfl (by first | rfl | exact dgR_one _ | exact refR_one _ | exact secR_one _ | exact all_c8 _) (by first | rfl | (rw [dgR_len]; rfl) | (rw [refR_len]; rfl) | (rw [secR_len]; rfl) | (rw [List.length_map, tagF_len]; rfl)) (hk109.blk' (hk106.blk' hL101 trivial) trivial) (by rw [rows_len secR_len, secR_len, hSl, Int.toNat_natCast]; omega) rfl ?_; intro w111 hB111 hk111 hs111
                    refine ops_nil ?_
                    refine ⟨by (repeat (first | with_reducible exact offM_refl _ _ | refine offM_updc rfl ?_ | refine offM_upd rfl ?_ | refine offM_updo rfl ?_ | refine offM_updo_none ?_ | refine offM_head rfl rfl ?_)), ((hD101.keep hk106).keep hk109).other (.inr rfl) hb18 hk111, ?_⟩
                    rw [if_pos h107]
                    have h : Blk w111 b18 (splice (rows secR S) (0 + (epoch % 2) * 64) (secR (laidS r))) 28 := hB111
                    rwa [Nat.zero_add, rows_set secR_len (by omega)] at h
                  · refine W_skip ?_
                    refine ⟨by (repeat (first | with_reducible exact offM_refl _ _ | refine offM_updc rfl ?_ | refine offM_upd rfl ?_ | refine offM_updo rfl ?_ | refine offM_updo_none ?_ | refine offM_head rfl rfl ?_)), hD101.keep hk106, ?_⟩
                    rw [if_neg h107]
                    exact hk106.blk' hL101 trivial
                · rintro J114 vs w114 ⟨hD114, hL114⟩ -
                  generalize (if r.may then S.set (epoch % 2) (laidS r) else S) = S' at hD114 hL114
                  have hSl' := hD114.len
                  refine W_seq ?_
                  refine W_region ?_
                  refine o_mvt rfl ?_
                  refine op_run (r_len rfl rfl rfl) rfl ?_
                  refine o_mvc rfl ?_
                  refine ops_nil ?_
                  refine W_block ?_
                  refine W_loop [160] [12, 29, 30, 31, 160, 161, 162, 163, 164, 165, 166, 167, 168, 169, 170, 171, 172, 173, 174, 175] (fun vs w' => ∃ k : Nat, vs = [.int .i64 k] ∧ k ≤ 2 ∧ Keep All w114 w') (fun vs _ => match vs with | [.int _ k] => 2 - k.toNat | _ => 0) ⟨0, rfl, by omega, Keep.refl _⟩ ?_
                  rintro J115 vs w115 ⟨k, rfl, hk, hk115⟩ -
                  refine W_seq ?_
                  refine W_region ?_
                  refine op_run (r_lss rfl rfl) rfl ?_
                  refine ops_nil ?_
                  refine W_seq ?_
                  refine W_cond_p rfl (fun h116 => ?_) (fun h116 => ?_)
                  · refine W_skip ?_
                    refine W_seq ?_
                    refine W_block ?_
                    refine W_seq ?_
                    refine W_region ?_
                    refine o_mvt rfl ?_
                    refine o_ast rfl ?_
                    refine ops_nil ?_
                    refine W_seq ?_
                    refine W_region ?_
                    refine o_mvt rfl ?_
                    refine o_mvt rfl ?_
                    have hk2' : k < 2 := by omega
                    have hinck := inc64' k (by omega)
                    obtain ⟨s', hs'⟩ : ∃ s, S'[k]? = some s := ⟨_, List.getElem?_eq_getElem (by omega)⟩
                    refine op_call rfl rfl rfl ((hD114.keep hk115).read k (by omega)) ?_; rintro v117 w117 ⟨s2, e2, rfl, hse, hk117⟩
                    obtain rfl : s2 = s' := by
                      rcases hse with ⟨_, _, h⟩ | ⟨h, _⟩
                      · rw [Int.toNat_natCast, hs'] at h; injection h with h; exact h.symm
                      · exact absurd ⟨by omega, by omega⟩ h
                    refine o_mvt rfl ?_
                    refine op_run (r_extract rfl rfl) rfl ?_
                    refine op_run (r_extract rfl rfl) rfl ?_
                    refine o_alloc rfl rfl rfl ?_; intro w118 b118 e118 hB118 hk118 hs118
                    refine o_storeA (cs := secR s2) rfl rfl (by first | rfl | exact dgR_one _ | exact refR_one _ | exact secR_one _ | exact all_c8 _) (by first | rfl | (rw [dgR_len]; rfl) | (rw [refR_len]; rfl) | (rw [secR_len]; rfl) | (rw [List.length_map, tagF_len]; rfl)) hB118 (by exact Nat.le_of_eq (by simp [secR_len])) rfl ?_; intro w119 hB119 hk119 hs119
                    have hB119 : Blk w119 b118 (secR s2) 28 := by
                      have h := hB119
                      rwa [splice_all (by simp [secR_len])] at h
                    have hz115 := hk115.size
                    have hz117 := hk117.size
                    have hltL' := hL114.lt
                    have hL119 := hk119.blk' (hk118.blk' (hk117.blk' (hk115.blk' hL114 trivial) trivial) trivial) (show b18 ≠ b118 by omega)
                    have hk114' : Keep All w114 w119 := ((hk115.trans hk117).trans hk118).new hk119 (by omega)
                    refine o_ast rfl ?_
                    refine ops_nil ?_
                    refine W_seq ?_
                    refine W_quiet (Keep All w119) (by kernel_rfl) (by kernel_rfl) (Keep.drawn _) ?_
                    refine q_run (fun _ hk => r_loadA (secR s2) rfl rfl rfl (by first | rfl | (rw [dgR_len]; rfl) | (rw [refR_len]; rfl) | (rw [secR_len]; rfl) | (rw [List.length_map, tagF_len]; rfl)) ((hk.blk' hB119 trivial).all)) rfl ?_
                    refine q_mvt rfl ?_
                    refine q_mvt rfl ?_
                    refine q_run (fun _ _ => r_idxS rfl rfl rfl ti_sec (by omega) (by omega)) rfl ?_
                    refine q_run (fun _ hk => r_loadA (secR s2) rfl rfl rfl (by first | rfl | (rw [dgR_len]; rfl) | (rw [refR_len]; rfl) | (rw [secR_len]; rfl) | (rw [List.length_map, tagF_len]; rfl)) ((by intro u v hu; rw [Int.toNat_natCast]; exact rowS (hk.blk' hL119 trivial) hs' u v hu))) rfl ?_
                    refine q_run (fun _ _ => (r_neqC (p := True) rfl rfl rfl rfl (by kernel_rfl) (okC_sec _) (okC_sec _) rfl (by simp))) rfl ?_
                    refine q_nil ?_; intro w125 hk125
                    refine W_no rfl (by simp) ?_
                    refine W_skip ?_
                    refine W_region ?_
                    refine op_run (r_add rfl rfl) rfl ?_
                    refine o_mvt rfl ?_
                    refine ops_nil ?_
                    refine ⟨by (repeat (first | with_reducible exact offM_refl _ _ | refine offM_updc rfl ?_ | refine offM_upd rfl ?_ | refine offM_updo rfl ?_ | refine offM_updo_none ?_ | refine offM_head rfl rfl ?_)), ⟨k + 1, ?_, by omega, hk114'.trans hk125⟩, ?_⟩
                    · rw [← hinck]; rfl
                    · show 2 - (IntKind.i64.wrap ((k : Int) + 1)).toNat < 2 - (k : Int).toNat
                      rw [hinck]; omega
                  · refine W_exit ?_
                    refine W_region ?_
                    refine o_mvt rfl ?_
                    refine op_run (r_add rfl rfl) rfl ?_
                    refine o_ast rfl ?_
                    refine ops_nil ?_
                    refine ⟨by (repeat (first | with_reducible exact offM_refl _ _ | refine offM_updc rfl ?_ | refine offM_upd rfl ?_ | refine offM_updo rfl ?_ | refine offM_updo_none ?_ | refine offM_head rfl rfl ?_)), ⟨1, S', n + 1, rfl, by omega, by omega, hD114.keep hk115, hk115.blk' hL114 trivial⟩, ?_⟩
                    show 2 - (IntKind.i64.wrap (((0 : Nat) : Int) + 1)).toNat < 2 - (((0 : Nat) : Int)).toNat
                    decide
    · refine W_exit ?_
      refine W_seq ?_
      refine W_region ?_
      refine o_asc rfl ?_
      refine ops_nil ?_
      refine W_ret ?_
      exact absurd (show ((rd : Nat) : Int) < 2 by omega) h24
end Go.Proofs.Ytcbbodjcgjbfaaa.B
