/-
  SlotsApart: the walk.
-/
import Derived.Test.YtcbbodjcgjbfaaaSlots4
import Derived.Test.YtcbbodjcgjbfaaaRef14c
namespace Go.Proofs.Ytcbbodjcgjbfaaa.B
open Go
set_option linter.unusedVariables false
set_option maxHeartbeats 2000000
set_option maxRecDepth 100000
attribute [local irreducible] W OpsW OpsQ retP
/-- Two commits, told for epochs one behind the other: both stand. -/
theorem apart_find {M : List Sec} (hM : M.length = 4) (epoch : Nat) (he : epoch < 2 ^ 64) {a b : Rf} (ha : a.may) (hb : b.may) (hne : a.dig ≠ b.dig) :
    findS ((M.set (epoch % 2) (laidS a)).set ((epoch + 1) % 2 ^ 64 % 2) (laidS b)) a.dig = some a ∧ findS ((M.set (epoch % 2) (laidS a)).set ((epoch + 1) % 2 ^ 64 % 2) (laidS b)) b.dig = some b := by
  rcases Nat.mod_two_eq_zero_or_one epoch with h | h
  · have h2 : (epoch + 1) % 2 ^ 64 % 2 = 1 := by omega
    rw [h, h2]
    have r0 : rdS ((M.set 0 (laidS a)).set 1 (laidS b)) ((0 : Nat) : Int) = some a := (rdS_some (s := laidS a) (by decide) (by rw [List.getElem?_set_ne (by decide), List.getElem?_set_self (by omega)])).trans (told_laidS ha)
    have r1 : rdS ((M.set 0 (laidS a)).set 1 (laidS b)) ((1 : Nat) : Int) = some b := (rdS_some (s := laidS b) (by decide) (by rw [List.getElem?_set_self (by rw [List.length_set]; omega)])).trans (told_laidS hb)
    unfold findS fnd
    rw [r0, r1]
    simp [hne, hne.symm]
  · have h2 : (epoch + 1) % 2 ^ 64 % 2 = 0 := by omega
    rw [h, h2]
    have r0 : rdS ((M.set 1 (laidS a)).set 0 (laidS b)) ((0 : Nat) : Int) = some b := (rdS_some (s := laidS b) (by decide) (by rw [List.getElem?_set_self (by rw [List.length_set]; omega)])).trans (told_laidS hb)
    have r1 : rdS ((M.set 1 (laidS a)).set 0 (laidS b)) ((1 : Nat) : Int) = some a := (rdS_some (s := laidS a) (by decide) (by rw [List.getElem?_set_ne (by decide), List.getElem?_set_self (by omega)])).trans (told_laidS ha)
    unfold findS fnd
    rw [r0, r1]
    simp [hne, hne.symm]

theorem walk_SlotsApart (w : World) (epoch : Nat) (a b : Rf) (he : epoch < 2 ^ 64) :
    Ret Try.prog 4 [.int .u64 epoch, .agg (refR a).toArray, .agg (refR b).toArray].toArray w fun r w' => r = .bool true ∧ Keep All w w' := by
  refine enter (fn := Try.f4) (n := 83) Try.func4 rfl rfl (by simp) ?_
  refine W_seq ?_
  refine W_region ?_
  refine o_box rfl rfl rfl ?_; intro w1 b1 e1 hB1 hk1 hs1
  refine o_box rfl rfl rfl ?_; intro w2 b2 e2 hB2 hk2 hs2
  refine o_asc rfl ?_
  refine ops_nil ?_
  refine W_seq ?_
  refine W_seq ?_
  refine W_region ?_
  refine op_call rfl rfl rfl (speaks14 w2) ?_; rintro v3 w3 ⟨rfl, hk3⟩
  have hB1 := hk3.blk' (hk2.blk' hB1 trivial) trivial
  have hB2 := hk3.blk' hB2 trivial
  have hkw3 := (hk1.trans hk2).trans hk3
  refine op_run (r_not rfl) rfl ?_
  refine ops_nil ?_
  refine W_no rfl (rfl) ?_
  refine W_skip ?_
  refine W_seq ?_
  refine W_cut [29] [15, 16, 17, 18, 19, 20, 21, 22, 23, 24, 25, 26, 27, 28, 29] (fun vs w6 => vs = [.bool (decide (¬ a.may ∨ ¬ b.may ∨ a.dig = b.dig))] ∧ Keep All w3 w6) ?_ ?_
  · refine W_region ?_
    refine op_run (r_loadA (refR a) rfl rfl rfl (by first | rfl | (rw [dgR_len]; rfl) | (rw [refR_len]; rfl) | (rw [secR_len]; rfl) | (rw [List.length_map, tagF_len]; rfl)) (hB1.all)) rfl ?_
    refine op_call rfl rfl rfl (rf14_May w3 a) ?_; rintro v8 w8 ⟨rfl, hk8⟩
    refine op_run (r_not rfl) rfl ?_
    refine o_mvt rfl ?_
    refine g_split rfl rfl rfl (fun g9 => ?_) (fun g9 => ?_)
    · refine op_run (r_loadA (refR b) rfl rfl rfl (by first | rfl | (rw [dgR_len]; rfl) | (rw [refR_len]; rfl) | (rw [secR_len]; rfl) | (rw [List.length_map, tagF_len]; rfl)) ((hk8.blk' hB2 trivial).all)) (g_yes rfl rfl rfl (by rw [g9] <;> rfl)) ?_
      refine op_call rfl rfl (g_yes rfl rfl rfl (by rw [g9] <;> rfl)) (rf14_May w8 b) ?_; rintro v11 w11 ⟨rfl, hk11⟩
      refine op_run (r_not rfl) (g_yes rfl rfl rfl (by rw [g9] <;> rfl)) ?_
      refine o_pkFt rfl (by rw [g9] <;> rfl) rfl ?_
      refine o_mvt rfl ?_
      refine g_split rfl rfl rfl (fun g12 => ?_) (fun g12 => ?_)
      · refine op_run (r_fieldAddr rfl rfl rfl rfl rfl) (g_yes rfl rfl rfl (by rw [g12] <;> rfl)) ?_
        refine op_run (r_loadA (dgR a.dig) rfl rfl rfl (by first | rfl | (rw [dgR_len]; rfl) | (rw [refR_len]; rfl) | (rw [secR_len]; rfl) | (rw [List.length_map, tagF_len]; rfl)) ((fun j v hj => by rw [Addr.add_lit]; show w11.cell? ⟨b1, 0 + 0 + j, none⟩ = some v; rw [Nat.zero_add]; exact (hk11.blk' (hk8.blk' hB1 trivial) trivial).cell (refR_dig a hj)))) (g_yes rfl rfl rfl (by rw [g12] <;> rfl)) ?_
        refine op_run (r_fieldAddr rfl rfl rfl rfl rfl) (g_yes rfl rfl rfl (by rw [g12] <;> rfl)) ?_
        refine op_run (r_loadA (dgR b.dig) rfl rfl rfl (by first | rfl | (rw [dgR_len]; rfl) | (rw [refR_len]; rfl) | (rw [secR_len]; rfl) | (rw [List.length_map, tagF_len]; rfl)) ((fun j v hj => by rw [Addr.add_lit]; show w11.cell? ⟨b2, 0 + 0 + j, none⟩ = some v; rw [Nat.zero_add]; exact (hk11.blk' (hk8.blk' hB2 trivial) trivial).cell (refR_dig b hj)))) (g_yes rfl rfl rfl (by rw [g12] <;> rfl)) ?_
        refine op_run (r_eqlC (p := a.dig = b.dig) rfl rfl rfl rfl (by kernel_rfl) (okC_dgR _) (okC_dgR _) rfl (dgR_inj)) (g_yes rfl rfl rfl (by rw [g12] <;> rfl)) ?_
        refine o_pkFt rfl (by rw [g12] <;> rfl) rfl ?_
        refine ops_nil ?_
        have ha : a.may := by have h : (!decide a.may) = false := g9; simpa using h
        have hb : b.may := by have h : (!decide b.may) = false := g12; simpa using h
        exact ⟨by (repeat (first | with_reducible exact offM_refl _ _ | refine offM_updc rfl ?_ | refine offM_upd rfl ?_ | refine offM_updo rfl ?_ | refine offM_updo_none ?_ | refine offM_head rfl rfl ?_)), congrArg (fun b => [Value.bool b]) (by rw [decide_eq_decide]; simp [ha, hb]), hk8.trans hk11⟩
      · refine op_skip (g_no rfl rfl rfl (by rw [g12] <;> rfl)) ?_
        refine op_skip (g_no rfl rfl rfl (by rw [g12] <;> rfl)) ?_
        refine op_skip (g_no rfl rfl rfl (by rw [g12] <;> rfl)) ?_
        refine op_skip (g_no rfl rfl rfl (by rw [g12] <;> rfl)) ?_
        refine op_skip (g_no rfl rfl rfl (by rw [g12] <;> rfl)) ?_
        refine o_pkTc rfl (by rw [g12] <;> rfl) rfl ?_
        refine ops_nil ?_
        have hb : ¬ b.may := by have h : (!decide b.may) = true := g12; simpa using h
        exact ⟨by (repeat (first | with_reducible exact offM_refl _ _ | refine offM_updc rfl ?_ | refine offM_upd rfl ?_ | refine offM_updo rfl ?_ | refine offM_updo_none ?_ | refine offM_head rfl rfl ?_)), congrArg (fun b => [Value.bool b]) (by symm; apply decide_eq_true; exact .inr (.inl hb)), hk8.trans hk11⟩
    · refine op_skip (g_no rfl rfl rfl (by rw [g9] <;> rfl)) ?_
      refine op_skip (g_no rfl rfl rfl (by rw [g9] <;> rfl)) ?_
      refine op_skip (g_no rfl rfl rfl (by rw [g9] <;> rfl)) ?_
      refine o_pkTc rfl (by rw [g9] <;> rfl) rfl ?_
      refine o_mvt rfl ?_
      refine op_skip (g_no rfl rfl rfl rfl) ?_
      refine op_skip (g_no rfl rfl rfl rfl) ?_
      refine op_skip (g_no rfl rfl rfl rfl) ?_
      refine op_skip (g_no rfl rfl rfl rfl) ?_
      refine op_skip (g_no rfl rfl rfl rfl) ?_
      refine o_pkTc rfl rfl rfl ?_
      refine ops_nil ?_
      have ha : ¬ a.may := by have h : (!decide a.may) = true := g9; simpa using h
      exact ⟨by (repeat (first | with_reducible exact offM_refl _ _ | refine offM_updc rfl ?_ | refine offM_upd rfl ?_ | refine offM_updo rfl ?_ | refine offM_updo_none ?_ | refine offM_head rfl rfl ?_)), congrArg (fun b => [Value.bool b]) (by symm; apply decide_eq_true; exact .inl ha), hk8⟩
  · rintro J19 vs w19 ⟨rfl, hk19⟩ -
    refine W_cond_p rfl (fun h20 => ?_) (fun h20 => ?_)
    · refine W_seq ?_
      refine W_region ?_
      refine o_asc rfl ?_
      refine ops_nil ?_
      refine W_ret ?_
      refine ret1 (.bool true) rfl ?_ ?_; rfl
      exact ⟨rfl, hkw3.trans hk19⟩
    · refine W_skip ?_
      refine W_seq ?_
      refine W_region ?_
      have ha : a.may := Decidable.byContradiction fun h => h20 (.inl h)
      have hb : b.may := Decidable.byContradiction fun h => h20 (.inr (.inl h))
      have hne : a.dig ≠ b.dig := fun h => h20 (.inr (.inr h))
      have hB1 := hk19.blk' hB1 trivial
      have hB2 := hk19.blk' hB2 trivial
      refine op_call rfl rfl rfl (DV.new w19 4 (by decide) (by decide)) ?_; rintro v22 w22 ⟨b22, rfl, hD22⟩
      refine o_mvt rfl ?_
      refine op_run (r_extract rfl rfl) rfl ?_
      refine op_run (r_extract rfl rfl) rfl ?_
      refine o_ast rfl ?_
      refine o_ast rfl ?_
      refine ops_nil ?_
      refine W_seq ?_
      refine W_cut [39] [34, 35, 36, 37, 38, 39] (fun vs w23 => vs = [.bool false] ∧ w23 = w22) ?_ ?_
      · refine W_region ?_
        refine o_mvt rfl ?_
        refine op_run (r_neq rfl rfl) rfl ?_
        refine o_mvt rfl ?_
        refine g_split rfl rfl rfl (fun g24 => ?_) (fun g24 => ?_)
        · refine o_mvt (g_yes rfl rfl rfl g24) ?_
          refine op_run (r_isNilP rfl rfl) (g_yes rfl rfl rfl g24) ?_
          refine o_pkFt rfl g24 rfl ?_
          refine ops_nil ?_
          exact ⟨by (repeat (first | with_reducible exact offM_refl _ _ | refine offM_updc rfl ?_ | refine offM_upd rfl ?_ | refine offM_updo rfl ?_ | refine offM_updo_none ?_ | refine offM_head rfl rfl ?_)), rfl, rfl⟩
        · refine op_skip (g_no rfl rfl rfl g24) ?_
          refine op_skip (g_no rfl rfl rfl g24) ?_
          refine o_pkTc rfl g24 rfl ?_
          refine ops_nil ?_
          exact absurd g24 (by decide)
      · rintro J27 vs w27 ⟨rfl, rfl⟩ -
        refine W_no rfl (rfl) ?_
        refine W_skip ?_
        refine W_seq ?_
        refine W_cut [52] [40, 41, 42, 43, 44, 45, 46, 47, 48, 49, 50, 51, 52] (fun vs w30 => vs = [.bool false] ∧ DV w19 (fun _ => False) b22 4 (((List.replicate 4 Sec.zero).set (epoch % 2) (laidS a)).set ((epoch + 1) % 2 ^ 64 % 2) (laidS b)) 2 w30) ?_ ?_
        · refine W_region ?_
          refine o_mvt rfl ?_
          refine o_mvt rfl ?_
          refine op_run (r_loadA (refR a) rfl rfl rfl (by first | rfl | (rw [dgR_len]; rfl) | (rw [refR_len]; rfl) | (rw [secR_len]; rfl) | (rw [List.length_map, tagF_len]; rfl)) ((hD22.kw.blk' hB1 trivial).all)) rfl ?_
          refine op_call rfl rfl rfl (hD22.swrite epoch a (by decide) (by decide) he) ?_; rintro v32 w32 ⟨rfl, hD32, hk32⟩
          rw [if_pos ha] at hD32
          rw [if_pos ha]
          refine op_run (r_neq rfl rfl) rfl ?_
          refine o_mvt rfl ?_
          refine g_split rfl rfl rfl (fun g33 => ?_) (fun g => absurd g (by simp))
          refine o_mvt (g_yes rfl rfl rfl g33) ?_
          refine o_mvt (g_yes rfl rfl rfl g33) ?_
          refine op_run ((r_add rfl rfl).val (congrArg (Value.int .u64) (show IntKind.u64.wrap ((epoch : Int) + 1) = (((epoch + 1) % 2 ^ 64 : Nat) : Int) from (wrap_u64 _).trans (by omega)))) (g_yes rfl rfl rfl g33) ?_
          refine op_run (r_loadA (refR b) rfl rfl rfl (by first | rfl | (rw [dgR_len]; rfl) | (rw [refR_len]; rfl) | (rw [secR_len]; rfl) | (rw [List.length_map, tagF_len]; rfl)) ((hD32.kw.blk' hB2 trivial).all)) (g_yes rfl rfl rfl g33) ?_
          refine op_call rfl rfl (g_yes rfl rfl rfl g33) (hD32.swrite ((epoch + 1) % 2 ^ 64) b (by decide) (by decide) (by omega)) ?_; rintro v35 w35 ⟨rfl, hD35, hk35⟩
          rw [if_pos hb] at hD35
          rw [if_pos hb]
          refine op_run (r_neq rfl rfl) (g_yes rfl rfl rfl g33) ?_
          refine o_pkFt rfl g33 rfl ?_
          refine ops_nil ?_
          exact ⟨by (repeat (first | with_reducible exact offM_refl _ _ | refine offM_updc rfl ?_ | refine offM_upd rfl ?_ | refine offM_updo rfl ?_ | refine offM_updo_none ?_ | refine offM_head rfl rfl ?_)), rfl, hD35⟩
        · rintro J37 vs w37 ⟨rfl, hD37⟩ -
          refine W_no rfl (rfl) ?_
          refine W_skip ?_
          refine W_seq ?_
          refine W_region ?_
          refine o_mvt rfl ?_
          refine op_run (r_fieldAddr rfl rfl rfl rfl rfl) rfl ?_
          obtain ⟨hfa, hfb⟩ := apart_find (M := List.replicate 4 Sec.zero) (by simp) epoch he ha hb hne
          have hB1 := hD37.kw.blk' hB1 trivial
          have hB2 := hD37.kw.blk' hB2 trivial
          refine op_run (r_loadA (dgR a.dig) rfl rfl rfl (by first | rfl | (rw [dgR_len]; rfl) | (rw [refR_len]; rfl) | (rw [secR_len]; rfl) | (rw [List.length_map, tagF_len]; rfl)) ((fun j v hj => by rw [Addr.add_lit]; show w37.cell? ⟨b1, 0 + 0 + j, none⟩ = some v; rw [Nat.zero_add]; exact hB1.cell (refR_dig a hj)))) rfl ?_
          refine op_call rfl rfl rfl (hD37.sfind a.dig (by decide) (by decide)) ?_; rintro v41 w41 ⟨rfl, hk41⟩
          rw [hfa]
          have hD41 := hD37.keep hk41
          refine o_mvt rfl ?_
          refine op_run (r_extract rfl rfl) rfl ?_
          refine op_run (r_extract rfl rfl) rfl ?_
          refine o_alloc rfl rfl rfl ?_; intro w42 b42 e42 hB42 hk42 hs42
          refine o_storeA (cs := refR a) rfl rfl (by first | rfl | exact dgR_one _ | exact refR_one _ | exact secR_one _ | exact all_c8 _) (by first | rfl | (rw [dgR_len]; rfl) | (rw [refR_len]; rfl) | (rw [secR_len]; rfl) | (rw [List.length_map, tagF_len]; rfl)) hB42 (by exact Nat.le_of_eq (by simp [refR_len])) rfl ?_; intro w43 hB43 hk43 hs43
          have hB43 : Blk w43 b42 (refR a) 26 := by
            have h := hB43
            rwa [splice_all (by simp [refR_len])] at h
          have hD43 := hD41.fresh hk42 (Nat.le_of_eq e42.symm) hk43 (by omega)
          have hlt1 := hB1.lt
          have hlt2 := hB2.lt
          have hz41 := hk41.size
          have hB1 := hk43.blk' (hk42.blk' (hk41.blk' hB1 trivial) trivial) (show b1 ≠ b42 by omega)
          have hB2 := hk43.blk' (hk42.blk' (hk41.blk' hB2 trivial) trivial) (show b2 ≠ b42 by omega)
          refine o_ast rfl ?_
          refine ops_nil ?_
          refine W_seq ?_
          refine W_region ?_
          refine o_mvt rfl ?_
          refine op_run (r_fieldAddr rfl rfl rfl rfl rfl) rfl ?_
          refine op_run (r_loadA (dgR b.dig) rfl rfl rfl (by first | rfl | (rw [dgR_len]; rfl) | (rw [refR_len]; rfl) | (rw [secR_len]; rfl) | (rw [List.length_map, tagF_len]; rfl)) ((fun j v hj => by rw [Addr.add_lit]; show w43.cell? ⟨b2, 0 + 0 + j, none⟩ = some v; rw [Nat.zero_add]; exact hB2.cell (refR_dig b hj)))) rfl ?_
          refine op_call rfl rfl rfl (hD43.sfind b.dig (by decide) (by decide)) ?_; rintro v45 w45 ⟨rfl, hk45⟩
          rw [hfb]
          refine o_mvt rfl ?_
          refine op_run (r_extract rfl rfl) rfl ?_
          refine op_run (r_extract rfl rfl) rfl ?_
          refine o_alloc rfl rfl rfl ?_; intro w46 b46 e46 hB46 hk46 hs46
          refine o_storeA (cs := refR b) rfl rfl (by first | rfl | exact dgR_one _ | exact refR_one _ | exact secR_one _ | exact all_c8 _) (by first | rfl | (rw [dgR_len]; rfl) | (rw [refR_len]; rfl) | (rw [secR_len]; rfl) | (rw [List.length_map, tagF_len]; rfl)) hB46 (by exact Nat.le_of_eq (by simp [refR_len])) rfl ?_; intro w47 hB47 hk47 hs47
          have hB47 : Blk w47 b46 (refR b) 26 := by
            have h := hB47
            rwa [splice_all (by simp [refR_len])] at h
          have hz45 := hk45.size
          have hlt43 := hB43.lt
          have hB1 := hk47.blk' (hk46.blk' (hk45.blk' hB1 trivial) trivial) (show b1 ≠ b46 by omega)
          have hB2 := hk47.blk' (hk46.blk' (hk45.blk' hB2 trivial) trivial) (show b2 ≠ b46 by omega)
          have hB43 := hk47.blk' (hk46.blk' (hk45.blk' hB43 trivial) trivial) (show b42 ≠ b46 by omega)
          have hkw47 : Keep All w w47 := ((((hkw3.trans hk19).trans hD43.kw).trans hk45).trans hk46).new hk47 (by have := hkw3.size; have := hk19.size; have := hD43.kw.size; omega)
          refine o_ast rfl ?_
          refine ops_nil ?_
          refine W_seq ?_
          refine W_region ?_
          refine o_mvt rfl ?_
          refine op_run (r_eql rfl rfl) rfl ?_
          refine o_mvt rfl ?_
          refine g_split rfl rfl rfl (fun g48 => ?_) (fun g => absurd g (by simp))
          refine o_mvt (g_yes rfl rfl rfl g48) ?_
          refine op_run (r_eql rfl rfl) (g_yes rfl rfl rfl g48) ?_
          refine o_pkTt rfl g48 rfl ?_
          refine o_mvt rfl ?_
          refine g_split rfl rfl rfl (fun g49 => ?_) (fun g => absurd g (by simp))
          refine op_run (r_loadA (refR a) rfl rfl rfl (by first | rfl | (rw [dgR_len]; rfl) | (rw [refR_len]; rfl) | (rw [secR_len]; rfl) | (rw [List.length_map, tagF_len]; rfl)) (hB43.all)) (g_yes rfl rfl rfl g49) ?_
          refine op_run (r_loadA (refR a) rfl rfl rfl (by first | rfl | (rw [dgR_len]; rfl) | (rw [refR_len]; rfl) | (rw [secR_len]; rfl) | (rw [List.length_map, tagF_len]; rfl)) (hB1.all)) (g_yes rfl rfl rfl g49) ?_
          refine op_run (r_eqlC (p := True) rfl rfl rfl rfl (by kernel_rfl) (okC_ref _) (okC_ref _) rfl (by simp)) (g_yes rfl rfl rfl g49) ?_
          refine o_pkTt rfl g49 rfl ?_
          refine o_mvt rfl ?_
          refine g_split rfl rfl rfl (fun g53 => ?_) (fun g => absurd g (by simp))
          refine op_run (r_loadA (refR b) rfl rfl rfl (by first | rfl | (rw [dgR_len]; rfl) | (rw [refR_len]; rfl) | (rw [secR_len]; rfl) | (rw [List.length_map, tagF_len]; rfl)) (hB47.all)) (g_yes rfl rfl rfl g53) ?_
          refine op_run (r_loadA (refR b) rfl rfl rfl (by first | rfl | (rw [dgR_len]; rfl) | (rw [refR_len]; rfl) | (rw [secR_len]; rfl) | (rw [List.length_map, tagF_len]; rfl)) (hB2.all)) (g_yes rfl rfl rfl g53) ?_
          refine op_run (r_eqlC (p := True) rfl rfl rfl rfl (by kernel_rfl) (okC_ref _) (okC_ref _) rfl (by simp)) (g_yes rfl rfl rfl g53) ?_
          refine o_pkTt rfl g53 rfl ?_
          refine o_ast rfl ?_
          refine ops_nil ?_
          refine W_ret ?_
          refine ret1 (.bool true) rfl ?_ ?_; rfl
          exact ⟨rfl, hkw47⟩
end Go.Proofs.Ytcbbodjcgjbfaaa.B
