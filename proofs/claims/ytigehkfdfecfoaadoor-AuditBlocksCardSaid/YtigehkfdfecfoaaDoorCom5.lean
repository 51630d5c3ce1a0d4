/-
  Commits of bytes: Decode.
-/
import Derived.Test.YtigehkfdfecfoaaDoorCom5a
namespace Go.Proofs.YtigehkfdfecfoaaDoor.B
open Go
set_option linter.unusedVariables false
set_option maxHeartbeats 2000000
set_option maxRecDepth 100000
attribute [local irreducible] W OpsW OpsQ retP
attribute [local irreducible] numR
/-- The events of a commit lie in blocks that are new since. -/
def FreshE (w : World) (ve : Value) (vks : List Value) : Prop := InB (fun z => w.heap.size ≤ z) ve ∧ ∀ u ∈ vks, InB (fun z => w.heap.size ≤ z) u
theorem FreshE.nil (w : World) : FreshE w nilV [] := ⟨InB.nil, fun u h => by cases h⟩
theorem cm_DecodeF (w : World) (v : Value) (bs : List UInt8) (hv : By w v bs) (hl : bs.length ≤ 1000000) :
    Ret Tryd.prog 32 [v].toArray w fun r w' => ∃ vb ve vks, r = .tuple #[.agg (cmV ((decC bs).getD Cm.zero) vb ve).toArray, .int .i64 (if (decC bs).isSome then 0 else 3)] ∧ CmIn w' ((decC bs).getD Cm.zero) vb ve vks ∧ Keep All w w' ∧ FreshE w ve vks := by
  obtain ⟨a0, c0, rfl, hc0, hcm0⟩ := hv.form
  refine enter (fn := Tryd.f32) (n := 65) Tryd.func32 rfl rfl (by simp) ?_
  refine W_seq ?_
  refine W_region ?_
  refine o_alloc rfl rfl rfl ?_; intro w1 b1 e1 hB1 hk1 hs1
  have hB1 : Blk w1 b1 (cmV Cm.zero nilV nilV) 58 := hB1
  refine o_asc rfl ?_
  refine ops_nil ?_
  refine W_seq ?_
  refine W_region ?_
  refine o_mvt rfl ?_
  refine op_call rfl rfl rfl (pack_From w1 _ bs (hv.k hk1) (by omega)) ?_; rintro v2 w2 ⟨bI, rfl, hbI, hI2, hk2⟩
  have hbl2 : bI < w2.heap.size := by obtain ⟨_, h, _⟩ := hI2; exact h.lt
  obtain ⟨A, hA⟩ : ∃ A : Nat → Prop, A = fun k => w1.heap.size ≤ k ∧ k < bI := ⟨_, rfl⟩
  rw [← hA] at hI2
  have hAb : ¬ A bI := by rw [hA]; exact fun h => Nat.lt_irrefl _ h.2
  have hAlt : ∀ k, A k → k < bI := by rw [hA]; exact fun k h => h.2
  have hA1 : ∀ k, A k → k ≠ b1 := by rw [hA]; intro k h; have := h.1; omega
  have hb1I : b1 ≠ bI := by omega
  have hz1 := hk1.size
  refine o_ast rfl ?_
  refine ops_nil ?_
  refine W_seq ?_
  refine W_region ?_
  refine o_mvt rfl ?_
  refine op_call rfl rfl rfl (in_Number w2 bI A bs false 18446744073709551615 hAb hI2) ?_; rintro v3 w3 ⟨rfl, hI3, hk3⟩
  have hI3 : InC w3 bI A (dA bs).2.1 (dA bs).2.2 := hI3
  have hB3 := hk3.blk' (hk2.blk' hB1 trivial) hb1I
  refine op_run (r_fieldAddr rfl rfl rfl rfl rfl) rfl ?_
  refine o_store (v := .int .u64 ((dA bs).1 : Int)) rfl rfl rfl rfl hB3 (by rw [cmV_len]; decide) rfl ?_; intro w4 hB4 hk4 hs4
  have hB4 : Blk w4 b1 (cmV (stC bs 0) nilV nilV) 58 := hB4
  have hI4 := hI3.keep' hk4 hb1I.symm (fun k _ hk => hA1 k hk)
  have hkw4 : Keep All w w4 := (((hk1.trans hk2).new hk3 (by omega)).new hk4 (by omega))
  refine ops_nil ?_
  refine W_seq ?_
  refine W_seq ?_
  refine W_region ?_
  refine op_call rfl rfl rfl (cm_refs w4 b1) ?_; rintro v5 w5 ⟨s, rfl, hs5, hsl5, hB5, hk5⟩
  have hbl3 : bI < w3.heap.size := by obtain ⟨_, h, _⟩ := hI3; exact h.lt
  have hB5 : Blk w5 s (([1, 35, 69] : List Nat).map fun o => .pointer (some ⟨b1, o, none⟩)) 96 := hB5
  have hsI : s ≠ bI := by have := hk4.size; omega
  have hs1 : s ≠ b1 := by have := hB4.lt; omega
  refine op_run (r_len rfl rfl rfl) rfl ?_
  refine o_mvc rfl ?_
  refine ops_nil ?_
  refine W_block ?_
  refine W_loop [17] [6, 17, 18, 19, 20, 21, 22, 23, 24, 25] (fun vs w' => ∃ k : Nat, vs = [.int .i64 k] ∧ k ≤ 3 ∧ InC w' bI A (stR bs k).1 (stR bs k).2 ∧ Blk w' b1 (cmV (stC bs k) nilV nilV) 58 ∧ Blk w' s (([1, 35, 69] : List Nat).map fun o => .pointer (some ⟨b1, o, none⟩)) 96 ∧ Keep All w w') (fun vs _ => match vs with | [.int _ y] => 3 - y.toNat | _ => 0) ⟨0, rfl, Nat.zero_le _, hI4.keep hk5 trivial (fun _ _ => trivial), hk5.blk' hB4 trivial, hB5, hkw4.trans hk5⟩ ?_
  rintro J6 vs w6 ⟨k, rfl, hk, hI, hB, hBs, hkw⟩ -
  have hbl6 : bI < w6.heap.size := by obtain ⟨_, h, _⟩ := hI; exact h.lt
  refine W_seq ?_
  refine W_region ?_
  refine op_run (r_lss rfl rfl) rfl ?_
  refine ops_nil ?_
  refine W_seq ?_
  refine W_cond_p rfl (fun h7 => ?_) (fun h7 => ?_)
  · refine W_skip ?_
    refine W_seq ?_
    refine W_block ?_
    refine W_seq ?_
    refine W_region ?_
    have hk3 : k < 3 := by omega
    obtain ⟨o, ho, ho34, hsp, hst⟩ := st_step bs hk3
    have hpv : (([1, 35, 69] : List Nat).map fun o => Value.pointer (some ⟨b1, o, none⟩))[k]? = some (.pointer (some ⟨b1, o, none⟩)) := by rw [List.getElem?_map, ho]; rfl
    refine op_run (r_idxS1 rfl rfl rfl rfl (by omega) (by omega)) rfl ?_
    refine op_run (r_load rfl rfl rfl (hBs.cell (show _[0 + ((k : Nat) : Int).toNat]? = _ by rw [Int.toNat_natCast, Nat.zero_add]; exact hpv))) rfl ?_
    refine o_ast rfl ?_
    refine ops_nil ?_
    refine W_region ?_
    refine o_mvt rfl ?_
    refine o_mvt rfl ?_
    refine op_call rfl rfl rfl (bl_Take w6 bI A _ _ hAb (fun z hz => Nat.lt_trans (hAlt z hz) hbl6) hI) ?_; rintro v10 w10 ⟨rfl, hI10, hk10⟩
    refine op_run (r_nilCheck rfl) rfl ?_
    refine o_storeA (cs := refR (rfR (stR bs k).1 (stR bs k).2).1) rfl rfl (by first | rfl | exact binV_one _ | exact dgR_one _ | exact refR_one _ | exact secR_one _ | exact all_c8 _ | exact cmV_one _ rfl rfl) (by first | rfl | (rw [binV_len]; rfl) | (rw [dgR_len]; rfl) | (rw [refR_len]; rfl) | (rw [secR_len]; rfl) | (rw [List.length_map, tagF_len]; rfl) | (rw [cmV_len]; rfl)) (hk10.blk' hB hb1I) (by rw [cmV_len, refR_len]; exact ho34) rfl ?_; intro w11 hB11 hk11 hs11
    have hB11 : Blk w11 b1 (cmV (stC bs (k + 1)) nilV nilV) 58 := by rw [← hsp]; exact hB11
    have hI11 : InC w11 bI A (stR bs (k + 1)).1 (stR bs (k + 1)).2 := by rw [← hst]; exact hI10.keep' hk11 hb1I.symm (fun z _ hz => hA1 z hz)
    refine ops_nil ?_
    refine W_region ?_
    refine op_run (r_add rfl rfl) rfl ?_
    refine o_mvt rfl ?_
    refine ops_nil ?_
    have hinc := inc64' k (by omega)
    refine ⟨by (repeat (first | with_reducible exact offM_refl _ _ | refine offM_updc rfl ?_ | refine offM_upd rfl ?_ | refine offM_updo rfl ?_ | refine offM_updo_none ?_ | refine offM_head rfl rfl ?_)), ⟨k + 1, congrArg (fun z : Int => [Value.int .i64 z]) hinc, by omega, hI11, hB11, hk11.blk' (hk10.blk' hBs hsI) hs1, (hkw.new hk10 (by omega)).new hk11 (by omega)⟩, ?_⟩
    show 3 - (IntKind.i64.wrap ((k : Int) + 1)).toNat < 3 - (k : Int).toNat
    rw [hinc]; omega
  · refine W_exit ?_
    refine W_seq ?_
    refine W_region ?_
    refine o_mvt rfl ?_
    have hke : k = 3 := by omega
    subst hke
    have hI : InC w6 bI A (dI bs).2.1 (dI bs).2.2 := hI
    have hb1l := hB.lt
    refine op_call rfl rfl rfl (cm_takenB w6 bI A _ _ hAb (fun z hz => Nat.lt_trans (hAlt z hz) hbl6) hI) ?_; rintro v13 w13 ⟨hO13, hI13, hk13, hin13⟩
    have hO13 : Own w13 100 35 v13 (dB bs).1.length (rows binV (dB bs).1) := hO13
    have hI13 : InC w13 bI A (dB bs).2.1 (dB bs).2.2 := hI13
    obtain ⟨ab, cb, rfl, hcb, hcbm⟩ := hO13.form
    have hmx : cb ≤ 9223372036854775807 := hcbm
    refine op_run (r_fieldAddr rfl rfl rfl rfl rfl) rfl ?_
    refine o_store (v := Value.slice ab (dB bs).1.length cb) rfl rfl rfl rfl (hk13.blk' hB hb1I) (by rw [cmV_len]; decide) rfl ?_; intro w14 hB14 hk14 hs14
    have hB14 : Blk w14 b1 (cmV (stC bs 3) (.slice ab (dB bs).1.length cb) nilV) 58 := by
      have h : Blk w14 b1 ((cmV (stC bs 3) nilV nilV).set 103 (.slice ab (dB bs).1.length cb)) 58 := hB14
      rwa [cmV_setB] at h
    have hI14 := hI13.keep' hk14 hb1I.symm (fun z _ hz => hA1 z hz)
    have hz13 := hk13.size
    have hz14 := hk14.size
    refine ops_nil ?_
    refine W_seq ?_
    refine W_region ?_
    refine o_mvt rfl ?_
    refine op_call rfl rfl rfl (in_Digest w14 bI A _ _ hAb (fun z hz => by have := hAlt z hz; omega) hI14) ?_; rintro v15 w15 ⟨rfl, hI15, hk15⟩
    have hI15 : InC w15 bI A (dS bs).2.1 (dS bs).2.2 := hI15
    have hz15 := hk15.size
    refine op_run (r_fieldAddr rfl rfl rfl rfl rfl) rfl ?_
    refine o_storeA (cs := dgR (dS bs).1) rfl rfl (by first | rfl | exact binV_one _ | exact dgR_one _ | exact refR_one _ | exact secR_one _ | exact all_c8 _ | exact cmV_one _ rfl rfl) (by first | rfl | (rw [binV_len]; rfl) | (rw [dgR_len]; rfl) | (rw [refR_len]; rfl) | (rw [secR_len]; rfl) | (rw [List.length_map, tagF_len]; rfl) | (rw [cmV_len]; rfl)) (hk15.blk' hB14 hb1I) (by rw [cmV_len, dgR_len]; decide) rfl ?_; intro w16 hB16 hk16 hs16
    have hB16 : Blk w16 b1 (cmV { stC bs 3 with state := (dS bs).1 } (.slice ab (dB bs).1.length cb) nilV) 58 := by
      have h : Blk w16 b1 (splice (cmV (stC bs 3) (.slice ab (dB bs).1.length cb) nilV) 104 (dgR (dS bs).1)) 58 := hB16
      rwa [cmV_setS] at h
    have hI16 := hI15.keep' hk16 hb1I.symm (fun z _ hz => hA1 z hz)
    have hz16 := hk16.size
    refine ops_nil ?_
    refine W_seq ?_
    refine W_region ?_
    refine o_mvt rfl ?_
    refine op_call rfl rfl rfl (cm_takenE w16 bI A _ _ hAb (fun z hz => by have := hAlt z hz; omega) hI16) ?_; rintro v17 w17 ⟨vks, hR17, hvA, hI17, hk17, hin17⟩
    have hR17 : RowsV w17 v17 vks (dE bs).1 := hR17
    have hI17 : InC w17 bI A (dE bs).2.1 (dE bs).2.2 := hI17
    obtain ⟨ae, ce, rfl, hce, hcem⟩ := hR17.2.1.form
    have hz17 := hk17.size
    refine op_run (r_fieldAddr rfl rfl rfl rfl rfl) rfl ?_
    refine o_store (v := Value.slice ae (dE bs).1.length ce) rfl rfl rfl rfl (hk17.blk' hB16 hb1I) (by rw [cmV_len]; decide) rfl ?_; intro w18 hB18 hk18 hs18
    have hB18 : Blk w18 b1 (cmV (cmR bs) (.slice ab (dB bs).1.length cb) (.slice ae (dE bs).1.length ce)) 58 := by
      have h : Blk w18 b1 ((cmV { stC bs 3 with state := (dS bs).1 } (.slice ab (dB bs).1.length cb) nilV).set 136 (.slice ae (dE bs).1.length ce)) 58 := hB18
      rw [cmV_setE] at h
      exact h
    have hI18 := hI17.keep' hk18 hb1I.symm (fun z _ hz => hA1 z hz)
    have hC18 : CmIn w18 (cmR bs) (.slice ab (dB bs).1.length cb) (.slice ae (dE bs).1.length ce) vks :=
      ⟨((((hO13.sl.keep hk14 (fun z hz e => by have := hin13 z hz; omega)).keep hk15 (fun z hz e => by have := hin13 z hz; omega)).keep hk16 (fun z hz e => by have := hin13 z hz; omega)).keep hk17 (fun z hz e => by have := hin13 z hz; omega)).keep hk18 (fun z hz e => by have := hin13 z hz; omega),
       hR17.keep2 hk18 (fun z hz e => by have := hin17 z hz; omega) (fun u hu => (hvA u hu).mono hA1)⟩
    have hkw18 : Keep All w w18 := (((((hkw.new hk13 (by omega)).new hk14 (by omega)).new hk15 (by omega)).new hk16 (by omega)).new hk17 (by omega)).new hk18 (by omega)
    refine ops_nil ?_
    refine W_seq ?_
    refine W_region ?_
    refine o_asc rfl ?_
    refine ops_nil ?_
    refine W_seq ?_
    refine W_seq ?_
    refine W_region ?_
    refine op_run (r_fieldAddr rfl rfl rfl rfl rfl) rfl ?_
    refine op_run (r_load rfl rfl rfl (hB18.cell (cmV_bins (cmR bs) _ _))) rfl ?_
    refine op_run (r_len rfl rfl rfl) rfl ?_
    refine o_mvc rfl ?_
    refine ops_nil ?_
    refine W_block ?_
    refine W_loop [7, 38] [3, 7, 9, 38, 39, 40, 41, 42, 43, 44, 45, 46, 47, 48, 49] (fun vs w' => ∃ (last : Int) (k : Nat), vs = [.int .i64 last, .int .i64 k] ∧ k ≤ (dB bs).1.length ∧ (rising (-1) (dB bs).1 ↔ rising last ((dB bs).1.drop k)) ∧ Keep All w18 w') (fun vs _ => match vs with | [_, .int _ y] => (dB bs).1.length - y.toNat | _ => 0) ⟨-1, 0, rfl, Nat.zero_le _, Iff.rfl, Keep.refl _⟩ ?_
    rintro J20 vs w20 ⟨last, k, rfl, hk, hiff, hkB⟩ -
    refine W_seq ?_
    refine W_region ?_
    refine op_run (r_lss rfl rfl) rfl ?_
    refine ops_nil ?_
    refine W_seq ?_
    refine W_cond_p rfl (fun h21 => ?_) (fun h21 => ?_)
    · refine W_skip ?_
      refine W_seq ?_
      refine W_block ?_
      refine W_seq ?_
      refine W_region ?_
      have hkl : k < (dB bs).1.length := by omega
      have hS : Sl w20 (.slice ab (dB bs).1.length cb) (dB bs).1.length 35 (rows binV (dB bs).1) := hC18.1.k hkB
      obtain ⟨bp, op, rfl, hcell⟩ := rows_at' (i := k) binV_len hS hkl (by decide)
      obtain ⟨x, hx⟩ : ∃ x, x = (dB bs).1[k] := ⟨_, rfl⟩
      rw [← hx] at hcell
      have hdk : (dB bs).1.drop k = x :: (dB bs).1.drop (k + 1) := by rw [List.drop_eq_getElem_cons hkl, hx]
      refine op_run (r_idxS rfl rfl rfl ti_bin (by omega) (by omega)) rfl ?_
      refine op_run (r_loadA (binV x) rfl rfl rfl (by first | rfl | (rw [binV_len]; rfl) | (rw [dgR_len]; rfl) | (rw [refR_len]; rfl) | (rw [secR_len]; rfl) | (rw [List.length_map, tagF_len]; rfl) | (rw [cmV_len]; rfl)) ((by intro j y hj; rw [Int.toNat_natCast]; exact hcell j y hj))) rfl ?_
      refine o_alloc rfl rfl rfl ?_; intro w24 b24 e24 hB24 hk24 hs24
      refine o_storeA (cs := binV x) rfl rfl (by first | rfl | exact binV_one _ | exact dgR_one _ | exact refR_one _ | exact secR_one _ | exact all_c8 _ | exact cmV_one _ rfl rfl) (by first | rfl | (rw [binV_len]; rfl) | (rw [dgR_len]; rfl) | (rw [refR_len]; rfl) | (rw [secR_len]; rfl) | (rw [List.length_map, tagF_len]; rfl) | (rw [cmV_len]; rfl)) hB24 (by exact Nat.le_of_eq (by simp [binV_len])) rfl ?_; intro w25 hB25 hk25 hs25
      have hB25 : Blk w25 b24 (binV x) 100 := by
        have h := hB25
        rwa [splice_all (by simp [binV_len])] at h
      have hk2025 : Keep All w20 w25 := hk24.new hk25 (by omega)
      refine ops_nil ?_
      refine W_seq ?_
      refine W_seq ?_
      refine W_region ?_
      refine op_run (r_fieldAddr rfl rfl rfl rfl rfl) rfl ?_
      refine op_run (r_load rfl rfl rfl (hB25.cell rfl)) rfl ?_
      refine o_mvt rfl ?_
      refine op_run (r_leq rfl rfl) rfl ?_
      refine ops_nil ?_
      refine W_cond_p rfl (fun h27 => ?_) (fun h27 => ?_)
      · refine W_seq ?_
        refine W_region ?_
        refine op_run (r_build ((cmV Cm.zero nilV nilV)) (_) ([]) rfl rfl rfl rfl rfl (rfl)) rfl ?_
        refine o_storeA (cs := cmV Cm.zero nilV nilV) rfl rfl (by first | rfl | exact binV_one _ | exact dgR_one _ | exact refR_one _ | exact secR_one _ | exact all_c8 _ | exact cmV_one _ rfl rfl) (by first | rfl | (rw [binV_len]; rfl) | (rw [dgR_len]; rfl) | (rw [refR_len]; rfl) | (rw [secR_len]; rfl) | (rw [List.length_map, tagF_len]; rfl) | (rw [cmV_len]; rfl)) ((hkB.trans hk2025).blk' hB18 trivial) (by simp [cmV_len]) rfl ?_; intro w29 hB29 hk29 hs29
        rw [splice_all (by simp [cmV_len])] at hB29
        refine o_asc rfl ?_
        refine ops_nil ?_
        refine W_ret ?_
        refine retAT ((cmV Cm.zero nilV nilV)) ((.int .i64 3)) rfl rfl rfl rfl rfl (by first | rfl | (rw [binV_len]; rfl) | (rw [dgR_len]; rfl) | (rw [refR_len]; rfl) | (rw [secR_len]; rfl) | (rw [List.length_map, tagF_len]; rfl) | (rw [cmV_len]; rfl)) (hB29.all) ?_
        have hno : decC bs = none := decC_noR fun h => by
          have h2 := hiff.1 h
          rw [hdk] at h2
          have := h2.1; omega
        rw [hno]
        exact ⟨_, _, _, rfl, cmIn_zero _, (hkw18.trans (hkB.trans hk2025)).new hk29 (by omega), FreshE.nil _⟩
      · refine W_skip ?_
        refine W_region ?_
        refine op_run (r_fieldAddr rfl rfl rfl rfl rfl) rfl ?_
        refine op_run (r_load rfl rfl rfl (hB25.cell rfl)) rfl ?_
        refine o_ast rfl ?_
        refine ops_nil ?_
        refine W_region ?_
        refine op_run (r_add rfl rfl) rfl ?_
        refine o_mvt rfl ?_
        refine ops_nil ?_
        have hinc := inc64' k (by omega)
        refine ⟨by (repeat (first | with_reducible exact offM_refl _ _ | refine offM_updc rfl ?_ | refine offM_upd rfl ?_ | refine offM_updo rfl ?_ | refine offM_updo_none ?_ | refine offM_head rfl rfl ?_)), ⟨x.number, k + 1, congrArg (fun z : Int => [Value.int .i64 x.number, Value.int .i64 z]) hinc, by omega, hiff.trans ?_, hkB.trans hk2025⟩, ?_⟩
        · rw [hdk]
          exact ⟨fun h => h.2, fun h => ⟨by omega, h⟩⟩
        · show (dB bs).1.length - (IntKind.i64.wrap ((k : Int) + 1)).toNat < (dB bs).1.length - (k : Int).toNat
          rw [hinc]; omega
    · refine W_exit ?_
      refine W_seq ?_
      have hke : k = (dB bs).1.length := by omega
      have hris : rising (-1) (dB bs).1 := hiff.2 (by rw [hke, List.drop_length]; trivial)
      have hB20 := hkB.blk' hB18 trivial
      refine W_cut [62] [50, 51, 52, 53, 54, 55, 56, 57, 58, 59, 60, 61, 62] (fun vs w33 => vs = [.bool (decide (¬ ((dE bs).2.1 = [] ∧ (dE bs).2.2 = false ∧ (dA bs).1 ≠ 0 ∧ bs.length ≤ 65536)))] ∧ Keep All w20 w33) ?_ ?_
      · refine W_region ?_
        refine o_mvt rfl ?_
        refine op_call rfl rfl rfl (in_Done w20 bI A _ _ (hI18.keep hkB trivial (fun _ _ => trivial))) ?_; rintro v34 w34 ⟨rfl, hk34⟩
        refine op_run (r_neq rfl rfl) rfl ?_
        refine o_mvt rfl ?_
        refine g_split rfl rfl rfl (fun g35 => ?_) (fun g35 => ?_)
        · refine op_run (r_fieldAddr rfl rfl rfl rfl rfl) (g_yes rfl rfl rfl g35) ?_
          refine op_run (r_load rfl rfl rfl ((hk34.blk' hB20 trivial).cell rfl)) (g_yes rfl rfl rfl g35) ?_
          refine op_run (r_eql rfl rfl) (g_yes rfl rfl rfl g35) ?_
          refine o_pkFt rfl g35 rfl ?_
          refine o_mvt rfl ?_
          refine g_split rfl rfl rfl (fun g37 => ?_) (fun g37 => ?_)
          · refine o_mvt (g_yes rfl rfl rfl g37) ?_
            refine op_run (r_len rfl rfl rfl) (g_yes rfl rfl rfl g37) ?_
            refine op_run (r_gtr rfl rfl) (g_yes rfl rfl rfl g37) ?_
            refine o_pkFt rfl g37 rfl ?_
            refine ops_nil ?_
            exact ⟨by (repeat (first | with_reducible exact offM_refl _ _ | refine offM_updc rfl ?_ | refine offM_upd rfl ?_ | refine offM_updo rfl ?_ | refine offM_updo_none ?_ | refine offM_head rfl rfl ?_)), congrArg (fun b => [Value.bool b]) (by
              have k35 := Classical.byContradiction fun hh => of_decide_eq_false g35 (done_iff.2 hh)
              have k37 := of_decide_eq_false g37
              rw [decide_eq_decide]
              constructor
              · intro h hh; have := hh.2.2.2; omega
              · intro h; exact Classical.byContradiction fun hh => h ⟨k35.1, k35.2, fun e => k37 (by have h : (cmR bs).epoch = 0 := e; rw [h]; rfl), by omega⟩), hk34⟩
          · refine op_skip (g_no rfl rfl rfl g37) ?_
            refine op_skip (g_no rfl rfl rfl g37) ?_
            refine op_skip (g_no rfl rfl rfl g37) ?_
            refine o_pkTc rfl g37 rfl ?_
            refine ops_nil ?_
            exact ⟨by (repeat (first | with_reducible exact offM_refl _ _ | refine offM_updc rfl ?_ | refine offM_upd rfl ?_ | refine offM_updo rfl ?_ | refine offM_updo_none ?_ | refine offM_head rfl rfl ?_)), congrArg (fun b => [Value.bool b]) (by
              have k37 := of_decide_eq_true g37
              symm; exact decide_eq_true fun hh => hh.2.2.1 (by have h : ((dA bs).1 : Int) = 0 := k37; omega)), hk34⟩
        · refine op_skip (g_no rfl rfl rfl g35) ?_
          refine op_skip (g_no rfl rfl rfl g35) ?_
          refine op_skip (g_no rfl rfl rfl g35) ?_
          refine o_pkTc rfl g35 rfl ?_
          refine o_mvt rfl ?_
          refine op_skip (g_no rfl rfl rfl rfl) ?_
          refine op_skip (g_no rfl rfl rfl rfl) ?_
          refine op_skip (g_no rfl rfl rfl rfl) ?_
          refine o_pkTc rfl rfl rfl ?_
          refine ops_nil ?_
          exact ⟨by (repeat (first | with_reducible exact offM_refl _ _ | refine offM_updc rfl ?_ | refine offM_upd rfl ?_ | refine offM_updo rfl ?_ | refine offM_updo_none ?_ | refine offM_head rfl rfl ?_)), congrArg (fun b => [Value.bool b]) (by
            have k35 := done_iff.1 (of_decide_eq_true g35)
            symm; exact decide_eq_true fun hh => k35 ⟨hh.1, hh.2.1⟩), hk34⟩
      · rintro J41 vs w41 ⟨rfl, hk41⟩ -
        refine W_cond_p rfl (fun h42 => ?_) (fun h42 => ?_)
        · refine W_seq ?_
          refine W_region ?_
          refine op_run (r_build ((cmV Cm.zero nilV nilV)) (_) ([]) rfl rfl rfl rfl rfl (rfl)) rfl ?_
          refine o_storeA (cs := cmV Cm.zero nilV nilV) rfl rfl (by first | rfl | exact binV_one _ | exact dgR_one _ | exact refR_one _ | exact secR_one _ | exact all_c8 _ | exact cmV_one _ rfl rfl) (by first | rfl | (rw [binV_len]; rfl) | (rw [dgR_len]; rfl) | (rw [refR_len]; rfl) | (rw [secR_len]; rfl) | (rw [List.length_map, tagF_len]; rfl) | (rw [cmV_len]; rfl)) (hk41.blk' hB20 trivial) (by simp [cmV_len]) rfl ?_; intro w44 hB44 hk44 hs44
          rw [splice_all (by simp [cmV_len])] at hB44
          refine o_asc rfl ?_
          refine ops_nil ?_
          refine W_ret ?_
          refine retAT ((cmV Cm.zero nilV nilV)) ((.int .i64 3)) rfl rfl rfl rfl rfl (by first | rfl | (rw [binV_len]; rfl) | (rw [dgR_len]; rfl) | (rw [refR_len]; rfl) | (rw [secR_len]; rfl) | (rw [List.length_map, tagF_len]; rfl) | (rw [cmV_len]; rfl)) (hB44.all) ?_
          rw [decC_noC h42]
          exact ⟨_, _, _, rfl, cmIn_zero _, ((hkw18.trans hkB).trans hk41).new hk44 (by omega), FreshE.nil _⟩
        · refine W_skip ?_
          refine W_seq ?_
          refine W_region ?_
          refine op_run (r_loadA (cmV (cmR bs) (.slice ab (dB bs).1.length cb) (.slice ae (dE bs).1.length ce)) rfl rfl rfl (by first | rfl | (rw [binV_len]; rfl) | (rw [dgR_len]; rfl) | (rw [refR_len]; rfl) | (rw [secR_len]; rfl) | (rw [List.length_map, tagF_len]; rfl) | (rw [cmV_len]; rfl)) ((hk41.blk' hB20 trivial).all)) rfl ?_
          refine o_storeA (cs := cmV (cmR bs) (.slice ab (dB bs).1.length cb) (.slice ae (dE bs).1.length ce)) rfl rfl (by first | rfl | exact binV_one _ | exact dgR_one _ | exact refR_one _ | exact secR_one _ | exact all_c8 _ | exact cmV_one _ rfl rfl) (by first | rfl | (rw [binV_len]; rfl) | (rw [dgR_len]; rfl) | (rw [refR_len]; rfl) | (rw [secR_len]; rfl) | (rw [List.length_map, tagF_len]; rfl) | (rw [cmV_len]; rfl)) (hk41.blk' hB20 trivial) (by simp [cmV_len]) rfl ?_; intro w47 hB47 hk47 hs47
          rw [splice_all (by simp [cmV_len])] at hB47
          refine o_asc rfl ?_
          refine ops_nil ?_
          refine W_ret ?_
          refine retAT ((cmV (cmR bs) (.slice ab (dB bs).1.length cb) (.slice ae (dE bs).1.length ce))) ((.int .i64 0)) rfl rfl rfl rfl rfl (by first | rfl | (rw [binV_len]; rfl) | (rw [dgR_len]; rfl) | (rw [refR_len]; rfl) | (rw [secR_len]; rfl) | (rw [List.length_map, tagF_len]; rfl) | (rw [cmV_len]; rfl)) (hB47.all) ?_
          rw [decC_some hris (Decidable.not_not.1 h42)]
          have hzw := hkw.size
          refine ⟨_, _, vks, rfl, ?_, ((hkw18.trans hkB).trans hk41).new hk47 (by omega), hin17.mono (fun z hz => by omega), fun u hu => (hvA u hu).mono (fun z hz => by rw [hA] at hz; have := hz.1; omega)⟩
          have hC41 := hC18.k (hkB.trans hk41)
          exact ⟨hC41.1.keep hk47 (fun z hz e => by have := hin13 z hz; omega), hC41.2.keep2 hk47 (fun z hz e => by have := hin17 z hz; omega) (fun u hu => (hvA u hu).mono hA1)⟩
theorem cm_Decode (w : World) (v : Value) (bs : List UInt8) (hv : By w v bs) (hl : bs.length ≤ 1000000) :
    Ret Tryd.prog 32 [v].toArray w fun r w' => ∃ vb ve vks, r = .tuple #[.agg (cmV ((decC bs).getD Cm.zero) vb ve).toArray, .int .i64 (if (decC bs).isSome then 0 else 3)] ∧ CmIn w' ((decC bs).getD Cm.zero) vb ve vks ∧ Keep All w w' :=
  (cm_DecodeF w v bs hv hl).mono fun _ _ ⟨u, he, vb, ve, vks, h1, h2, h3, _⟩ => ⟨u, he, vb, ve, vks, h1, h2, h3⟩
end Go.Proofs.YtigehkfdfecfoaaDoor.B
