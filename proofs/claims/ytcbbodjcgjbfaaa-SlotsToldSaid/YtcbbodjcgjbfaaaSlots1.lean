/-
  slots: what a sector tells of a Ref.
-/
import Derived.Test.YtcbbodjcgjbfaaaBlob1
import Derived.Test.YtcbbodjcgjbfaaaDisk6
namespace Go.Proofs.Ytcbbodjcgjbfaaa.B
open Go
set_option linter.unusedVariables false
set_option maxHeartbeats 2000000
set_option maxRecDepth 100000
attribute [local irreducible] W OpsW OpsQ retP
/-- The sector that tells a Ref. -/
def laidS (r : Rf) : Sec := ⟨laidB r, laidB_len r⟩
theorem laid_cells (r : Rf) : splice (List.replicate 64 (c8 0)) 0 ((([1] ++ encR r).map c8).take (min ([1] ++ encR r).length 64)) = secR (laidS r) := by
  have := encR_len r
  have hl : ([1] ++ encR r).length = (encR r).length + 1 := by simp
  rw [hl, Nat.min_eq_left (by omega), List.take_of_length_le (by rw [List.length_map, hl]; exact Nat.le_refl _), splice_copy _ _ _ (by rw [List.length_map, hl]; omega), List.length_map, hl]
  unfold secR laidS laidB
  simp [show 64 - ((encR r).length + 1) = 63 - (encR r).length by omega]

theorem sl_laid (w : World) (r : Rf) : Ret Try.prog 19 [.agg (refR r).toArray].toArray w fun u w' => u = .agg (secR (laidS r)).toArray ∧ Keep All w w' := by
  have hlen := encR_len r
  refine enter (fn := Try.f19) (n := 9) Try.func19 rfl rfl (by simp) ?_
  refine W_seq ?_
  refine W_region ?_
  refine o_box rfl rfl rfl ?_; intro w1 b1 e1 hB1 hk1 hs1
  refine o_alloc rfl rfl rfl ?_; intro w2 b2 e2 hB2 hk2 hs2
  have hB2 : Blk w2 b2 (List.replicate 64 (c8 0)) 28 := hB2
  refine ops_nil ?_
  refine W_seq ?_
  refine W_held (fun w' => Blk w' b1 (refR r) 26) (by kernel_rfl) ((Keep.drawn w2).blk' (hk2.blk' hB1 trivial) trivial) (fun hS => ?_)
  refine any_run 0 (fun w' hS' => (r_sliceA rfl rfl rfl)) rfl (by kernel_rfl) (by kernel_rfl) (by kernel_rfl) rfl hS ?_
  refine any_run 2 (fun w' hS' => (r_loadA (refR r) rfl rfl rfl (by first | rfl | (rw [dgR_len]; rfl) | (rw [refR_len]; rfl) | (rw [secR_len]; rfl) | (rw [List.length_map, tagF_len]; rfl)) (hS'.all))) rfl (by kernel_rfl) (by kernel_rfl) (by kernel_rfl) rfl hS ?_
  refine any_one 1 (by kernel_rfl) (one_of rfl ?_)
  refine o_bs1 (v := c8 1) rfl rfl rfl rfl rfl rfl ?_; intro w5 b5 e5 hB5 hk5 hs5
  have hown5 : OwnB w5 5 (.slice (some ⟨b5, 0, none⟩) 1 1) [1] := Own.blk (n := 1) (l := [c8 1]) hB5 rfl (by unfold maxLen; decide)
  have hb5 : b2 < b5 := by have := hB2.lt; have e5 : b5 = w2.heap.size := e5; omega
  refine ops_nil ⟨hk5.blk' hS trivial, fun hS => ?_⟩
  refine any_one 3 (by kernel_rfl) (one_of rfl ?_)
  refine op_call rfl rfl rfl (bl_Put _ _ [1] r hown5 (by decide)) ?_; rintro v7 w7 ⟨hown7, hk7, hb7⟩
  refine ops_nil ⟨hk7.blk' hS (fun e => by injection e with e; have e : b1 = b5 := e; omega), fun hS => ?_⟩
  have hB7 := hk7.blk' (hk5.blk' ((Keep.drawn w2).blk' hB2 trivial) trivial) (fun e => by injection e with e; have e : b2 = b5 := e; omega)
  have hsl7 : By w7 v7 ([1] ++ encR r) := hown7.by_
  refine any_one 4 (by kernel_rfl) (one_of rfl ?_)
  refine o_copy (cs := _) rfl rfl (hsl7) rfl rfl (hB7) (by exact Nat.le_refl _) (all_c8 _) rfl ?_; intro w9 hB9 hk9 hs9
  rw [laid_cells] at hB9
  refine ops_nil ⟨hk9.blk' hS (by omega), fun hS => ?_⟩
  refine any_done (by kernel_rfl) ?_
  refine W_seq ?_
  refine W_region ?_
  refine op_run (r_loadA (secR (laidS r)) rfl rfl rfl (by first | rfl | (rw [dgR_len]; rfl) | (rw [refR_len]; rfl) | (rw [secR_len]; rfl) | (rw [List.length_map, tagF_len]; rfl)) (hB9.all)) rfl ?_
  refine o_storeA (cs := secR (laidS r)) rfl rfl (by first | rfl | exact dgR_one _ | exact refR_one _ | exact secR_one _ | exact all_c8 _) (by first | rfl | (rw [dgR_len]; rfl) | (rw [refR_len]; rfl) | (rw [secR_len]; rfl) | (rw [List.length_map, tagF_len]; rfl)) hB9 (by simp [secR_len]) rfl ?_; intro w12 hB12 hk12 hs12
  rw [splice_all (by simp [secR_len])] at hB12
  refine ops_nil ?_
  refine W_ret ?_
  refine retA (secR (laidS r)) rfl rfl rfl rfl (by first | rfl | (rw [dgR_len]; rfl) | (rw [refR_len]; rfl) | (rw [secR_len]; rfl) | (rw [List.length_map, tagF_len]; rfl)) hB12.all ?_
  refine ⟨rfl, ?_⟩
  have hkA : Keep All w w5 := (hk1.trans hk2).trans ((Keep.drawn w2).trans hk5)
  have h1 := hk1.size
  have hkB : Keep (fun k => k < w.heap.size) w5 w7 := hk7.mono fun k _ h e => by injection e with e; have e : k = b5 := e; have e5 : b5 = w2.heap.size := e5; omega
  exact (((hkA.all.trans hkB).trans (hk9.mono fun k _ h => by omega)).trans (hk12.mono fun k _ h => by omega)).mono fun k hk _ => hk

theorem laidS_eq {r : Rf} {s : Sec} : laidS r = s ↔ laidB r = s.val := ⟨fun h => by rw [← h]; rfl, fun h => Subtype.ext h⟩
/-- A Ref, or none. -/
def optR (o : Option Rf) : Value := .tuple #[.agg (refR (o.getD Rf.zero)).toArray, .bool o.isSome]

theorem sl_told (w : World) (s : Sec) : Ret Try.prog 18 [.agg (secR s).toArray].toArray w fun u w' => u = optR (told s.val) ∧ Keep All w w' := by
  obtain ⟨K, hK⟩ : ∃ K, K = numR 1 s.val false := ⟨_, rfl⟩
  obtain ⟨R, hR⟩ : ∃ R, R = rfR K.2.1 K.2.2 := ⟨_, rfl⟩
  have ht : told s.val = if R.2.2 = true ∨ laidB R.1 ≠ s.val then none else some R.1 := by rw [hR, hK]; rfl
  refine enter (fn := Try.f18) (n := 22) Try.func18 rfl rfl (by simp) ?_
  refine W_seq ?_
  refine W_region ?_
  refine o_box rfl rfl rfl ?_; intro w1 b1 e1 hB1 hk1 hs1
  refine o_alloc rfl rfl rfl ?_; intro w2 b2 e2 hB2 hk2 hs2
  have hby : By w2 (.slice (some ⟨b1, 0, none⟩) 64 64) s.val := by
    have hl := s.2
    have := By.of_at (w := w2) (b := b1) (off := 0) (c := 64) (bs := s.val) (fun j u hj => by rw [Nat.zero_add]; exact (hk2.blk' hB1 trivial).cell hj) (by omega) (by unfold maxLen; omega)
    rwa [hl] at this
  have hB2 : Blk w2 b2 (refR Rf.zero) 26 := by rw [refR_zero]; exact hB2
  refine o_asc rfl ?_
  refine ops_nil ?_
  refine W_seq ?_
  refine W_region ?_
  refine op_run (r_sliceA rfl rfl rfl) rfl ?_
  refine op_call rfl rfl rfl (pack_From w2 _ s.val hby (by rw [s.2]; decide)) ?_; rintro v3 w3 ⟨b3, rfl, hb3, hI3, hk3⟩
  refine o_ast rfl ?_
  refine ops_nil ?_
  refine W_seq ?_
  refine W_region ?_
  refine o_mvt rfl ?_
  refine op_call rfl rfl rfl (in_Number w3 b3 _ _ _ 1 (fun h => Nat.lt_irrefl _ h.2) hI3) ?_; rintro v4 w4 ⟨rfl, hI4, hk4⟩
  have hb3l : b3 < w3.heap.size := by obtain ⟨_, hB, _⟩ := hI3; exact hB.lt
  have hz4 := hk4.size
  rw [← hK] at hI4
  refine ops_nil ?_
  refine W_seq ?_
  refine W_region ?_
  refine o_mvt rfl ?_
  refine op_call rfl rfl rfl (bl_Take w4 b3 _ _ _ (fun h => Nat.lt_irrefl _ h.2) (fun k hk => by have := hk.2; omega) hI4) ?_; rintro v5 w5 ⟨rfl, hI5, hk5⟩
  rw [← hR] at hI5
  rw [← hK, ← hR]
  refine o_alloc rfl rfl rfl ?_; intro w6 b6 e6 hB6 hk6 hs6
  refine o_storeA (cs := refR R.1) rfl rfl (by first | rfl | exact dgR_one _ | exact refR_one _ | exact secR_one _ | exact all_c8 _) (by first | rfl | (rw [dgR_len]; rfl) | (rw [refR_len]; rfl) | (rw [secR_len]; rfl) | (rw [List.length_map, tagF_len]; rfl)) hB6 (by exact Nat.le_of_eq (by simp [refR_len])) rfl ?_; intro w7 hB7 hk7 hs7
  have hB7 : Blk w7 b6 (refR R.1) 26 := by
    have h := hB7
    rwa [splice_all (by simp [refR_len])] at h
  have hB1' := ((((((hk2.blk' hB1 trivial) |> fun h => hk3.blk' h trivial) |> fun h => hk4.blk' h (show b1 ≠ b3 by have := hB1.lt; have := hk2.size; omega)) |> fun h => hk5.blk' h (show b1 ≠ b3 by have := hB1.lt; have := hk2.size; omega)) |> fun h => hk6.blk' h trivial) |> fun h => hk7.blk' h (show b1 ≠ b6 by have := hB1.lt; have := hk2.size; have := hk3.size; have := hk5.size; omega))
  have hB2' := (((((hk3.blk' hB2 trivial) |> fun h => hk4.blk' h (show b2 ≠ b3 by have := hB2.lt; omega)) |> fun h => hk5.blk' h (show b2 ≠ b3 by have := hB2.lt; omega)) |> fun h => hk6.blk' h trivial) |> fun h => hk7.blk' h (show b2 ≠ b6 by have := hB2.lt; have := hk3.size; have := hk5.size; omega))
  have hI7 := (hI5.keep hk6 trivial (fun _ _ => trivial)).keep hk7 (show b3 ≠ b6 by have := hk5.size; omega) (fun k hk => by have := hk.2; have := hk5.size; omega)
  have hz3 := hk3.size
  have hz2 := hk2.size
  have hz5 := hk5.size
  have hkw : Keep All w w7 := ((((((hk1.trans hk2).trans hk3).all.trans (hk4.mono fun k _ (h : k < w.heap.size) => by have := hk1.size; omega)).trans (hk5.mono fun k _ (h : k < w.heap.size) => by have := hk1.size; omega)).trans hk6.all).trans (hk7.mono fun k _ (h : k < w.heap.size) => by have := hk1.size; omega)).mono fun k hk _ => hk
  refine ops_nil ?_
  refine W_seq ?_
  refine W_cut [19] [12, 13, 14, 15, 16, 17, 18, 19] (fun vs w8 => vs = [.bool (decide (told s.val = none))] ∧ Keep All w7 w8) ?_ ?_
  · refine W_held (Keep All w7) (by kernel_rfl) (Keep.drawn w7) (fun hS => ?_)
    refine any_mvt 0 rfl (by kernel_rfl) (by kernel_rfl) (by kernel_rfl) rfl hS ?_
    refine any_one 1 (by kernel_rfl) (one_of rfl ?_)
    refine op_call rfl rfl rfl (in_Wrong _ b3 _ _ _ (hI7.keep hS trivial (fun _ _ => trivial))) ?_; rintro v10 w10 ⟨rfl, rfl⟩
    refine ops_nil ⟨hS, fun hS => ?_⟩
    refine any_mvt 2 rfl (by kernel_rfl) (by kernel_rfl) (by kernel_rfl) rfl hS ?_
    refine a_split 14 false rfl (fun g12 => ?_) (fun g12 => ?_)
    · refine any_run 3 (fun w' hS' => (r_loadA (refR R.1) rfl rfl rfl (by first | rfl | (rw [dgR_len]; rfl) | (rw [refR_len]; rfl) | (rw [secR_len]; rfl) | (rw [List.length_map, tagF_len]; rfl)) ((hS'.blk' hB7 trivial).all))) rfl (by kernel_rfl) (by kernel_rfl) (by kernel_rfl) (g_yes rfl rfl rfl g12) hS ?_
      refine any_run 5 (fun w' hS' => (r_loadA (secR s) rfl rfl rfl (by first | rfl | (rw [dgR_len]; rfl) | (rw [refR_len]; rfl) | (rw [secR_len]; rfl) | (rw [List.length_map, tagF_len]; rfl)) ((hS'.blk' hB1' trivial).all))) rfl (by kernel_rfl) (by kernel_rfl) (by kernel_rfl) (g_yes rfl rfl rfl g12) hS ?_
      refine any_one 4 (by kernel_rfl) (one_of rfl ?_)
      refine op_call rfl rfl (g_yes rfl rfl rfl g12) (sl_laid _ R.1) ?_; rintro v15 w15 ⟨rfl, hk15⟩
      refine ops_nil ⟨hS.trans hk15, fun hS => ?_⟩
      refine any_run 6 (fun w' hS' => (r_neqC (p := laidS R.1 = s) rfl rfl rfl rfl (by kernel_rfl) (okC_sec _) (okC_sec _) rfl (secR_inj))) rfl (by kernel_rfl) (by kernel_rfl) (by kernel_rfl) (g_yes rfl rfl rfl g12) hS ?_
      refine any_run 7 (fun w' hS' => (r_pickF rfl g12)) rfl (by kernel_rfl) (by kernel_rfl) (by kernel_rfl) rfl hS ?_
      refine any_done (by kernel_rfl) ?_
      refine ⟨by (repeat (first | with_reducible exact offM_refl _ _ | refine offM_updc rfl ?_ | refine offM_upd rfl ?_ | refine offM_updo rfl ?_ | refine offM_updo_none ?_ | refine offM_head rfl rfl ?_)), congrArg (fun b => [Value.bool b]) ?_, hS⟩
      have g12 : R.2.2 = false := g12
      rw [ht, ← decide_not, decide_eq_decide]
      rw [laidS_eq]
      by_cases hh : laidB R.1 = s.val <;> simp [g12, hh]
    · refine any_skip 3 rfl (by kernel_rfl) (by kernel_rfl) (by kernel_rfl) (g_no rfl rfl rfl g12) hS ?_
      refine any_skip 5 rfl (by kernel_rfl) (by kernel_rfl) (by kernel_rfl) (g_no rfl rfl rfl g12) hS ?_
      refine any_one 4 (by kernel_rfl) (one_of rfl ?_)
      refine op_skip (g_no rfl rfl rfl g12) ?_
      refine ops_nil ⟨hS, fun hS => ?_⟩
      refine any_skip 6 rfl (by kernel_rfl) (by kernel_rfl) (by kernel_rfl) (g_no rfl rfl rfl g12) hS ?_
      refine any_run 7 (fun w' hS' => (r_pickT rfl g12)) rfl (by kernel_rfl) (by kernel_rfl) (by kernel_rfl) rfl hS ?_
      refine any_done (by kernel_rfl) ?_
      refine ⟨by (repeat (first | with_reducible exact offM_refl _ _ | refine offM_updc rfl ?_ | refine offM_upd rfl ?_ | refine offM_updo rfl ?_ | refine offM_updo_none ?_ | refine offM_head rfl rfl ?_)), congrArg (fun b => [Value.bool b]) ?_, hS⟩
      have g12 : R.2.2 = true := by simpa using g12
      rw [ht, if_pos (.inl g12)]; simp
  · rintro J21 vs w21 ⟨rfl, hk21⟩ -
    refine W_cond_p rfl (fun h22 => ?_) (fun h22 => ?_)
    · refine W_seq ?_
      refine W_region ?_
      refine op_run (r_build ((refR Rf.zero)) (_) ([]) rfl rfl rfl rfl rfl (by rw [refR_zero]; rfl)) rfl ?_
      refine o_storeA (cs := refR Rf.zero) rfl rfl (by first | rfl | exact dgR_one _ | exact refR_one _ | exact secR_one _ | exact all_c8 _) (by first | rfl | (rw [dgR_len]; rfl) | (rw [refR_len]; rfl) | (rw [secR_len]; rfl) | (rw [List.length_map, tagF_len]; rfl)) (hk21.blk' hB2' trivial) (by exact Nat.le_of_eq (by simp [refR_len])) rfl ?_; intro w24 hB24 hk24 hs24
      rw [splice_all (by simp [refR_len])] at hB24
      refine o_asc rfl ?_
      refine ops_nil ?_
      refine W_ret ?_
      refine retAT (refR Rf.zero) (.bool false) rfl rfl rfl rfl rfl (by first | rfl | (rw [dgR_len]; rfl) | (rw [refR_len]; rfl) | (rw [secR_len]; rfl) | (rw [List.length_map, tagF_len]; rfl)) (hB24.all) ?_
      rw [h22]
      exact ⟨rfl, (hkw.trans hk21).new hk24 (by omega)⟩
    · refine W_skip ?_
      refine W_seq ?_
      refine W_region ?_
      refine op_run (r_loadA (refR R.1) rfl rfl rfl (by first | rfl | (rw [dgR_len]; rfl) | (rw [refR_len]; rfl) | (rw [secR_len]; rfl) | (rw [List.length_map, tagF_len]; rfl)) ((hk21.blk' hB7 trivial).all)) rfl ?_
      refine o_storeA (cs := refR R.1) rfl rfl (by first | rfl | exact dgR_one _ | exact refR_one _ | exact secR_one _ | exact all_c8 _) (by first | rfl | (rw [dgR_len]; rfl) | (rw [refR_len]; rfl) | (rw [secR_len]; rfl) | (rw [List.length_map, tagF_len]; rfl)) (hk21.blk' hB2' trivial) (by exact Nat.le_of_eq (by simp [refR_len])) rfl ?_; intro w27 hB27 hk27 hs27
      rw [splice_all (by simp [refR_len])] at hB27
      refine o_asc rfl ?_
      refine ops_nil ?_
      refine W_ret ?_
      refine retAT (refR R.1) (.bool true) rfl rfl rfl rfl rfl (by first | rfl | (rw [dgR_len]; rfl) | (rw [refR_len]; rfl) | (rw [secR_len]; rfl) | (rw [List.length_map, tagF_len]; rfl)) (hB27.all) ?_
      have ht2 : told s.val = some R.1 := by
        rw [ht] at h22 ⊢
        split at h22
        · exact absurd rfl h22
        · rename_i hn; rw [if_neg hn]
      rw [ht2]
      exact ⟨rfl, (hkw.trans hk21).new hk27 (by omega)⟩
end Go.Proofs.Ytcbbodjcgjbfaaa.B
