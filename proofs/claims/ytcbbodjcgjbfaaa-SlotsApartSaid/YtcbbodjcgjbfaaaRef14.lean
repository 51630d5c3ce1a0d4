/-
  The document's slots.
-/
import Derived.Test.YtcbbodjcgjbfaaaSlots2
namespace Go.Proofs.Ytcbbodjcgjbfaaa.B
open Go
set_option linter.unusedVariables false
set_option maxHeartbeats 2000000
set_option maxRecDepth 100000
attribute [local irreducible] W OpsW OpsQ retP

theorem rf07_Put (w : World) (v : Value) (xs : List UInt8) (r : Rf) (hown : OwnB w 5 v xs) (hlen : xs.length + 60 ≤ 2 ^ 40) :
    Ret Try.prog 20 [v, .agg (refR r).toArray].toArray w fun u w' => OwnB w' 5 u (xs ++ encR r) ∧ Keep (fun b => some b ≠ v.ownBlock) w w' ∧ InB (fun b => v.ownBlock = some b ∨ w.heap.size ≤ b) u := by
  have hx1 := encN_len10 (u64_lt r.at_)
  have hx2 := encN_len10 (u64_lt r.len)
  have hdl := r.dig.2
  refine enter (fn := Try.f20) (n := 26) Try.func20 rfl rfl (by simp) ?_
  refine W_seq ?_
  refine W_region ?_
  refine o_box rfl rfl rfl ?_; intro w1 b1 e1 hB1 hk1 hs1
  have hne : some b1 ≠ v.ownBlock := fun e => by have := hown.lt b1 e.symm; omega
  refine o_asc rfl ?_
  refine ops_nil ?_
  refine W_seq ?_
  refine W_seq ?_
  refine W_region ?_
  refine o_asc rfl ?_
  refine ops_nil ?_
  refine W_block ?_
  refine W_loop [0, 5] [0, 5, 6, 7, 8, 9, 10, 11, 12, 13, 14, 15, 16] (fun vs w' => ∃ (u : Value) (k : Nat), vs = [u, .int .i64 k] ∧ k ≤ 32 ∧ OwnB w' 5 u (xs ++ r.dig.val.take k) ∧ Keep (fun b => some b ≠ v.ownBlock) w w' ∧ Blk w' b1 (refR r) 26 ∧ InB (fun b => (v.ownBlock = some b ∨ w.heap.size ≤ b) ∧ b ≠ b1) u ∧ w1.heap.size ≤ w'.heap.size) (fun vs _ => match vs with | [_, .int _ k] => 32 - k.toNat | _ => 0) ⟨v, 0, rfl, by omega, by rw [List.take_zero, List.append_nil]; exact hown.keep hk1 (fun _ _ => trivial), hk1.all, hB1, (fun b hb => ⟨.inl hb, fun e => hne (e ▸ hb.symm)⟩), Nat.le_refl _⟩ ?_
  rintro J2 vs w2 ⟨u, k, rfl, hk, hown2, hkA, hB2, hinA, hz2⟩ -
  refine W_seq ?_
  refine W_seq ?_
  refine W_region ?_
  refine o_mvt rfl ?_
  refine op_run (r_lss rfl rfl) rfl ?_
  refine ops_nil ?_
  refine W_cond_p rfl (fun h3 => ?_) (fun h3 => ?_)
  · refine W_skip ?_
    refine W_seq ?_
    refine W_block ?_
    refine W_region ?_
    refine o_mvt rfl ?_
    refine o_mvt rfl ?_
    refine op_run (r_fieldAddr rfl rfl rfl rfl rfl) rfl ?_
    have hkl : k < 32 := by omega
    have hinck := inc64' k (by omega)
    have hk32 : k < r.dig.val.length := by omega
    refine op_run (r_idxA1 rfl rfl rfl rfl (by omega) (by omega)) rfl ?_
    refine op_run (r_load rfl rfl rfl (by rw [Int.toNat_natCast]; show w2.cell? ⟨b1, 0 + 0 + k, none⟩ = some (c8 r.dig.val[k]); rw [Nat.zero_add]; exact hB2.cell (refR_dig r (get_c8 hk32)))) rfl ?_
    refine o_bs1 (v := c8 r.dig.val[k]) rfl rfl rfl rfl rfl rfl ?_; intro w6 b6 e6 hB6 hk6 hs6
    refine o_app1 (v := u) rfl rfl hB6 rfl rfl ti_u8 rfl (hown2.keep hk6 (fun _ _ => trivial)) (by rw [List.length_append, List.length_take]; unfold maxLen; omega) (by rw [List.length_append, List.length_take]; omega) rfl ?_; intro v7 w7 hown7 hk7 hb7
    refine o_ast rfl ?_
    refine ops_nil ?_
    refine W_region ?_
    refine o_mvt rfl ?_
    refine op_run (r_add rfl rfl) rfl ?_
    refine o_ast rfl ?_
    refine ops_nil ?_
    have hown7' : OwnB w7 5 v7 (xs ++ r.dig.val.take (k + 1)) := by
      have h := OwnB.snoc hown7
      rwa [List.append_assoc, ← List.take_succ_eq_append_getElem hk32] at h
    have hB7 := hk7.blk' (hk6.blk' hB2 trivial) (fun e => (hinA b1 e.symm).2 rfl)
    refine ⟨by (repeat (first | with_reducible exact offM_refl _ _ | refine offM_updc rfl ?_ | refine offM_upd rfl ?_ | refine offM_updo rfl ?_ | refine offM_updo_none ?_ | refine offM_head rfl rfl ?_)), ⟨v7, k + 1, ?_, by omega, hown7', (hkA.trans hk6.all).own hk7 (fun b hb hA => (hinA b hb).1.resolve_left (fun e => hA e.symm)), hB7, fun b hb => ?_, by have := hk6.size; have := hk7.size; omega⟩, ?_⟩
    · rw [← hinck]; rfl
    · rcases hb7 b hb with h1 | h1
      · exact hinA b h1
      · have := hk6.size; have := hkA.size; have := hB2.lt; exact ⟨.inr (by omega), by omega⟩
    · show 32 - (IntKind.i64.wrap ((k : Int) + 1)).toNat < 32 - (k : Int).toNat
      rw [hinck]; omega
  · refine W_exit ?_
    refine W_seq ?_
    have hkp : k = 32 := by omega
    subst hkp
    rw [List.take_of_length_le (by omega)] at hown2
    refine W_held (fun w' => Blk w' b1 (refR r) 26) (by kernel_rfl) ((Keep.drawn w2).blk' hB2 trivial) (fun hS => ?_)
    refine any_mvt 0 rfl (by kernel_rfl) (by kernel_rfl) (by kernel_rfl) rfl hS ?_
    refine any_run 1 (fun w' hS' => (r_fieldAddr rfl rfl rfl rfl rfl)) rfl (by kernel_rfl) (by kernel_rfl) (by kernel_rfl) rfl hS ?_
    refine any_run 2 (fun w' hS' => (r_load rfl rfl rfl (hS'.cell (refR_32 r)))) rfl (by kernel_rfl) (by kernel_rfl) (by kernel_rfl) rfl hS ?_
    refine any_run 3 (fun w' hS' => ((r_conv rfl rfl rfl).val (conv_u64 r.at_))) rfl (by kernel_rfl) (by kernel_rfl) (by kernel_rfl) rfl hS ?_
    refine any_run 5 (fun w' hS' => (r_fieldAddr rfl rfl rfl rfl rfl)) rfl (by kernel_rfl) (by kernel_rfl) (by kernel_rfl) rfl hS ?_
    refine any_run 6 (fun w' hS' => (r_load rfl rfl rfl (hS'.cell (refR_33 r)))) rfl (by kernel_rfl) (by kernel_rfl) (by kernel_rfl) rfl hS ?_
    refine any_run 7 (fun w' hS' => ((r_conv rfl rfl rfl).val (conv_u64 r.len))) rfl (by kernel_rfl) (by kernel_rfl) (by kernel_rfl) rfl hS ?_
    refine any_one 4 (by kernel_rfl) (one_of rfl ?_)
    refine op_call rfl rfl rfl (ref01_Number _ u (xs ++ r.dig.val) (u64 r.at_) (u64_lt _) (hown2.keep (Keep.drawn w2) (fun _ _ => trivial)) (by rw [List.length_append]; omega)) ?_; rintro v12 w12 ⟨hown6, hk6, hb6⟩
    have hz := hkA.size
    have hlt2 := hB2.lt
    have hne2 : some b1 ≠ u.ownBlock := fun e => (hinA b1 e.symm).2 rfl
    have hkB := (hkA.trans (Keep.drawn w2).all).own hk6 (fun b hb hA => (hinA b hb).1.resolve_left (fun e => hA e.symm))
    have hinB : InB (fun b => v.ownBlock = some b ∨ w.heap.size ≤ b) v12 := fun b hb => (hb6 b hb).elim (fun h => (hinA b h).1) fun h => .inr (Nat.le_trans hz h)
    have hne6 : some b1 ≠ v12.ownBlock := fun e => by
      rcases hb6 b1 e.symm with h | h
      · exact hne2 h.symm
      · have h : w2.heap.size ≤ b1 := h
        omega
    refine ops_nil ⟨hk6.blk' hS hne2, fun hS => ?_⟩
    refine any_one 8 (by kernel_rfl) (one_of rfl ?_)
    refine op_call rfl rfl rfl (ref01_Number _ v12 _ (u64 r.len) (u64_lt _) hown6 (by rw [List.length_append, List.length_append]; omega)) ?_; rintro v14 w14 ⟨hown8, hk8, hb8⟩
    refine ops_nil ⟨hk8.blk' hS hne6, fun hS => ?_⟩
    refine any_ast 9 rfl (by kernel_rfl) (by kernel_rfl) (by kernel_rfl) rfl hS ?_
    refine any_done (by kernel_rfl) ?_
    refine W_ret ?_
    refine ret1 v14 rfl ?_ ?_; rfl
    refine ⟨?_, hkB.own hk8 (fun b hb hA => (hinB b hb).resolve_left (fun e => hA e.symm)), fun b hb => (hb8 b hb).elim (hinB b) fun h => .inr (by have := hkB.size; omega)⟩
    unfold encR
    rw [← List.append_assoc, ← List.append_assoc]
    exact hown8

theorem rf14_May (w : World) (r : Rf) : Ret Try.prog 12 [.agg (refR r).toArray].toArray w fun u w' => u = .bool (decide r.may) ∧ Keep All w w' := by
  refine enter (fn := Try.f12) (n := 21) Try.func12 rfl rfl (by simp) ?_
  refine W_seq ?_
  refine W_region ?_
  refine o_box rfl rfl rfl ?_; intro w1 b1 e1 hB1 hk1 hs1
  refine o_asc rfl ?_
  refine ops_nil ?_
  refine W_seq ?_
  refine W_region ?_
  refine op_run (r_fieldAddr rfl rfl rfl rfl rfl) rfl ?_
  refine op_run (r_load rfl rfl rfl (hB1.cell (refR_32 r))) rfl ?_
  refine op_run (r_geq rfl rfl) rfl ?_
  refine o_mvt rfl ?_
  refine g_split rfl rfl rfl (fun g3 => ?_) (fun g3 => ?_)
  · refine op_run (r_fieldAddr rfl rfl rfl rfl rfl) (g_yes rfl rfl rfl g3) ?_
    refine op_run (r_load rfl rfl rfl (hB1.cell (refR_32 r))) (g_yes rfl rfl rfl g3) ?_
    refine op_run (r_leq rfl rfl) (g_yes rfl rfl rfl g3) ?_
    refine o_pkTt rfl g3 rfl ?_
    refine o_mvt rfl ?_
    refine g_split rfl rfl rfl (fun g5 => ?_) (fun g5 => ?_)
    · refine op_run (r_fieldAddr rfl rfl rfl rfl rfl) (g_yes rfl rfl rfl g5) ?_
      refine op_run (r_load rfl rfl rfl (hB1.cell (refR_33 r))) (g_yes rfl rfl rfl g5) ?_
      refine op_run (r_geq rfl rfl) (g_yes rfl rfl rfl g5) ?_
      refine o_pkTt rfl g5 rfl ?_
      refine o_mvt rfl ?_
      refine g_split rfl rfl rfl (fun g7 => ?_) (fun g7 => ?_)
      · refine op_run (r_fieldAddr rfl rfl rfl rfl rfl) (g_yes rfl rfl rfl g7) ?_
        refine op_run (r_load rfl rfl rfl (hB1.cell (refR_33 r))) (g_yes rfl rfl rfl g7) ?_
        refine op_run (r_leq rfl rfl) (g_yes rfl rfl rfl g7) ?_
        refine o_pkTt rfl g7 rfl ?_
        refine o_ast rfl ?_
        refine ops_nil ?_
        refine W_ret ?_
        refine ret1 (.bool (decide (r.len ≤ 65536))) rfl ?_ ?_; rfl
        have g3 := of_decide_eq_true g3
        have g5 := of_decide_eq_true g5
        have g7 := of_decide_eq_true g7
        exact ⟨congrArg Value.bool (by rw [decide_eq_decide]; unfold Rf.may; omega), hk1⟩
      · refine op_skip (g_no rfl rfl rfl g7) ?_
        refine op_skip (g_no rfl rfl rfl g7) ?_
        refine op_skip (g_no rfl rfl rfl g7) ?_
        refine o_pkFc rfl g7 rfl ?_
        refine o_ast rfl ?_
        refine ops_nil ?_
        refine W_ret ?_
        refine ret1 (.bool false) rfl ?_ ?_; rfl
        have g7' := of_decide_eq_false g7
        exact ⟨congrArg Value.bool (by symm; apply decide_eq_false; unfold Rf.may; omega), hk1⟩
    · refine op_skip (g_no rfl rfl rfl g5) ?_
      refine op_skip (g_no rfl rfl rfl g5) ?_
      refine op_skip (g_no rfl rfl rfl g5) ?_
      refine o_pkFc rfl g5 rfl ?_
      refine o_mvt rfl ?_
      refine op_skip (g_no rfl rfl rfl rfl) ?_
      refine op_skip (g_no rfl rfl rfl rfl) ?_
      refine op_skip (g_no rfl rfl rfl rfl) ?_
      refine o_pkFc rfl rfl rfl ?_
      refine o_ast rfl ?_
      refine ops_nil ?_
      refine W_ret ?_
      refine ret1 (.bool false) rfl ?_ ?_; rfl
      have g5' := of_decide_eq_false g5
      exact ⟨congrArg Value.bool (by symm; apply decide_eq_false; unfold Rf.may; omega), hk1⟩
  · refine op_skip (g_no rfl rfl rfl g3) ?_
    refine op_skip (g_no rfl rfl rfl g3) ?_
    refine op_skip (g_no rfl rfl rfl g3) ?_
    refine o_pkFc rfl g3 rfl ?_
    refine o_mvt rfl ?_
    refine op_skip (g_no rfl rfl rfl rfl) ?_
    refine op_skip (g_no rfl rfl rfl rfl) ?_
    refine op_skip (g_no rfl rfl rfl rfl) ?_
    refine o_pkFc rfl rfl rfl ?_
    refine o_mvt rfl ?_
    refine op_skip (g_no rfl rfl rfl rfl) ?_
    refine op_skip (g_no rfl rfl rfl rfl) ?_
    refine op_skip (g_no rfl rfl rfl rfl) ?_
    refine o_pkFc rfl rfl rfl ?_
    refine o_ast rfl ?_
    refine ops_nil ?_
    refine W_ret ?_
    refine ret1 (.bool false) rfl ?_ ?_; rfl
    have g3' := of_decide_eq_false g3
    exact ⟨congrArg Value.bool (by symm; apply decide_eq_false; unfold Rf.may; omega), hk1⟩

theorem rf14_Laid (w : World) (r : Rf) : Ret Try.prog 13 [.agg (refR r).toArray].toArray w fun u w' => u = .agg (secR (laidS r)).toArray ∧ Keep All w w' := by
  have hlen := encR_len r
  refine enter (fn := Try.f13) (n := 27) Try.func13 rfl rfl (by simp) ?_
  refine W_seq ?_
  refine W_region ?_
  refine o_box rfl rfl rfl ?_; intro w1 b1 e1 hB1 hk1 hs1
  refine o_alloc rfl rfl rfl ?_; intro w2 b2 e2 hB2 hk2 hs2
  have hB2 : Blk w2 b2 (List.replicate 64 (c8 0)) 28 := hB2
  refine ops_nil ?_
  refine W_seq ?_
  refine W_region ?_
  refine o_bs1 (v := c8 1) rfl rfl rfl rfl rfl rfl ?_; intro w3 b3 e3 hB3 hk3 hs3
  have hown3 : OwnB w3 5 (.slice (some ⟨b3, 0, none⟩) 1 1) [1] := Own.blk (n := 1) (l := [c8 1]) hB3 rfl (by unfold maxLen; decide)
  refine op_run (r_loadA (refR r) rfl rfl rfl (by first | rfl | (rw [dgR_len]; rfl) | (rw [refR_len]; rfl) | (rw [secR_len]; rfl) | (rw [List.length_map, tagF_len]; rfl)) ((hk3.blk' (hk2.blk' hB1 trivial) trivial).all)) rfl ?_
  refine op_call rfl rfl rfl (rf07_Put w3 _ [1] r hown3 (by decide)) ?_; rintro v5 w5 ⟨hown5, hk5, hb5⟩
  obtain ⟨a5, c5, rfl, hc5, hcm5⟩ := hown5.form
  have hl : ([1] ++ encR r).length = (encR r).length + 1 := by simp
  have hz2 := hk2.size
  have hz3 := hk3.size
  have hz5 := hk5.size
  have hkA : Keep All w w5 := ((hk1.trans hk2).trans hk3).new (b := b3) (hk5.mono fun k _ h e => h (Option.some.inj e)) (by have := hk1.size; omega)
  have hB2' : Blk w5 b2 (List.replicate 64 (c8 0)) 28 := hk5.blk' (hk3.blk' hB2 trivial) (fun e => by injection e with e; have e : b2 = b3 := e; omega)
  refine o_ast rfl ?_
  refine ops_nil ?_
  refine W_seq ?_
  refine W_region ?_
  refine op_run (r_buildA ((List.replicate 64 (c8 0))) (_) ([]) rfl rfl rfl rfl rfl (rfl)) rfl ?_
  refine o_alloc rfl rfl rfl ?_; intro w7 b7 e7 hB7 hk7 hs7
  refine o_storeA (cs := List.replicate 64 (c8 0)) rfl rfl (by first | rfl | exact dgR_one _ | exact refR_one _ | exact secR_one _ | exact all_c8 _) (by first | rfl | (rw [dgR_len]; rfl) | (rw [refR_len]; rfl) | (rw [secR_len]; rfl) | (rw [List.length_map, tagF_len]; rfl)) hB7 (by exact Nat.le_refl _) rfl ?_; intro w8 hB8 hk8 hs8
  have hB8 : Blk w8 b7 (List.replicate 64 (c8 0)) 28 := hB8
  have hsl8 : By w8 (.slice a5 ([1] ++ encR r).length c5) ([1] ++ encR r) := (hown5.by_.keep hk7 (fun _ _ => trivial)).keep hk8 (fun b hb e => by have := hown5.lt b hb; omega)
  refine ops_nil ?_
  refine W_seq ?_
  refine W_seq ?_
  refine W_region ?_
  refine o_asc rfl ?_
  refine ops_nil ?_
  refine W_block ?_
  refine W_loop [5] [5, 10, 11, 12, 13, 14, 15, 16, 17, 18, 19, 20, 21, 22, 23, 24, 25] (fun vs w' => ∃ (k : Nat), vs = [.int .i64 k] ∧ k ≤ ([1] ++ encR r).length ∧ Blk w' b7 (((([1] ++ encR r).take k).map c8) ++ List.replicate (64 - k) (c8 0)) 28 ∧ Keep (· ≠ b7) w7 w') (fun vs _ => match vs with | [.int _ k] => 64 - k.toNat | _ => 0) ⟨0, rfl, by omega, hB8, hk8⟩ ?_
  rintro J9 vs w9 ⟨k, rfl, hk, hB9, hk9⟩ -
  refine W_seq ?_
  refine W_cut [17] [10, 11, 12, 13, 14, 15, 16, 17] (fun vs w10 => vs = [.bool (decide (k < ([1] ++ encR r).length))] ∧ w10 = w9) ?_ ?_
  · refine W_region ?_
    refine o_mvt rfl ?_
    refine o_mvt rfl ?_
    refine op_run (r_len rfl rfl rfl) rfl ?_
    refine op_run (r_lss rfl rfl) rfl ?_
    refine o_mvt rfl ?_
    refine g_split rfl rfl rfl (fun g11 => ?_) (fun g11 => ?_)
    · refine o_mvt (g_yes rfl rfl rfl g11) ?_
      refine op_run (r_lss rfl rfl) (g_yes rfl rfl rfl g11) ?_
      refine o_pkTt rfl g11 rfl ?_
      refine ops_nil ?_
      exact ⟨by (repeat (first | with_reducible exact offM_refl _ _ | refine offM_updc rfl ?_ | refine offM_upd rfl ?_ | refine offM_updo rfl ?_ | refine offM_updo_none ?_ | refine offM_head rfl rfl ?_)), congrArg (fun b => [Value.bool b]) (by have g11 := of_decide_eq_true g11; rw [decide_eq_decide]; omega), rfl⟩
    · refine op_skip (g_no rfl rfl rfl g11) ?_
      refine op_skip (g_no rfl rfl rfl g11) ?_
      refine o_pkFc rfl g11 rfl ?_
      refine ops_nil ?_
      exact ⟨by (repeat (first | with_reducible exact offM_refl _ _ | refine offM_updc rfl ?_ | refine offM_upd rfl ?_ | refine offM_updo rfl ?_ | refine offM_updo_none ?_ | refine offM_head rfl rfl ?_)), congrArg (fun b => [Value.bool b]) (by have g11 := of_decide_eq_false g11; symm; apply decide_eq_false; omega), rfl⟩
  · rintro J14 vs w14 ⟨rfl, rfl⟩ -
    refine W_cond_p rfl (fun h15 => ?_) (fun h15 => ?_)
    · refine W_skip ?_
      refine W_seq ?_
      refine W_block ?_
      refine W_region ?_
      refine o_mvt rfl ?_
      refine o_mvt rfl ?_
      refine o_mvt rfl ?_
      have hinck := inc64' k (by omega)
      have hsl9 : By w14 (.slice a5 ([1] ++ encR r).length c5) ([1] ++ encR r) := (hown5.by_.keep hk7 (fun _ _ => trivial)).keep hk9 (fun b hb e => by have := hown5.lt b hb; omega)
      obtain ⟨bA, oA, cA, eA, _, _, hcA⟩ := hsl9.at (by omega)
      injection eA with eA1 eA2 eA3
      subst eA1; subst eA3
      refine op_run (r_idxS1 rfl rfl rfl rfl (by omega) (by omega)) rfl ?_
      refine op_run (r_load rfl rfl rfl (hcA k _ (get_c8 (by omega)))) rfl ?_
      refine op_run (r_idxA1 rfl rfl rfl rfl (by omega) (by omega)) rfl ?_
      refine o_store (v := c8 ([1] ++ encR r)[k]) rfl rfl rfl rfl hB9 (by rw [List.length_append, List.length_map, List.length_take, List.length_replicate]; omega) rfl ?_; intro w19 hB19 hk19 hs19
      refine ops_nil ?_
      refine W_region ?_
      refine o_mvt rfl ?_
      refine op_run (r_add rfl rfl) rfl ?_
      refine o_ast rfl ?_
      refine ops_nil ?_
      have hB19 : Blk w19 b7 ((((([1] ++ encR r).take k).map c8) ++ List.replicate (64 - k) (c8 0)).set k (c8 ([1] ++ encR r)[k])) 28 := by have h := hB19; simpa only [Nat.zero_add, Int.toNat_natCast] using h
      have hset : (((([1] ++ encR r).take k).map c8) ++ List.replicate (64 - k) (c8 0)).set k (c8 ([1] ++ encR r)[k]) = ((([1] ++ encR r).take (k + 1)).map c8) ++ List.replicate (64 - (k + 1)) (c8 0) := by
        have hlk : ((([1] ++ encR r).take k).map c8).length = k := by rw [List.length_map, List.length_take]; omega
        rw [List.set_append_right _ _ (by rw [hlk]; exact Nat.le_refl _), hlk, Nat.sub_self, show 64 - k = (64 - (k + 1)) + 1 by omega, List.replicate_succ, List.set_cons_zero, List.take_succ_eq_append_getElem (by omega), List.map_append, List.append_assoc]
        rfl
      rw [hset] at hB19
      refine ⟨by (repeat (first | with_reducible exact offM_refl _ _ | refine offM_updc rfl ?_ | refine offM_upd rfl ?_ | refine offM_updo rfl ?_ | refine offM_updo_none ?_ | refine offM_head rfl rfl ?_)), ⟨k + 1, ?_, by omega, hB19, hk9.trans hk19⟩, ?_⟩
      · rw [← hinck]; rfl
      · show 64 - (IntKind.i64.wrap ((k : Int) + 1)).toNat < 64 - (k : Int).toNat
        rw [hinck]; omega
    · refine W_exit ?_
      refine W_seq ?_
      refine W_region ?_
      have hkp : k = ([1] ++ encR r).length := by omega
      subst hkp
      rw [List.take_length] at hB9
      have hB9 : Blk w14 b7 (secR (laidS r)) 28 := by
        have e : secR (laidS r) = ([1] ++ encR r).map c8 ++ List.replicate (64 - ([1] ++ encR r).length) (c8 0) := by
          rw [hl]; unfold secR laidS laidB
          simp [show 64 - ((encR r).length + 1) = 63 - (encR r).length by omega]
        rw [e]; exact hB9
      refine op_run (r_loadA (secR (laidS r)) rfl rfl rfl (by first | rfl | (rw [dgR_len]; rfl) | (rw [refR_len]; rfl) | (rw [secR_len]; rfl) | (rw [List.length_map, tagF_len]; rfl)) (hB9.all)) rfl ?_
      refine o_storeA (cs := secR (laidS r)) rfl rfl (by first | rfl | exact dgR_one _ | exact refR_one _ | exact secR_one _ | exact all_c8 _) (by first | rfl | (rw [dgR_len]; rfl) | (rw [refR_len]; rfl) | (rw [secR_len]; rfl) | (rw [List.length_map, tagF_len]; rfl)) (hk9.blk' (hk7.blk' hB2' trivial) (show b2 ≠ b7 by have := hB2'.lt; omega)) (by exact Nat.le_of_eq (by simp [secR_len])) rfl ?_; intro w22 hB22 hk22 hs22
      rw [splice_all (by simp [secR_len])] at hB22
      refine ops_nil ?_
      refine W_ret ?_
      refine retA (secR (laidS r)) rfl rfl rfl rfl (by first | rfl | (rw [dgR_len]; rfl) | (rw [refR_len]; rfl) | (rw [secR_len]; rfl) | (rw [List.length_map, tagF_len]; rfl)) hB22.all ?_
      exact ⟨rfl, ((hkA.trans hk7).new hk9 (by have := hkA.size; omega)).new hk22 (by have := hk1.size; omega)⟩
end Go.Proofs.Ytcbbodjcgjbfaaa.B
