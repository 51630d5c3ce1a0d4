/-
  The document's slots: what a sector tells.
-/
import Derived.Test.YtcbbodjcgjbfaaaRef14b
namespace Go.Proofs.Ytcbbodjcgjbfaaa.B
open Go
set_option linter.unusedVariables false
set_option maxHeartbeats 2000000
set_option maxRecDepth 100000
attribute [local irreducible] W OpsW OpsQ retP
theorem rf14_number' (w : World) (s : Sec) (pos : Nat) (hp : pos ≤ 64) : Ret Try.prog 17 [.agg (secR s).toArray, .int .i64 pos].toArray w fun u w' =>
    ∃ (n : Int) (e : Nat), u = .tuple #[.int .i64 n, .int .i64 e] ∧ e ≤ 64 ∧ ((∃ v : Nat, n = v ∧ numS 4 true pos 0 1 (s.val.drop pos) = some (v, e)) ∨ (n = -1 ∧ numS 4 true pos 0 1 (s.val.drop pos) = none)) ∧ Keep All w w' := by
  refine (rf14_number w s pos hp).mono fun r w' ⟨u, hr, hu⟩ => ⟨u, hr, ?_⟩
  obtain ⟨⟨e, he, h⟩, hk⟩ := hu
  rcases h with ⟨v, h1, h2⟩ | ⟨h1, h2⟩
  · exact ⟨v, e, h2, he, .inl ⟨v, rfl, h1⟩, hk⟩
  · exact ⟨-1, e, h2, he, .inr ⟨rfl, h1⟩, hk⟩
/-- A sector's digest. -/
def digS (s : Sec) : Dig := ⟨(s.val.drop 1).take 32, by have := s.2; rw [List.length_take, List.length_drop]; omega⟩
theorem rtold_x {s : Sec} {x0 : UInt8} (h0 : s.val[0]? = some x0) (h : x0 ≠ 1) : rtold s.val = none := by
  unfold rtold
  rw [if_pos]
  rw [List.getD_eq_getElem?_getD, h0]; exact h
theorem rtold_n {s : Sec} (h : numS 4 true 33 0 1 (s.val.drop 33) = none) : rtold s.val = none := by
  unfold rtold
  rw [h]; split <;> rfl
theorem rtold_m {s : Sec} {n e : Nat} (h : numS 4 true 33 0 1 (s.val.drop 33) = some (n, e)) (h2 : numS 4 true e 0 1 (s.val.drop e) = none) : rtold s.val = none := by
  unfold rtold
  rw [h]; simp only; rw [h2]; split <;> rfl
theorem rtold_nm {s : Sec} {n e m e2 : Nat} (h0 : s.val[0]? = some 1) (h : numS 4 true 33 0 1 (s.val.drop 33) = some (n, e)) (h2 : numS 4 true e 0 1 (s.val.drop e) = some (m, e2)) :
    rtold s.val = if (Rf.mk (digS s) n m).may ∧ (∀ x ∈ s.val.drop e2, x = 0) then some ⟨digS s, n, m⟩ else none := by
  unfold rtold
  rw [if_neg (by rw [List.getD_eq_getElem?_getD, h0]; simp), h]; simp only; rw [h2]; simp only
  exact dif_pos (digS s).2

theorem rf14_Told (w : World) (s : Sec) : Ret Try.prog 8 [.agg (secR s).toArray].toArray w fun u w' => u = optR (told s.val) ∧ Keep All w w' := by
  have hl := s.2
  rw [← rtold_eq hl]
  obtain ⟨x0, hx0⟩ : ∃ x, s.val[0]? = some x := ⟨_, List.getElem?_eq_getElem (by omega)⟩
  refine enter (fn := Try.f8) (n := 57) Try.func8 rfl rfl (by simp) ?_
  refine W_seq ?_
  refine W_region ?_
  refine o_box rfl rfl rfl ?_; intro w1 b1 e1 hB1 hk1 hs1
  refine o_alloc rfl rfl rfl ?_; intro w2 b2 e2 hB2 hk2 hs2
  have hB2 : Blk w2 b2 (refR Rf.zero) 26 := by rw [refR_zero]; exact hB2
  have hB1' : Blk w2 b1 (secR s) 28 := hk2.blk' hB1 trivial
  refine o_asc rfl ?_
  refine ops_nil ?_
  refine W_seq ?_
  refine W_seq ?_
  refine W_region ?_
  refine op_run (r_idxA1 rfl rfl rfl rfl (by omega) (by omega)) rfl ?_
  refine op_run (r_load rfl rfl rfl (hB1'.cell (v := c8 x0) (by unfold secR; rw [List.getElem?_map]; show (s.val[0]?).map c8 = _; rw [hx0]; rfl))) rfl ?_
  refine op_run (r_neq rfl rfl) rfl ?_
  refine ops_nil ?_
  refine W_cond_p rfl (fun h5 => ?_) (fun h5 => ?_)
  · refine W_seq ?_
    refine W_region ?_
    refine op_run (r_build ((refR Rf.zero)) (_) ([]) rfl rfl rfl rfl rfl (by rw [refR_zero]; rfl)) rfl ?_
    refine o_storeA (cs := refR Rf.zero) rfl rfl (by first | rfl | exact dgR_one _ | exact refR_one _ | exact secR_one _ | exact all_c8 _) (by first | rfl | (rw [dgR_len]; rfl) | (rw [refR_len]; rfl) | (rw [secR_len]; rfl) | (rw [List.length_map, tagF_len]; rfl)) hB2 (by exact Nat.le_of_eq (by simp [refR_len])) rfl ?_; intro w7 hB7 hk7 hs7
    rw [splice_all (by simp [refR_len])] at hB7
    refine o_asc rfl ?_
    refine ops_nil ?_
    refine W_ret ?_
    refine retAT (refR Rf.zero) (.bool false) rfl rfl rfl rfl rfl (by first | rfl | (rw [dgR_len]; rfl) | (rw [refR_len]; rfl) | (rw [secR_len]; rfl) | (rw [List.length_map, tagF_len]; rfl)) (hB7.all) ?_
    rw [rtold_x hx0 (fun e => h5 (by rw [e]; rfl))]
    exact ⟨rfl, (hk1.trans hk2).new hk7 (by have := hk1.size; omega)⟩
  · refine W_skip ?_
    refine W_seq ?_
    refine W_region ?_
    have hx1 : x0 = 1 := UInt8.toNat_inj.1 (by have := Decidable.not_not.1 h5; exact_mod_cast this)
    subst hx1
    refine op_run (r_build ((refR Rf.zero)) (_) ([]) rfl rfl rfl rfl rfl (by rw [refR_zero]; rfl)) rfl ?_
    refine o_alloc rfl rfl rfl ?_; intro w10 b10 e10 hB10 hk10 hs10
    refine o_storeA (cs := refR Rf.zero) rfl rfl (by first | rfl | exact dgR_one _ | exact refR_one _ | exact secR_one _ | exact all_c8 _) (by first | rfl | (rw [dgR_len]; rfl) | (rw [refR_len]; rfl) | (rw [secR_len]; rfl) | (rw [List.length_map, tagF_len]; rfl)) hB10 (by exact Nat.le_of_eq (by simp [refR_len])) rfl ?_; intro w11 hB11 hk11 hs11
    rw [splice_all (by simp [refR_len])] at hB11
    rw [refR_zero] at hB11
    have hz1 := hk1.size
    have hz2 := hk2.size
    have hz10 := hk10.size
    have hB1 : Blk w11 b1 (secR s) 28 := hk11.blk' (hk10.blk' hB1' trivial) (show b1 ≠ b10 by omega)
    have hB2 : Blk w11 b2 (refR Rf.zero) 26 := hk11.blk' (hk10.blk' hB2 trivial) (show b2 ≠ b10 by omega)
    have hkw : Keep All w w11 := ((hk1.trans hk2).trans hk10).new hk11 (by omega)
    refine ops_nil ?_
    refine W_seq ?_
    refine W_seq ?_
    refine W_region ?_
    refine o_asc rfl ?_
    refine ops_nil ?_
    refine W_block ?_
    refine W_loop [5] [5, 16, 17, 18, 19, 20, 21, 22, 23, 24, 25, 26] (fun vs w' => ∃ (k : Nat), vs = [.int .i64 k] ∧ k ≤ 32 ∧ Blk w' b10 ((((s.val.drop 1).take k).map c8) ++ (List.replicate (32 - k) (c8 0) ++ [Value.int .i64 0, Value.int .i64 0])) 26 ∧ Keep (· ≠ b10) w11 w') (fun vs _ => match vs with | [.int _ k] => 32 - k.toNat | _ => 0) ⟨0, rfl, by omega, hB11, Keep.refl _⟩ ?_
    rintro J12 vs w12 ⟨k, rfl, hk, hB12, hk12⟩ -
    refine W_seq ?_
    refine W_seq ?_
    refine W_region ?_
    refine o_mvt rfl ?_
    refine op_run (r_lss rfl rfl) rfl ?_
    refine ops_nil ?_
    refine W_cond_p rfl (fun h13 => ?_) (fun h13 => ?_)
    · refine W_skip ?_
      refine W_seq ?_
      refine W_block ?_
      refine W_region ?_
      refine o_mvt rfl ?_
      refine o_mvt rfl ?_
      refine op_run ((r_add rfl rfl).val (congrArg (Value.int .i64) ((wrap_i64 (n := 1 + (k : Int)) (by omega) (by omega)).trans (show 1 + (k : Int) = ((k + 1 : Nat) : Int) by omega)))) rfl ?_
      have hinck := inc64' k (by omega)
      have hkl : k < 32 := by omega
      obtain ⟨x, hx⟩ : ∃ x, s.val[k + 1]? = some x := ⟨_, List.getElem?_eq_getElem (by omega)⟩
      have hB1k := hk12.blk' hB1 (show b1 ≠ b10 by omega)
      refine op_run (r_idxA1 rfl rfl rfl rfl (by omega) (by omega)) rfl ?_
      refine op_run (r_load rfl rfl rfl (by rw [Int.toNat_natCast, Nat.zero_add]; exact hB1k.cell (v := c8 x) (by unfold secR; rw [List.getElem?_map, hx]; rfl))) rfl ?_
      refine op_run (r_fieldAddr rfl rfl rfl rfl rfl) rfl ?_
      refine op_run (r_idxA1 rfl rfl rfl rfl (by omega) (by omega)) rfl ?_
      refine o_store (v := c8 x) rfl rfl rfl rfl hB12 (by rw [List.length_append, List.length_append, List.length_map, List.length_take, List.length_drop, List.length_replicate]; show 0 + 0 + (Int.toNat (k : Int)) < _ + (_ + 2); rw [Int.toNat_natCast]; omega) rfl ?_; intro w17 hB17 hk17 hs17
      refine ops_nil ?_
      refine W_region ?_
      refine o_mvt rfl ?_
      refine op_run (r_add rfl rfl) rfl ?_
      refine o_ast rfl ?_
      refine ops_nil ?_
      have hlk : (((s.val.drop 1).take k).map c8).length = k := by rw [List.length_map, List.length_take, List.length_drop]; omega
      have hdx : (s.val.drop 1)[k]? = some x := by rw [List.getElem?_drop, Nat.add_comm]; exact hx
      have hB17 : Blk w17 b10 (((((s.val.drop 1).take k).map c8) ++ (List.replicate (32 - k) (c8 0) ++ [Value.int .i64 0, Value.int .i64 0])).set k (c8 x)) 26 := by
        have h : Blk w17 b10 (((((s.val.drop 1).take k).map c8) ++ (List.replicate (32 - k) (c8 0) ++ [Value.int .i64 0, Value.int .i64 0])).set (0 + k) (c8 x)) 26 := hB17
        rwa [Nat.zero_add] at h
      have hset : ((((s.val.drop 1).take k).map c8) ++ (List.replicate (32 - k) (c8 0) ++ [Value.int .i64 0, .int .i64 0])).set k (c8 x) = (((s.val.drop 1).take (k + 1)).map c8) ++ (List.replicate (32 - (k + 1)) (c8 0) ++ [Value.int .i64 0, .int .i64 0]) := by
        obtain ⟨hd1, hd2⟩ := List.getElem?_eq_some_iff.1 hdx
        rw [List.set_append_right _ _ (by rw [hlk]; exact Nat.le_refl _), hlk, Nat.sub_self, show 32 - k = (32 - (k + 1)) + 1 by omega, List.replicate_succ, List.cons_append, List.set_cons_zero, List.take_succ_eq_append_getElem hd1, hd2, List.map_append, List.append_assoc]
        rfl
      rw [hset] at hB17
      refine ⟨by (repeat (first | with_reducible exact offM_refl _ _ | refine offM_updc rfl ?_ | refine offM_upd rfl ?_ | refine offM_updo rfl ?_ | refine offM_updo_none ?_ | refine offM_head rfl rfl ?_)), ⟨k + 1, ?_, by omega, hB17, hk12.trans hk17⟩, ?_⟩
      · rw [← hinck]; rfl
      · show 32 - (IntKind.i64.wrap ((k : Int) + 1)).toNat < 32 - (k : Int).toNat
        rw [hinck]; omega
    · refine W_exit ?_
      refine W_seq ?_
      refine W_region ?_
      have hkp : k = 32 := by omega
      subst hkp
      have hB12 : Blk w12 b10 (refR ⟨digS s, 0, 0⟩) 26 := hB12
      have hB1k := hk12.blk' hB1 (show b1 ≠ b10 by omega)
      have hB2k := hk12.blk' hB2 (show b2 ≠ b10 by omega)
      refine op_run (r_loadA (secR s) rfl rfl rfl (by first | rfl | (rw [dgR_len]; rfl) | (rw [refR_len]; rfl) | (rw [secR_len]; rfl) | (rw [List.length_map, tagF_len]; rfl)) (hB1k.all)) rfl ?_
      refine op_call rfl rfl rfl (rf14_number' w12 s 33 (by decide)) ?_; rintro v20 w20 ⟨n, e, rfl, he, hnum, hk20⟩
      refine o_mvt rfl ?_
      refine op_run (r_extract rfl rfl) rfl ?_
      refine op_run (r_extract rfl rfl) rfl ?_
      refine o_ast rfl ?_
      refine o_ast rfl ?_
      refine ops_nil ?_
      refine W_seq ?_
      refine W_region ?_
      refine op_run (r_loadA (secR s) rfl rfl rfl (by first | rfl | (rw [dgR_len]; rfl) | (rw [refR_len]; rfl) | (rw [secR_len]; rfl) | (rw [List.length_map, tagF_len]; rfl)) ((hk20.blk' hB1k trivial).all)) rfl ?_
      refine o_mvt rfl ?_
      refine op_call rfl rfl rfl (rf14_number' w20 s e he) ?_; rintro v22 w22 ⟨m, e3, rfl, he3, hnum2, hk22⟩
      refine o_mvt rfl ?_
      refine op_run (r_extract rfl rfl) rfl ?_
      refine op_run (r_extract rfl rfl) rfl ?_
      refine o_ast rfl ?_
      refine o_ast rfl ?_
      refine ops_nil ?_
      refine W_seq ?_
      refine W_region ?_
      refine o_mvt rfl ?_
      refine op_run (r_fieldAddr rfl rfl rfl rfl rfl) rfl ?_
      refine o_store (v := .int .i64 n) rfl rfl rfl rfl (hk22.blk' (hk20.blk' hB12 trivial) trivial) (by rw [refR_len]; decide) rfl ?_; intro w23 hB23 hk23 hs23
      have hB23 : Blk w23 b10 ((refR ⟨digS s, 0, 0⟩).set 32 (.int .i64 n)) 26 := hB23
      rw [refR_set32] at hB23
      refine ops_nil ?_
      refine W_seq ?_
      refine W_region ?_
      refine o_mvt rfl ?_
      refine op_run (r_fieldAddr rfl rfl rfl rfl rfl) rfl ?_
      refine o_store (v := .int .i64 m) rfl rfl rfl rfl hB23 (by rw [refR_len]; decide) rfl ?_; intro w24 hB24 hk24 hs24
      have hB24 : Blk w24 b10 ((refR ⟨digS s, n, 0⟩).set 33 (.int .i64 m)) 26 := hB24
      rw [refR_set33] at hB24
      have hk2024 : Keep (· ≠ b10) w12 w24 := ((hk20.all.trans hk22.all).trans hk23).trans hk24
      have hkw24 : Keep All w w24 := (hkw.new hk12 (by omega)).new hk2024 (by omega)
      have hB1z := hk2024.blk' hB1k (show b1 ≠ b10 by omega)
      have hB2z := hk2024.blk' hB2k (show b2 ≠ b10 by omega)
      refine ops_nil ?_
      refine W_seq ?_
      refine W_seq ?_
      refine W_region ?_
      refine op_run (r_loadA (refR ⟨digS s, n, m⟩) rfl rfl rfl (by first | rfl | (rw [dgR_len]; rfl) | (rw [refR_len]; rfl) | (rw [secR_len]; rfl) | (rw [List.length_map, tagF_len]; rfl)) (hB24.all)) rfl ?_
      refine op_call rfl rfl rfl (rf14_May w24 ⟨digS s, n, m⟩) ?_; rintro v26 w26 ⟨rfl, hk26⟩
      refine op_run (r_not rfl) rfl ?_
      refine ops_nil ?_
      refine W_cond rfl (fun h27 => ?_) (fun h27 => ?_)
      · refine W_seq ?_
        refine W_region ?_
        refine op_run (r_build ((refR Rf.zero)) (_) ([]) rfl rfl rfl rfl rfl (by rw [refR_zero]; rfl)) rfl ?_
        refine o_storeA (cs := refR Rf.zero) rfl rfl (by first | rfl | exact dgR_one _ | exact refR_one _ | exact secR_one _ | exact all_c8 _) (by first | rfl | (rw [dgR_len]; rfl) | (rw [refR_len]; rfl) | (rw [secR_len]; rfl) | (rw [List.length_map, tagF_len]; rfl)) (hk26.blk' hB2z trivial) (by exact Nat.le_of_eq (by simp [refR_len])) rfl ?_; intro w29 hB29 hk29 hs29
        rw [splice_all (by simp [refR_len])] at hB29
        refine o_asc rfl ?_
        refine ops_nil ?_
        refine W_ret ?_
        refine retAT (refR Rf.zero) (.bool false) rfl rfl rfl rfl rfl (by first | rfl | (rw [dgR_len]; rfl) | (rw [refR_len]; rfl) | (rw [secR_len]; rfl) | (rw [List.length_map, tagF_len]; rfl)) (hB29.all) ?_
        have hmay : ¬ (Rf.mk (digS s) n m).may := by have h : (!decide ((Rf.mk (digS s) n m).may)) = true := h27; simpa using h
        have hnone : rtold s.val = none := by
          rcases hnum with ⟨v, rfl, h1⟩ | ⟨_, h1⟩
          · rcases hnum2 with ⟨v2, rfl, h2⟩ | ⟨_, h2⟩
            · rw [rtold_nm hx0 h1 h2, if_neg (fun h => hmay h.1)]
            · exact rtold_m h1 h2
          · exact rtold_n h1
        rw [hnone]
        exact ⟨rfl, (hkw24.trans hk26).new hk29 (by omega)⟩
      · refine W_skip ?_
        refine W_seq ?_
        refine W_seq ?_
        refine W_region ?_
        refine o_mvt rfl ?_
        refine o_ast rfl ?_
        refine ops_nil ?_
        refine W_block ?_
        have hmay : (Rf.mk (digS s) n m).may := by have h : (!decide ((Rf.mk (digS s) n m).may)) = false := h27; simpa using h
        obtain ⟨v, rfl, h1⟩ : ∃ v : Nat, n = v ∧ numS 4 true 33 0 1 (s.val.drop 33) = some (v, e) := hnum.resolve_right fun h => by have h1 : 0 ≤ n := hmay.1; omega
        obtain ⟨v2, rfl, h2⟩ : ∃ v : Nat, m = v ∧ numS 4 true e 0 1 (s.val.drop e) = some (v, e3) := hnum2.resolve_right fun h => by have h1 : 0 ≤ m := hmay.2.2.1; omega
        have hrt := rtold_nm hx0 h1 h2
        have hB1y := hk26.blk' hB1z trivial
        have hB2y := hk26.blk' hB2z trivial
        have hB24y := hk26.blk' hB24 trivial
        have hkw26 := hkw24.trans hk26
        refine W_loop [10] [3, 10, 47, 48, 49, 50, 51, 52, 53, 54, 55] (fun vs w' => ∃ i : Nat, vs = [.int .i64 i] ∧ e3 ≤ i ∧ i ≤ 64 ∧ (∀ j, e3 ≤ j → j < i → s.val[j]? = some 0) ∧ w' = w26) (fun vs _ => match vs with | [.int _ k] => 64 - k.toNat | _ => 0) ⟨e3, rfl, Nat.le_refl _, he3, (fun j h1 h2 => by omega), rfl⟩ ?_
        rintro J31 vs w31 ⟨i, rfl, hi1, hi2, hzero, rfl⟩ -
        refine W_seq ?_
        refine W_seq ?_
        refine W_region ?_
        refine o_mvt rfl ?_
        refine op_run (r_lss rfl rfl) rfl ?_
        refine ops_nil ?_
        refine W_cond_p rfl (fun h32 => ?_) (fun h32 => ?_)
        · refine W_skip ?_
          refine W_seq ?_
          refine W_block ?_
          refine W_seq ?_
          refine W_region ?_
          refine o_mvt rfl ?_
          have hi64 : i < 64 := by omega
          have hinck := inc64' i (by omega)
          obtain ⟨x, hx⟩ : ∃ x, s.val[i]? = some x := ⟨_, List.getElem?_eq_getElem (by omega)⟩
          refine op_run (r_idxA1 rfl rfl rfl rfl (by omega) (by omega)) rfl ?_
          refine op_run (r_load rfl rfl rfl (by rw [Int.toNat_natCast, Nat.zero_add]; exact hB1y.cell (v := c8 x) (by unfold secR; rw [List.getElem?_map, hx]; rfl))) rfl ?_
          refine op_run (r_neq rfl rfl) rfl ?_
          refine ops_nil ?_
          refine W_cond_p rfl (fun h35 => ?_) (fun h35 => ?_)
          · refine W_seq ?_
            refine W_region ?_
            refine op_run (r_build ((refR Rf.zero)) (_) ([]) rfl rfl rfl rfl rfl (by rw [refR_zero]; rfl)) rfl ?_
            refine o_storeA (cs := refR Rf.zero) rfl rfl (by first | rfl | exact dgR_one _ | exact refR_one _ | exact secR_one _ | exact all_c8 _) (by first | rfl | (rw [dgR_len]; rfl) | (rw [refR_len]; rfl) | (rw [secR_len]; rfl) | (rw [List.length_map, tagF_len]; rfl)) hB2y (by exact Nat.le_of_eq (by simp [refR_len])) rfl ?_; intro w37 hB37 hk37 hs37
            rw [splice_all (by simp [refR_len])] at hB37
            refine o_asc rfl ?_
            refine ops_nil ?_
            refine W_ret ?_
            refine retAT (refR Rf.zero) (.bool false) rfl rfl rfl rfl rfl (by first | rfl | (rw [dgR_len]; rfl) | (rw [refR_len]; rfl) | (rw [secR_len]; rfl) | (rw [List.length_map, tagF_len]; rfl)) (hB37.all) ?_
            rw [hrt, if_neg]
            · exact ⟨rfl, hkw26.new hk37 (by omega)⟩
            · rintro ⟨_, hz⟩
              have hm : x ∈ s.val.drop e3 := by
                refine List.mem_of_getElem? (i := i - e3) ?_
                rw [List.getElem?_drop, show e3 + (i - e3) = i by omega]; exact hx
              exact h35 (by rw [hz x hm]; rfl)
          · refine W_skip ?_
            refine W_region ?_
            refine o_mvt rfl ?_
            refine op_run (r_add rfl rfl) rfl ?_
            refine o_ast rfl ?_
            refine ops_nil ?_
            have hx0' : x = 0 := UInt8.toNat_inj.1 (by have := Decidable.not_not.1 h35; exact_mod_cast this)
            subst hx0'
            refine ⟨by (repeat (first | with_reducible exact offM_refl _ _ | refine offM_updc rfl ?_ | refine offM_upd rfl ?_ | refine offM_updo rfl ?_ | refine offM_updo_none ?_ | refine offM_head rfl rfl ?_)), ⟨i + 1, ?_, by omega, by omega, fun j h1 h2 => ?_, rfl⟩, ?_⟩
            · rw [← hinck]; rfl
            · rcases Nat.lt_or_ge j i with h3 | h3
              · exact hzero j h1 h3
              · obtain rfl : j = i := by omega
                exact hx
            · show 64 - (IntKind.i64.wrap ((i : Int) + 1)).toNat < 64 - (i : Int).toNat
              rw [hinck]; omega
        · refine W_exit ?_
          refine W_seq ?_
          refine W_region ?_
          have hip : i = 64 := by omega
          subst hip
          refine op_run (r_loadA (refR ⟨digS s, v, v2⟩) rfl rfl rfl (by first | rfl | (rw [dgR_len]; rfl) | (rw [refR_len]; rfl) | (rw [secR_len]; rfl) | (rw [List.length_map, tagF_len]; rfl)) (hB24y.all)) rfl ?_
          refine o_storeA (cs := refR ⟨digS s, v, v2⟩) rfl rfl (by first | rfl | exact dgR_one _ | exact refR_one _ | exact secR_one _ | exact all_c8 _) (by first | rfl | (rw [dgR_len]; rfl) | (rw [refR_len]; rfl) | (rw [secR_len]; rfl) | (rw [List.length_map, tagF_len]; rfl)) hB2y (by exact Nat.le_of_eq (by simp [refR_len])) rfl ?_; intro w41 hB41 hk41 hs41
          rw [splice_all (by simp [refR_len])] at hB41
          refine o_asc rfl ?_
          refine ops_nil ?_
          refine W_ret ?_
          refine retAT (refR ⟨digS s, v, v2⟩) (.bool true) rfl rfl rfl rfl rfl (by first | rfl | (rw [dgR_len]; rfl) | (rw [refR_len]; rfl) | (rw [secR_len]; rfl) | (rw [List.length_map, tagF_len]; rfl)) (hB41.all) ?_
          rw [hrt, if_pos]
          · exact ⟨rfl, hkw26.new hk41 (by omega)⟩
          · refine ⟨hmay, fun x hx => ?_⟩
            obtain ⟨j, hj⟩ := List.getElem?_of_mem hx
            have hjl := (List.getElem?_eq_some_iff.1 hj).1
            rw [List.length_drop] at hjl
            rw [List.getElem?_drop, hzero (e3 + j) (by omega) (by omega)] at hj
            injection hj with hj; exact hj.symm
end Go.Proofs.Ytcbbodjcgjbfaaa.B
