/-
  A disk: Set; as it is seen.
-/
import Derived.Test.YtigehkfdfecfoaaDisk7
namespace Go.Proofs.Ytigehkfdfecfoaa.B
open Go
set_option linter.unusedVariables false
set_option maxHeartbeats 2000000
set_option maxRecDepth 100000
attribute [local irreducible] W OpsW OpsQ retP
theorem seen_filter (p : Nat) (s : Sec) : ∀ (T : List (Nat × Sec)) (L : List Sec), seen (L.set p s) (T.filter fun x => !decide ((x.1 : Int) = (p : Int))) = (seen L T).set p s
  | [], L => rfl
  | x :: T, L => by
    by_cases h : x.1 = p
    · have h' : decide ((x.1 : Int) = (p : Int)) = true := decide_eq_true (by omega)
      rw [List.filter_cons, h']
      simp only [Bool.not_true, Bool.false_eq_true, if_false]
      have := seen_filter p s T (L.set p x.2)
      rw [List.set_set] at this
      rw [this]; subst h; rfl
    · have h' : decide ((x.1 : Int) = (p : Int)) = false := decide_eq_false (by omega)
      rw [List.filter_cons, h']
      simp only [Bool.not_false, if_true]
      show seen ((L.set p s).set x.1 x.2) _ = (seen (L.set x.1 x.2) T).set p s
      rw [List.set_comm _ _ (fun e => h e.symm)]
      exact seen_filter p s T (L.set x.1 x.2)
theorem dk_Set (w : World) (b : Nat) (A : Nat → Prop) (N : Nat) (L : List Sec) (T : List (Nat × Sec)) (f : Nat) (at_ : Int) (s : Sec) (h : DkC w b A N L T f) (hA : ∀ k, A k → k < w.heap.size) (hTl : T.length < 1000000) :
    Ret Try.prog 20 [.pointer (some ⟨b, 0, none⟩), .int .i64 at_, .agg (secR s).toArray].toArray w fun r w' => r = .int .i64 (if 0 ≤ at_ ∧ at_ < N then 0 else 2) ∧
      DkC w' b A N (if 0 ≤ at_ ∧ at_ < N then L.set at_.toNat s else L) (if 0 ≤ at_ ∧ at_ < N then T.filter (fun x => !decide ((x.1 : Int) = at_)) else T) f ∧ Keep (fun k => ¬ A k) w w' := by
  obtain ⟨g, c, ex, vl, hB, hG, hT, hin, hgb, hAb, hAg, hNc, hcm, hL, hTn, hN1, hN2, hf⟩ := id h
  refine enter (fn := Try.f20) (n := 30) Try.func20 rfl rfl (by simp) ?_
  refine W_seq ?_
  refine W_region ?_
  refine o_box rfl rfl rfl ?_; intro w1 b1 e1 hB1 hk1 hs1
  have hb1w : b1 = w.heap.size := e1
  refine o_box rfl rfl rfl ?_; intro w2 b2 e2 hB2 hk2 hs2
  have hkA : Keep All w w2 := hk1.trans hk2
  have hB1 := hk2.blk' hB1 trivial
  have hD2 := h.keep hkA (fun _ _ => trivial)
  refine o_asc rfl ?_
  refine ops_nil ?_
  refine W_seq ?_
  refine W_region ?_
  refine o_mvt rfl ?_
  refine op_run (r_load rfl rfl rfl (hB1.cell rfl)) rfl ?_
  refine op_call rfl rfl rfl (dk_there w2 b A N L T f at_ hD2) ?_; rintro v4 w4 ⟨rfl, rfl⟩
  refine o_ast rfl ?_
  refine ops_nil ?_
  refine W_seq ?_
  refine W_seq ?_
  refine W_region ?_
  refine o_mvt rfl ?_
  refine op_run (r_eql rfl rfl) rfl ?_
  refine ops_nil ?_
  refine W_cond_p rfl (fun h5 => ?_) (fun h5 => ?_)
  · refine W_seq ?_
    refine W_region ?_
    refine o_mvt rfl ?_
    refine o_mvt rfl ?_
    refine op_run (r_nilCheck rfl) rfl ?_
    refine op_run (r_fieldAddr rfl rfl rfl rfl rfl) rfl ?_
    have hr : 0 ≤ at_ ∧ at_ < N := by
      by_cases hr : 0 ≤ at_ ∧ at_ < N
      · exact hr
      · rw [if_neg hr] at h5; cases h5
    obtain ⟨p, rfl⟩ := Int.eq_ofNat_of_zero_le hr.1
    have hpN : p < N := by omega
    refine op_run (r_load rfl rfl rfl ((hkA.blk' hB trivial).cell rfl)) rfl ?_
    have hT4 := hT.keep hkA (fun _ _ => trivial)
    have hlt := hA _ hAb
    have hltg := hA _ hAg
    have hb1v : some b1 ≠ vl.ownBlock := fun e => by have := hT.lt b1 e.symm; omega
    have hb2v : some b2 ≠ vl.ownBlock := fun e => by have := hT.lt b2 e.symm; have := hk1.size; omega
    refine op_run (r_makeFunc) rfl ?_
    refine op_call rfl rfl rfl (sl_DeleteW w4 vl T 46 #[] #[.pointer (some ⟨b1, 0, none⟩)] (fun x => decide ((x.1 : Int) = (p : Int))) rfl (fun x w' hs hk => by have h := dk_Set1 w' x b1 (p : Int) (hk.blk' hB1 hb1v); simpa using h) hT4 hTl) ?_; rintro v7 w7 ⟨hO7, hin7, hk7⟩
    obtain ⟨a7, c7, rfl, _, _⟩ := hO7.form
    have hB7 := hk7.blk' (hkA.blk' hB trivial) (show some b ≠ vl.ownBlock from fun e => (hin b e.symm).2.1 rfl)
    have hG7 := hk7.blk' (hkA.blk' hG trivial) (show some g ≠ vl.ownBlock from fun e => (hin g e.symm).2.2 rfl)
    have h17 := hk7.blk' hB1 hb1v
    have h27 := hk7.blk' hB2 hb2v
    refine op_run (r_nilCheck rfl) rfl ?_
    refine op_run (r_fieldAddr rfl rfl rfl rfl rfl) rfl ?_
    refine o_store rfl rfl rfl rfl hB7 (Nat.lt_of_sub_eq_succ rfl) rfl ?_; intro w8 hB8 hk8 hs8
    have hG8 := hk8.blk' hG7 hgb
    have h18 := hk8.blk' h17 (show b1 ≠ b by omega)
    have h28 := hk8.blk' h27 (show b2 ≠ b by have := hk1.size; omega)
    have hB8' : Blk w8 b [.slice (some ⟨g, 0, none⟩) N c, .slice a7 (T.filter fun x => !decide ((x.1 : Int) = (p : Int))).length c7, .int .i64 f] 84 := hB8
    have hO8 := hO7.keep hk8 (fun k hk e => (hin k (hin7 k hk)).2.1 e)
    refine ops_nil ?_
    refine W_gate 7 (fun w => Keep All w8 w) (by kernel_rfl) (Keep.drawn w8) (fun hS => ?_)
    refine gt_mvt 0 rfl (by kernel_rfl) (by kernel_rfl) (by kernel_rfl) (by kernel_rfl) rfl hS ?_
    refine gt_run 1 (fun w' hS' => (r_nilCheck rfl)) rfl (by kernel_rfl) (by kernel_rfl) (by kernel_rfl) (by kernel_rfl) rfl hS ?_
    refine gt_run 2 (fun w' hS' => (r_fieldAddr rfl rfl rfl rfl rfl)) rfl (by kernel_rfl) (by kernel_rfl) (by kernel_rfl) (by kernel_rfl) rfl hS ?_
    refine gt_run 3 (fun w' hS' => (r_load rfl rfl rfl (((hS'.blk' hB8' trivial).cell rfl)))) rfl (by kernel_rfl) (by kernel_rfl) (by kernel_rfl) (by kernel_rfl) rfl hS ?_
    refine gt_run 4 (fun w' hS' => (r_load rfl rfl rfl (((hS'.blk' h18 trivial).cell rfl)))) rfl (by kernel_rfl) (by kernel_rfl) (by kernel_rfl) (by kernel_rfl) rfl hS ?_
    refine gt_run 5 (fun w' hS' => (r_loadA (secR s) rfl rfl rfl (by first | rfl | (rw [binV_len]; rfl) | (rw [dgR_len]; rfl) | (rw [refR_len]; rfl) | (rw [secR_len]; rfl) | (rw [List.length_map, tagF_len]; rfl)) ((hS'.blk' h28 trivial).all))) rfl (by kernel_rfl) (by kernel_rfl) (by kernel_rfl) (by kernel_rfl) rfl hS ?_
    refine gt_run 6 (fun w' hS' => (r_idxS rfl rfl rfl ti_sec (by omega) (by omega))) rfl (by kernel_rfl) (by kernel_rfl) (by kernel_rfl) (by kernel_rfl) rfl hS ?_
    refine gt_past 7 (by kernel_rfl) (by kernel_rfl) (one_of rfl ?_)
    refine o_storeA (cs := secR s) rfl rfl (by first | rfl | exact binV_one _ | exact dgR_one _ | exact refR_one _ | exact secR_one _ | exact all_c8 _) (by first | rfl | (rw [binV_len]; rfl) | (rw [dgR_len]; rfl) | (rw [refR_len]; rfl) | (rw [secR_len]; rfl) | (rw [List.length_map, tagF_len]; rfl)) ((Keep.drawn w8).blk' hG8 trivial) (by rw [List.length_append, rows_len secR_len, secR_len, hL, Int.toNat_natCast]; omega) rfl ?_; intro w14 hB14 hk14 hs14
    have hG14 : Blk w14 g (rows secR (L.set p s) ++ ex) 37 := by
      have h : Blk w14 g (splice (rows secR L ++ ex) (0 + ((p : Nat) : Int).toNat * 64) (secR s)) 37 := hB14
      rw [Int.toNat_natCast, Nat.zero_add, splice_app (by rw [rows_len secR_len, secR_len, hL]; omega), rows_set secR_len (by omega)] at h
      exact h
    refine ops_nil ?_
    refine gt_done (by kernel_rfl) ?_
    refine W_seq ?_
    refine W_region ?_
    refine o_mvt rfl ?_
    refine o_ast rfl ?_
    refine ops_nil ?_
    refine W_ret ?_
    refine ret1 (.int .i64 (if 0 ≤ (p : Int) ∧ (p : Int) < N then 0 else 2)) rfl ?_ ?_; rfl
    refine ⟨rfl, ?_, ?_⟩
    · rw [if_pos hr, if_pos hr, Int.toNat_natCast]
      refine ⟨g, c, ex, _, hk14.blk' ((Keep.drawn w8).blk' hB8' trivial) (Ne.symm hgb), hG14, (hO8.keep (Keep.drawn w8) (fun _ _ => trivial)).keep hk14 (fun k hk e => (hin k (hin7 k hk)).2.2 e), fun k hk => hin k (hin7 k hk), hgb, hAb, hAg, hNc, hcm, by rw [List.length_set]; exact hL, fun x hx => hTn x ((List.mem_filter.1 hx).1), hN1, hN2, hf⟩
    · have h1 : Keep (fun k => ¬ A k) w w7 := hkA.all.trans (hk7.mono fun k _ hk e => hk (hin k e.symm).1)
      exact ((h1.trans (hk8.mono fun k _ hk e => hk (e ▸ hAb))).trans (Keep.drawn w8).all).trans (hk14.mono fun k _ hk e => hk (e ▸ hAg))
  · refine W_skip ?_
    refine W_seq ?_
    refine W_region ?_
    refine o_mvt rfl ?_
    refine o_ast rfl ?_
    refine ops_nil ?_
    refine W_ret ?_
    refine ret1 (.int .i64 (if 0 ≤ at_ ∧ at_ < N then 0 else 2)) rfl ?_ ?_; rfl
    have hr : ¬ (0 ≤ at_ ∧ at_ < N) := fun hr => by rw [if_pos hr] at h5; exact h5 rfl
    exact ⟨rfl, by rw [if_neg hr, if_neg hr]; exact hD2, hkA.all⟩
section
variable {w : World} {K : Nat → Prop} {b N n : Nat} {M : List Sec} {w' : World}
theorem DV.set (h : DV w K b N M n w') (at_ : Int) (s : Sec) (hn : n < 1000000) :
    Ret Try.prog 20 [.pointer (some ⟨b, 0, none⟩), .int .i64 at_, .agg (secR s).toArray].toArray w' fun r w2 => r = .int .i64 (if 0 ≤ at_ ∧ at_ < N then 0 else 2) ∧
      DV w K b N (if 0 ≤ at_ ∧ at_ < N then M.set at_.toNat s else M) n w2 ∧ Keep K w' w2 := by
  obtain ⟨L, T, ⟨A, h1, h5, h6, h7⟩, h2, h3, h4⟩ := h
  refine (dk_Set w' b A N L T 0 at_ s h1 (fun k hk => (h5 k hk).2.1) (by omega)).mono fun e w2 ⟨u, he, hu, hD, hk⟩ => ⟨u, he, hu, ?_⟩
  obtain ⟨hO, hkK⟩ := One.step h5 h6 h7 hD (fun j hj => .inl hj) hk
  refine ⟨?_, hkK⟩
  by_cases hr : 0 ≤ at_ ∧ at_ < N
  · obtain ⟨p, rfl⟩ := Int.eq_ofNat_of_zero_le hr.1
    rw [if_pos hr, if_pos hr, Int.toNat_natCast] at hO
    rw [if_pos hr, Int.toNat_natCast]
    exact ⟨_, _, hO, by rw [seen_filter, h2], Nat.le_trans (List.length_filter_le _ _) h3, by rw [List.length_set]; exact h4⟩
  · rw [if_neg hr, if_neg hr] at hO
    rw [if_neg hr]
    exact ⟨L, T, hO, h2, h3, h4⟩
end
end Go.Proofs.Ytigehkfdfecfoaa.B
