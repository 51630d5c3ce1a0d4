/-
  sporranlaw08: play.
-/
import Derived.Test.YtpiidddccmohdaaTreL2
namespace Go.Proofs.Ytpiidddccmohdaa.B
open Go
set_option linter.unusedVariables false
set_option maxHeartbeats 2000000
set_option maxRecDepth 100000
attribute [local irreducible] W OpsW OpsQ retP
theorem playC_s {cs : List Cl} {k : Nat} {c : Cl} (h : cs[k]? = some c) : playC (cs.take (k + 1)) = stepC (playC (cs.take k)) c := by
  obtain ⟨h1, h2⟩ := List.getElem?_eq_some_iff.1 h
  unfold playC
  rw [List.take_succ_eq_append_getElem h1, h2, List.foldl_append]; rfl
theorem lw_play (w : World) (v : Value) (cs : List Cl) (hv : ClsIn w v cs) (hs : smallC cs) : Ret Try.prog 9 [v].toArray w fun r w' => ∃ u, r = .tuple #[.pointer (some ⟨w.heap.size, 0, none⟩), u] ∧ TrieIn w' w.heap.size (playC cs).1 ∧ ItIn w' u (playC cs).2 ∧ Keep All w w' := by
  obtain ⟨a0, c0, rfl, hc0, hcm0⟩ := SlR.form hv
  obtain ⟨B, hB⟩ : ∃ B, B = w.heap.size := ⟨_, rfl⟩
  have hs50 := hs.1
  refine enter (fn := Try.f9) (n := 50) Try.func9 rfl rfl (by simp) ?_
  refine W_seq ?_
  refine W_region ?_
  refine o_asc rfl ?_
  refine o_asc rfl ?_
  refine ops_nil ?_
  refine W_seq ?_
  refine W_region ?_
  refine op_call rfl rfl rfl (tr_New w) ?_; rintro v1 w1 ⟨rfl, hT1, hk1⟩
  rw [← hB] at hT1 ⊢
  refine o_bs0 rfl rfl rfl ?_; intro w2 b2 e2 hB2 hk2 hs2
  refine o_ast rfl ?_
  refine o_ast rfl ?_
  refine ops_nil ?_
  refine W_seq ?_
  refine W_seq ?_
  refine W_region ?_
  refine o_mvt rfl ?_
  refine op_run (r_len rfl rfl rfl) rfl ?_
  refine o_mvc rfl ?_
  refine ops_nil ?_
  refine W_block ?_
  refine W_loop [5, 12] [2, 3, 5, 7, 12, 13, 14, 15, 16, 17, 18, 19, 20, 21, 22, 23, 24, 25, 26, 27, 28, 29, 30, 31, 32, 33, 34, 35, 36, 37, 38, 39, 40, 41, 42, 43, 44, 45, 46, 47] (fun vs w' => ∃ (k : Nat) (u : Value), vs = [u, .int .i64 k] ∧ k ≤ cs.length ∧ TrieIn w' B (playC (cs.take k)).1 ∧ ItIn w' u (playC (cs.take k)).2 ∧ Keep All w w') (fun vs _ => match vs with | [_, .int _ y] => cs.length - y.toNat | _ => 0) ⟨0, .slice (some ⟨b2, 0, none⟩) 0 0, rfl, Nat.zero_le _, hT1.k hk2, ⟨[], (Own.blk (n := 0) (sz := 33) hB2 rfl (Nat.zero_le _)).sl, trivial⟩, hk1.trans hk2⟩ ?_
  rintro J3 vs w3 ⟨k, u, rfl, hk, hT3, hI3, hkw⟩ -
  refine W_seq ?_
  refine W_region ?_
  refine op_run (r_lss rfl rfl) rfl ?_
  refine ops_nil ?_
  refine W_seq ?_
  refine W_cond_p rfl (fun h4 => ?_) (fun h4 => ?_)
  · refine W_skip ?_
    refine W_seq ?_
    refine W_block ?_
    refine W_seq ?_
    refine W_region ?_
    have hkl : k < cs.length := by omega
    obtain ⟨c, hc⟩ : ∃ c, cs[k]? = some c := ⟨_, List.getElem?_eq_getElem hkl⟩
    obtain ⟨b, off, cp, vv, ev_, hby, hcell⟩ := (hv.k hkw).at hc
    cases ev_
    obtain ⟨av, cv, rfl, _, _⟩ := hby.form
    have hinc := inc64' k (by unfold maxLen at hcm0; omega)
    have hcl := hs.2 c (List.mem_of_getElem? hc)
    have hstep := playC_s hc
    obtain ⟨S, hS_⟩ : ∃ S, S = playC (cs.take k) := ⟨_, rfl⟩
    have hSl : S.2.length ≤ 50 := by
      have := play_len (cs.take k) (.no, [])
      rw [List.length_take] at this
      rw [hS_]; show ((cs.take k).foldl stepC (.no, [])).2.length ≤ 50
      have e0 : ((Tre.no, ([] : List It)) : Tre × List It).2.length = 0 := rfl
      omega
    have hSa : Agree S.1 S.2 ∧ S.1.wf 64 := by rw [hS_]; exact play_ok _ _ (fun _ => rfl) trivial
    rw [← hS_] at hT3 hI3 hstep
    obtain ⟨ab3, hb3⟩ := hT3.cell
    refine op_run (r_idxS rfl rfl rfl rfl (by omega) (by omega)) rfl ?_
    refine op_run (r_loadA (callR c.1 c.2.1 (.slice av c.2.2.length cv)) rfl rfl rfl (by first | rfl | (rw [binV_len]; rfl) | (rw [dgR_len]; rfl) | (rw [refR_len]; rfl) | (rw [secR_len]; rfl) | (rw [List.length_map, tagF_len]; rfl) | (rw [callR_len]; rfl) | (rw [dgR_len]; rfl)) ((fun j u hj => by rw [Int.toNat_natCast]; exact hcell j u hj))) rfl ?_
    refine o_alloc rfl rfl rfl ?_; intro w7 b7 e7 hB7 hk7 hs7
    refine o_storeA (cs := callR c.1 c.2.1 (.slice av c.2.2.length cv)) rfl rfl (by first | rfl | exact binV_one _ | exact dgR_one _ | exact refR_one _ | exact secR_one _ | exact all_c8 _ | exact callR_one (Sl.oneI hby)) (by first | rfl | (rw [binV_len]; rfl) | (rw [dgR_len]; rfl) | (rw [refR_len]; rfl) | (rw [secR_len]; rfl) | (rw [List.length_map, tagF_len]; rfl) | (rw [callR_len]; rfl) | (rw [dgR_len]; rfl)) hB7 (by exact Nat.le_of_eq (by simp [callR_len])) rfl ?_; intro w8 hB8 hk8 hs8
    have hB8 : Blk w8 b7 (callR c.1 c.2.1 (.slice av c.2.2.length cv)) 47 := by
      have h := hB8
      rwa [splice_all (by simp [callR_len])] at h
    have hk38 : Keep All w3 w8 := hk7.new hk8 (by omega)
    have hb7B : b7 ≠ B := by have := hb3.lt; omega
    have hkw8 := hkw.trans hk38
    refine ops_nil ?_
    refine W_seq ?_
    refine W_seq ?_
    refine W_region ?_
    refine op_run (r_fieldAddr rfl rfl rfl rfl rfl) rfl ?_
    refine op_run (r_load rfl rfl rfl (hB8.cell callR_what)) rfl ?_
    refine op_run (r_eql rfl rfl) rfl ?_
    refine ops_nil ?_
    refine W_cond_p rfl (fun h10 => ?_) (fun h10 => ?_)
    · refine W_seq ?_
      refine W_held (fun w' => Keep (fun z => z ≠ B) w8 w') (by kernel_rfl) ((Keep.drawn w8).all) (fun hS => ?_)
      refine any_mvt 0 rfl (by kernel_rfl) (by kernel_rfl) (by kernel_rfl) rfl hS ?_
      refine any_run 1 (fun w' hS' => (r_fieldAddr rfl rfl rfl rfl rfl)) rfl (by kernel_rfl) (by kernel_rfl) (by kernel_rfl) rfl hS ?_
      refine any_run 2 (fun w' hS' => (r_loadA (dgR c.2.1) rfl rfl rfl (by first | rfl | (rw [binV_len]; rfl) | (rw [dgR_len]; rfl) | (rw [refR_len]; rfl) | (rw [secR_len]; rfl) | (rw [List.length_map, tagF_len]; rfl) | (rw [callR_len]; rfl) | (rw [dgR_len]; rfl)) ((hS'.blk' hB8 hb7B).key))) rfl (by kernel_rfl) (by kernel_rfl) (by kernel_rfl) rfl hS ?_
      refine any_run 4 (fun w' hS' => (r_fieldAddr rfl rfl rfl rfl rfl)) rfl (by kernel_rfl) (by kernel_rfl) (by kernel_rfl) rfl hS ?_
      refine any_run 5 (fun w' hS' => (r_load rfl rfl rfl (((hS'.blk' hB8 hb7B).cell callR_val)))) rfl (by kernel_rfl) (by kernel_rfl) (by kernel_rfl) rfl hS ?_
      refine any_one 3 (by kernel_rfl) (one_of rfl ?_)
      refine o_bs0 rfl rfl rfl ?_; intro w14 b14 e14 hB14 hk14 hs14
      refine ops_nil ⟨hS.trans hk14.all, fun hS => ?_⟩
      refine any_one 6 (by kernel_rfl) (one_of rfl ?_)
      refine o_appS (v := .slice (some ⟨b14, 0, none⟩) 0 0) rfl rfl (Sl.k (Sl.k (Sl.k hby hk38) (Keep.drawn w8)) hk14) rfl ti_u8 rfl rfl (Own.blk hB14 rfl (by unfold maxLen; omega)) (all_c8 _) (by unfold maxLen; omega) (by omega) rfl ?_; intro v16 w16 hown16 hk16 hb16
      have hby16 : By w16 v16 c.2.2 := by
        have h := OwnB.app (xs := []) (e := 5) hown16
        exact h.by_
      have hk816 : Keep All w8 w16 := ((Keep.drawn w8).trans hk14).own hk16 (fun z hz _ => by cases hz; have e : b14 = w8.heap.size := e14; show w8.heap.size ≤ b14; omega)
      refine ops_nil ⟨hk816.all, fun hS => ?_⟩
      refine any_one 7 (by kernel_rfl) (one_of rfl ?_)
      refine op_call rfl rfl rfl (tr_Put w16 B S.1 c.2.1 v16 c.2.2 ((hT3.k hk38).k hk816) hby16 (by omega)) ?_; rintro v18 w18 ⟨hT18, hk18⟩
      refine ops_nil ⟨hk816.all.trans hk18, fun hS => ?_⟩
      refine any_done (by kernel_rfl) ?_
      refine W_seq ?_
      refine W_region ?_
      refine o_mvt rfl ?_
      refine op_run (r_fieldAddr rfl rfl rfl rfl rfl) rfl ?_
      have hb16t : Blk w16 B [.pointer ab3] 57 := hk816.blk' (hk38.blk' hb3 trivial) trivial
      have hI18 := ((hI3.k hk38).k hk816).other hb16t hk18
      have hby18 := By.other (Sl.k (Sl.k hby hk38) hk816) hb16t hk18
      refine op_run (r_loadA (dgR c.2.1) rfl rfl rfl (by first | rfl | (rw [binV_len]; rfl) | (rw [dgR_len]; rfl) | (rw [refR_len]; rfl) | (rw [secR_len]; rfl) | (rw [List.length_map, tagF_len]; rfl) | (rw [callR_len]; rfl) | (rw [dgR_len]; rfl)) ((hS.blk' hB8 hb7B).key)) rfl ?_
      refine op_run (r_fieldAddr rfl rfl rfl rfl rfl) rfl ?_
      refine op_run (r_load rfl rfl rfl ((hS.blk' hB8 hb7B).cell callR_val)) rfl ?_
      refine op_call rfl rfl rfl (rf8_Put w18 u _ S.2 c.2.1 c.2.2 hI18 hby18 (by omega)) ?_; rintro v22 w22 hO22
      refine o_ast rfl ?_
      refine ops_nil ?_
      refine W_exit ?_
      refine W_region ?_
      refine op_run (r_add rfl rfl) rfl ?_
      refine o_mvt rfl ?_
      refine ops_nil ?_
      have hes : stepC S c = (putTT S.1 c.2.1 c.2.2, putI S.2 c.2.1 c.2.2) := if_pos h10
      rw [hes] at hstep
      refine ⟨by (repeat (first | with_reducible exact offM_refl _ _ | refine offM_updc rfl ?_ | refine offM_upd rfl ?_ | refine offM_updo rfl ?_ | refine offM_updo_none ?_ | refine offM_head rfl rfl ?_)), ⟨k + 1, v22, congrArg (fun z : Int => [v22, Value.int .i64 z]) hinc, by omega, by rw [hstep]; exact hT18.k hO22.keepAll, by rw [hstep]; exact hO22.it, (hkw8.new hS (by omega)).trans hO22.keepAll⟩, ?_⟩
      show cs.length - (IntKind.i64.wrap ((k : Int) + 1)).toNat < cs.length - (k : Int).toNat
      rw [hinc]; omega
    · refine W_skip ?_
      refine W_seq ?_
      refine W_seq ?_
      refine W_held (fun w' => Keep (fun z => z ≠ B) w8 w') (by kernel_rfl) ((Keep.drawn w8).all) (fun hS => ?_)
      refine any_mvt 0 rfl (by kernel_rfl) (by kernel_rfl) (by kernel_rfl) rfl hS ?_
      refine any_run 1 (fun w' hS' => (r_fieldAddr rfl rfl rfl rfl rfl)) rfl (by kernel_rfl) (by kernel_rfl) (by kernel_rfl) rfl hS ?_
      refine any_run 2 (fun w' hS' => (r_loadA (dgR c.2.1) rfl rfl rfl (by first | rfl | (rw [binV_len]; rfl) | (rw [dgR_len]; rfl) | (rw [refR_len]; rfl) | (rw [secR_len]; rfl) | (rw [List.length_map, tagF_len]; rfl) | (rw [callR_len]; rfl) | (rw [dgR_len]; rfl)) ((hS'.blk' hB8 hb7B).key))) rfl (by kernel_rfl) (by kernel_rfl) (by kernel_rfl) rfl hS ?_
      refine any_mvt 4 rfl (by kernel_rfl) (by kernel_rfl) (by kernel_rfl) rfl hS ?_
      refine any_run 5 (fun w' hS' => (r_fieldAddr rfl rfl rfl rfl rfl)) rfl (by kernel_rfl) (by kernel_rfl) (by kernel_rfl) rfl hS ?_
      refine any_run 6 (fun w' hS' => (r_loadA (dgR c.2.1) rfl rfl rfl (by first | rfl | (rw [binV_len]; rfl) | (rw [dgR_len]; rfl) | (rw [refR_len]; rfl) | (rw [secR_len]; rfl) | (rw [List.length_map, tagF_len]; rfl) | (rw [callR_len]; rfl) | (rw [dgR_len]; rfl)) ((hS'.blk' hB8 hb7B).key))) rfl (by kernel_rfl) (by kernel_rfl) (by kernel_rfl) rfl hS ?_
      refine any_one 3 (by kernel_rfl) (one_of rfl ?_)
      refine op_call rfl rfl rfl (tr_Drop _ B S.1 c.2.1 ((hT3.k hk38).k (Keep.drawn w8))) ?_; rintro v27 w27 ⟨rfl, hT27, hk27⟩
      have hI27 : ItIn w27 u S.2 := ((hI3.k hk38).k (Keep.drawn w8)).other ((Keep.drawn w8).blk' (hk38.blk' hb3 trivial) trivial) hk27
      refine ops_nil ⟨(Keep.drawn w8).all.trans hk27, fun hS => ?_⟩
      refine any_one 7 (by kernel_rfl) (one_of rfl ?_)
      refine op_call rfl rfl rfl (rf8_Find w27 u S.2 c.2.1 hI27 (by omega)) ?_; rintro v29 w29 ⟨rfl, hk29⟩
      refine ops_nil ⟨hS.trans hk29.all, fun hS => ?_⟩
      refine any_run 8 (fun w' hS' => (r_geq rfl rfl)) rfl (by kernel_rfl) (by kernel_rfl) (by kernel_rfl) rfl hS ?_
      refine any_run 9 (fun w' hS' => (r_neqB rfl rfl rfl)) rfl (by kernel_rfl) (by kernel_rfl) (by kernel_rfl) rfl hS ?_
      refine any_done (by kernel_rfl) ?_
      refine W_cond rfl (fun h31 => ?_) (fun h31 => ?_)
      · refine W_seq ?_
        refine W_region ?_
        refine o_asc rfl ?_
        refine o_asc rfl ?_
        refine ops_nil ?_
        refine W_ret ?_
        refine ret2 (.pointer none) (.slice none 0 0) rfl ?_ ?_ ?_; rfl; rfl
        exfalso
        have h31 : ((S.1.get (nibs c.2.1.val)).isSome != decide (0 ≤ findI c.2.1 S.2 0)) = true := h31
        rw [findI_look, hSa.1] at h31; simp at h31
      · refine W_skip ?_
        refine W_region ?_
        refine o_mvt rfl ?_
        refine op_run (r_fieldAddr rfl rfl rfl rfl rfl) rfl ?_
        refine op_run (r_loadA (dgR c.2.1) rfl rfl rfl (by first | rfl | (rw [binV_len]; rfl) | (rw [dgR_len]; rfl) | (rw [refR_len]; rfl) | (rw [secR_len]; rfl) | (rw [List.length_map, tagF_len]; rfl) | (rw [callR_len]; rfl) | (rw [dgR_len]; rfl)) ((hS.blk' hB8 hb7B).key)) rfl ?_
        refine op_call rfl rfl rfl (rf8_Drop w29 u S.2 c.2.1 (hI27.k hk29) (by omega)) ?_; rintro v34 w34 hO34
        refine o_ast rfl ?_
        refine ops_nil ?_
        refine W_region ?_
        refine op_run (r_add rfl rfl) rfl ?_
        refine o_mvt rfl ?_
        refine ops_nil ?_
        have hes : stepC S c = (dropTT S.1 c.2.1, dropI S.2 c.2.1) := if_neg h10
        rw [hes] at hstep
        refine ⟨by (repeat (first | with_reducible exact offM_refl _ _ | refine offM_updc rfl ?_ | refine offM_upd rfl ?_ | refine offM_updo rfl ?_ | refine offM_updo_none ?_ | refine offM_head rfl rfl ?_)), ⟨k + 1, v34, congrArg (fun z : Int => [v34, Value.int .i64 z]) hinc, by omega, by rw [hstep]; exact (hT27.k hk29).k hO34.keepAll, by rw [hstep]; exact hO34.it, (hkw8.new hS (by omega)).trans hO34.keepAll⟩, ?_⟩
        show cs.length - (IntKind.i64.wrap ((k : Int) + 1)).toNat < cs.length - (k : Int).toNat
        rw [hinc]; omega
  · refine W_exit ?_
    refine W_seq ?_
    refine W_region ?_
    refine o_mvt rfl ?_
    refine o_mvt rfl ?_
    refine o_ast rfl ?_
    refine o_ast rfl ?_
    refine ops_nil ?_
    refine W_ret ?_
    refine ret2 (.pointer (some ⟨B, 0, none⟩)) u rfl ?_ ?_ ?_; rfl; rfl
    have hke : k = cs.length := by omega
    rw [hke, List.take_length] at hT3 hI3
    exact ⟨u, rfl, hT3, hI3, hkw⟩
end Go.Proofs.Ytpiidddccmohdaa.B
