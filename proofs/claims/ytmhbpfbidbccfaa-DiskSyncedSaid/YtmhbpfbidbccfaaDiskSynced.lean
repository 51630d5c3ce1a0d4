/-
  DiskSynced's walk.
-/
import Derived.Test.YtmhbpfbidbccfaaOne
namespace Go.Proofs.Ytmhbpfbidbccfaa.B
open Go
set_option linter.unusedVariables false
set_option maxHeartbeats 2000000
set_option maxRecDepth 100000
attribute [local irreducible] W OpsW OpsQ retP
theorem ti_bool' : tinfo Try.prog 4 = some (some (.bool false), 1, 1) := by kernel_rfl
theorem walk_DiskSynced (w : World) (v1 v2 v3 : Value) (xs ys : List DCall) (ps : List UInt8) (hx : DCs w v1 xs) (hy : DCs w v2 ys) (hv : By w v3 ps) :
    Ret Try.prog 3 [v1, v2, v3].toArray w fun r w' => r = .bool true ∧ Keep All w w' := by
  have hxl := hx.len_le
  have hyl := hy.len_le
  obtain ⟨a1, c1, rfl, _, _⟩ := hx.form
  obtain ⟨a2, c2, rfl, _, _⟩ := hy.form
  obtain ⟨a3, c3, rfl, _, _⟩ := hv.form
  obtain ⟨zc, hzc, hzcs⟩ := ti_dc
  refine enter (fn := Try.f3) (n := 116) Try.func3 rfl rfl (by simp) ?_
  refine W_seq ?_
  refine W_region ?_
  refine o_asc rfl ?_
  refine ops_nil ?_
  refine W_seq ?_
  refine W_seq ?_
  refine W_region ?_
  refine op_call rfl rfl rfl (speaks04 w) ?_; rintro v1 w1 ⟨rfl, hk1⟩
  refine op_run (r_not rfl) rfl ?_
  refine ops_nil ?_
  refine W_no rfl (rfl) ?_
  refine W_skip ?_
  refine W_seq ?_
  refine W_cut [26] [19, 20, 21, 22, 23, 24, 25, 26] (fun vs w4 => vs = [.bool (decide (60 < xs.length ∨ 60 < ys.length))] ∧ w4 = w1) ?_ ?_
  · refine W_region ?_
    refine o_mvt rfl ?_
    refine op_run (r_len rfl rfl rfl) rfl ?_
    refine op_run (r_gtr rfl rfl) rfl ?_
    refine o_mvt rfl ?_
    refine g_split rfl rfl rfl (fun g5 => ?_) (fun g5 => ?_)
    · refine o_mvt (g_yes rfl rfl rfl g5) ?_
      refine op_run (r_len rfl rfl rfl) (g_yes rfl rfl rfl g5) ?_
      refine op_run (r_gtr rfl rfl) (g_yes rfl rfl rfl g5) ?_
      refine o_pkFt rfl g5 rfl ?_
      refine ops_nil ?_
      exact ⟨by (repeat (first | with_reducible exact offM_refl _ _ | refine offM_updc rfl ?_ | refine offM_upd rfl ?_ | refine offM_updo rfl ?_ | refine offM_updo_none ?_ | refine offM_head rfl rfl ?_)), congrArg (fun b => [Value.bool b]) (by have := of_decide_eq_false g5; rw [decide_eq_decide]; constructor <;> intro hh <;> omega), rfl⟩
    · refine op_skip (g_no rfl rfl rfl g5) ?_
      refine op_skip (g_no rfl rfl rfl g5) ?_
      refine op_skip (g_no rfl rfl rfl g5) ?_
      refine o_pkTc rfl g5 rfl ?_
      refine ops_nil ?_
      exact ⟨by (repeat (first | with_reducible exact offM_refl _ _ | refine offM_updc rfl ?_ | refine offM_upd rfl ?_ | refine offM_updo rfl ?_ | refine offM_updo_none ?_ | refine offM_head rfl rfl ?_)), congrArg (fun b => [Value.bool b]) (by have := of_decide_eq_true g5; symm; apply decide_eq_true; omega), rfl⟩
  · rintro J8 vs w8 ⟨rfl, rfl⟩ -
    refine W_cond_p rfl (fun h9 => ?_) (fun h9 => ?_)
    · refine W_seq ?_
      refine W_region ?_
      refine o_asc rfl ?_
      refine ops_nil ?_
      refine W_ret ?_
      refine ret1 (.bool true) rfl ?_ ?_; rfl
      exact ⟨rfl, hk1⟩
    · refine W_skip ?_
      refine W_seq ?_
      refine W_region ?_
      refine op_call rfl rfl rfl (dk_New w8 20) ?_; rintro v11 w11 ⟨a6, e6, rfl, h6⟩
      obtain ⟨_, b, rfl, rfl, hb, hD6, hk6⟩ := h6.resolve_left (fun h => by omega)
      obtain ⟨A, hD6', hA⟩ := hD6.shrink
      have hs1 := hk1.size
      refine o_mvt rfl ?_
      refine op_run (r_extract rfl rfl) rfl ?_
      refine op_run (r_extract rfl rfl) rfl ?_
      refine o_ast rfl ?_
      refine o_ast rfl ?_
      refine ops_nil ?_
      refine W_seq ?_
      refine W_cut [36] [31, 32, 33, 34, 35, 36] (fun vs w12 => vs = [.bool false] ∧ w12 = w11) ?_ ?_
      · refine W_region ?_
        refine o_mvt rfl ?_
        refine op_run (r_neq rfl rfl) rfl ?_
        refine o_mvt rfl ?_
        refine g_split rfl rfl rfl (fun g13 => ?_) (fun g13 => ?_)
        · refine o_mvt (g_yes rfl rfl rfl g13) ?_
          refine op_run (r_isNilP rfl rfl) (g_yes rfl rfl rfl g13) ?_
          refine o_pkFt rfl g13 rfl ?_
          refine ops_nil ?_
          exact ⟨by (repeat (first | with_reducible exact offM_refl _ _ | refine offM_updc rfl ?_ | refine offM_upd rfl ?_ | refine offM_updo rfl ?_ | refine offM_updo_none ?_ | refine offM_head rfl rfl ?_)), rfl, rfl⟩
        · refine op_skip (g_no rfl rfl rfl g13) ?_
          refine op_skip (g_no rfl rfl rfl g13) ?_
          refine o_pkTc rfl g13 rfl ?_
          refine ops_nil ?_
          exact absurd (of_decide_eq_true g13) (by simp)
      · rintro J16 vs w16 ⟨rfl, rfl⟩ -
        refine W_no rfl (rfl) ?_
        refine W_skip ?_
        refine W_seq ?_
        refine W_seq ?_
        refine W_region ?_
        refine o_mvt rfl ?_
        refine op_run (r_len rfl rfl rfl) rfl ?_
        refine o_mvc rfl ?_
        refine ops_nil ?_
        refine W_block ?_
        have h16 : One w (fun _ => False) b 20 (List.replicate 20 Sec.zero) [] 0 w16 := ⟨A, hD6', fun j hj => ⟨by have := (hA j hj).1; omega, (hA j hj).2, fun h => h⟩, fun j hj => hj.elim, hk1.trans hk6⟩
        refine W_loop [39] [10, 39, 40, 41, 42, 43, 44, 45, 46, 47, 48, 49] (fun vs w' => ∃ (k : Nat) (T : List (Nat × Sec)), vs = [.int .i64 k] ∧ k ≤ xs.length ∧ T.length ≤ k ∧ One w (fun _ => False) b 20 (List.replicate 20 Sec.zero) T 0 w') (fun vs _ => match vs with | [.int _ k] => xs.length - k.toNat | _ => 0) ⟨0, [], rfl, by omega, Nat.le_refl _, h16⟩ ?_
        rintro J vs w19 ⟨k, T, rfl, hk, hTk, h19⟩ -
        refine W_seq ?_
        refine W_region ?_
        refine op_run (r_lss rfl rfl) rfl ?_
        refine ops_nil ?_
        refine W_seq ?_
        refine W_cond_p rfl (fun h20 => ?_) (fun h20 => ?_)
        · refine W_skip ?_
          refine W_seq ?_
          refine W_block ?_
          refine W_seq ?_
          refine W_region ?_
          have hkx : k < xs.length := by omega
          have hinc := inc64' k (by omega)
          obtain ⟨b0, off0, c0, e0, _, hcell⟩ := SlR.at hx (by omega) (by omega)
          cases e0
          obtain ⟨cs, hcl, hcs, ap, np, cp, rfl⟩ := hcell k xs[k] (by simp [hkx])
          have hcs2 : ∀ (j : Nat) (u : Value), (dcR xs[k] (.slice ap np cp))[j]? = some u → w19.cell? ((⟨b0, off0 + (k : Int).toNat * 68, none⟩ : Addr).add j) = some u := fun j u hu => by
            have h := h19.kw.cell (hcs j u hu) trivial
            rw [Int.toNat_natCast, Addr.add_lit]; exact h
          refine op_run (r_idxS rfl rfl rfl hzc (by omega) (by omega)) rfl ?_
          refine op_run (r_loadA (dcR xs[k] (.slice ap np cp)) rfl rfl rfl (by rw [dcR_len]; exact hzc) hcs2) rfl ?_
          refine o_alloc (zl := zc.cells.toList) hzc (by simp) rfl ?_; intro w23 b23 e23 hB23 hk23 hs23
          refine o_storeA (cs := dcR xs[k] (.slice ap np cp)) rfl rfl (dcR_one _ rfl) (by rw [dcR_len]; exact hzc) hB23 (by rw [dcR_len, Array.length_toList, hzcs]; exact Nat.le_refl _) rfl ?_; intro w24 hB24 hk24 hs24
          rw [splice_all (by rw [dcR_len, Array.length_toList, hzcs])] at hB24
          have h24 := h19.fresh hk23 (by omega) hk24 (by omega)
          refine ops_nil ?_
          refine W_region ?_
          refine o_mvt rfl ?_
          refine op_run (r_fieldAddr rfl rfl rfl rfl rfl) rfl ?_
          refine op_run (r_load rfl rfl rfl (hB24.cell rfl)) rfl ?_
          refine op_run (r_fieldAddr rfl rfl rfl rfl rfl) rfl ?_
          refine op_run (r_loadA (secR xs[k].2.2.2) rfl rfl rfl (ti_secR _) (hB24.from 3 (dcR_sec _ _))) rfl ?_
          refine op_call rfl rfl rfl (h24.write xs[k].2.1 xs[k].2.2.2 (by omega)) ?_; rintro v27 w27 ⟨rfl, h27, hk27⟩
          refine ops_nil ?_
          refine W_region ?_
          refine op_run (r_add rfl rfl) rfl ?_
          refine o_mvt rfl ?_
          refine ops_nil ?_
          refine ⟨by (repeat (first | with_reducible exact offM_refl _ _ | refine offM_updc rfl ?_ | refine offM_upd rfl ?_ | refine offM_updo rfl ?_ | refine offM_updo_none ?_ | refine offM_head rfl rfl ?_)), ⟨k + 1, (if (0 ≤ xs[k].2.1 ∧ xs[k].2.1 < ((20 : Nat) : Int)) ∧ 0 ≠ 1 then T ++ [(xs[k].2.1.toNat, xs[k].2.2.2)] else T), ?_, by omega, ?_, ?_⟩, ?_⟩
          · rw [← hinc]; rfl
          · split
            · rw [List.length_append]; simp; omega
            · omega
          · have e : (if (0 ≤ xs[k].2.1 ∧ xs[k].2.1 < ((20 : Nat) : Int)) ∧ 0 ≠ 1 then 0 - 1 else 0) = 0 := by split <;> rfl
            rw [e] at h27
            exact h27.mono (fun j hj => hj.elim)
          · show xs.length - (IntKind.i64.wrap ((k : Int) + 1)).toNat < xs.length - (k : Int).toNat
            rw [hinc]; omega
        · refine W_exit ?_
          refine W_seq ?_
          refine W_region ?_
          refine o_mvt rfl ?_
          refine op_call rfl rfl rfl (h19.sync (by omega)) ?_; rintro v29 w29 ⟨h29, hk29⟩
          rw [if_neg (by decide), if_neg (by decide), if_neg (by decide)] at h29
          generalize seen (List.replicate 20 Sec.zero) T = L1 at h29
          refine ops_nil ?_
          refine W_seq ?_
          refine W_region ?_
          refine o_mvt rfl ?_
          refine op_call rfl rfl rfl (h29.image (by show 0 < 1000000; omega)) ?_; rintro v30 w30 ⟨hO30, hL30, hN30, hk30, h30⟩
          have hO30 : Own w30 30 64 v30 L1.length (rows secR L1) := hO30
          have hL1 : L1.length = 20 := hL30
          rw [hL1] at hO30
          obtain ⟨a30, c30, rfl, hac30, hcm30⟩ := hO30.form
          refine o_ast rfl ?_
          refine ops_nil ?_
          refine W_seq ?_
          refine W_region ?_
          refine o_makeMap rfl ?_; intro w31 b31 e31 hM31 hk31 hs31
          have h31 := h30.fresh (b0 := b31) hk31 (by omega) (Keep.refl _) (by omega)
          have hO31 := hO30.keep hk31 (fun _ _ => trivial)
          have hw31 : w.heap.size ≤ b31 := by have := h30.kw.size; omega
          have hb31O : InB (· ≠ b31) (.slice a30 20 c30) := fun j hj => by have := hO30.lt j hj; omega
          refine o_ast rfl ?_
          refine ops_nil ?_
          refine W_seq ?_
          refine W_seq ?_
          refine W_region ?_
          refine o_mvt rfl ?_
          refine op_run (r_len rfl rfl rfl) rfl ?_
          refine o_mvc rfl ?_
          refine ops_nil ?_
          refine W_block ?_
          refine W_loop [57] [14, 57, 58, 59, 60, 61, 62, 63, 64, 65, 66, 67, 68, 69, 70, 71] (fun vs w' => ∃ (k : Nat) (T : List (Nat × Sec)) (g : Int → Option Value), vs = [.int .i64 k] ∧ k ≤ ys.length ∧ T.length ≤ k ∧ One w (fun j => ((fun j => False ∨ (Value.slice a30 20 c30).ownBlock = some j) j) ∨ j = b31) b 20 L1 T 0 w' ∧ MapI w' b31 g ∧ Own w' 30 64 (.slice a30 20 c30) 20 (rows secR L1) ∧ (∀ j (hj : j < T.length), g T[j].1 = some (.bool true)) ∧ (∀ i v, g i = some v → v = .bool true)) (fun vs _ => match vs with | [.int _ k] => ys.length - k.toNat | _ => 0) ⟨0, [], _, rfl, by omega, Nat.le_refl _, h31, hM31, hO31, (fun j hj => absurd hj (by simp)), fun i v h => by cases h⟩ ?_
          clear h19 hk hTk
          rintro J vs w32 ⟨k, T, g, rfl, hk, hTk, h32, hM32, hO32, hg1, hg2⟩ -
          refine W_seq ?_
          refine W_region ?_
          refine op_run (r_lss rfl rfl) rfl ?_
          refine ops_nil ?_
          refine W_seq ?_
          refine W_cond_p rfl (fun h33 => ?_) (fun h33 => ?_)
          · refine W_skip ?_
            refine W_seq ?_
            refine W_block ?_
            refine W_seq ?_
            refine W_region ?_
            have hkx : k < ys.length := by omega
            have hinc := inc64' k (by omega)
            obtain ⟨b0, off0, c0, e0, _, hcell⟩ := SlR.at hy (by omega) (by omega)
            cases e0
            obtain ⟨cs, hcl, hcs, ap, np, cp, rfl⟩ := hcell k ys[k] (by simp [hkx])
            have hcs2 : ∀ (j : Nat) (u : Value), (dcR ys[k] (.slice ap np cp))[j]? = some u → w32.cell? ((⟨b0, off0 + (k : Int).toNat * 68, none⟩ : Addr).add j) = some u := fun j u hu => by
              have h := h32.kw.cell (hcs j u hu) trivial
              rw [Int.toNat_natCast, Addr.add_lit]; exact h
            refine op_run (r_idxS rfl rfl rfl hzc (by omega) (by omega)) rfl ?_
            refine op_run (r_loadA (dcR ys[k] (.slice ap np cp)) rfl rfl rfl (by rw [dcR_len]; exact hzc) hcs2) rfl ?_
            refine o_alloc (zl := zc.cells.toList) hzc (by simp) rfl ?_; intro w36 b36 e36 hB36 hk36 hs36
            refine o_storeA (cs := dcR ys[k] (.slice ap np cp)) rfl rfl (dcR_one _ rfl) (by rw [dcR_len]; exact hzc) hB36 (by rw [dcR_len, Array.length_toList, hzcs]; exact Nat.le_refl _) rfl ?_; intro w37 hB37 hk37 hs37
            rw [splice_all (by rw [dcR_len, Array.length_toList, hzcs])] at hB37
            have h37 := h32.fresh hk36 (by omega) hk37 (by omega)
            have hlt32 : b31 < w32.heap.size := by obtain ⟨es, cl, h, _⟩ := hM32; exact lt_of_get h
            have hM37 := (hM32.keep hk36 trivial).keep hk37 (show b31 ≠ b36 by omega)
            have hO37 := (hO32.keep hk36 (fun _ _ => trivial)).keep hk37 (fun j hj => by have := hO32.lt j hj; omega)
            refine ops_nil ?_
            refine W_seq ?_
            refine W_region ?_
            refine o_mvt rfl ?_
            refine op_run (r_fieldAddr rfl rfl rfl rfl rfl) rfl ?_
            refine op_run (r_load rfl rfl rfl (hB37.cell rfl)) rfl ?_
            refine op_run (r_fieldAddr rfl rfl rfl rfl rfl) rfl ?_
            refine op_run (r_loadA (secR ys[k].2.2.2) rfl rfl rfl (ti_secR _) (hB37.from 3 (dcR_sec _ _))) rfl ?_
            refine op_call rfl rfl rfl (h37.write ys[k].2.1 ys[k].2.2.2 (by omega)) ?_; rintro v40 w40 ⟨rfl, h40, hk40⟩
            have hM40 := hM37.keep hk40 (.inl (.inr rfl))
            have hO40 := hO37.keep hk40 (fun j hj => .inl (.inl (.inr hj)))
            have hB40 := hk40.blk' hB37 (.inr rfl)
            have e40 : (if (0 ≤ ys[k].2.1 ∧ ys[k].2.1 < ((20 : Nat) : Int)) ∧ 0 ≠ 1 then 0 - 1 else 0) = 0 := by split <;> rfl
            rw [e40] at h40
            refine op_run (r_eql rfl rfl) rfl ?_
            refine ops_nil ?_
            refine W_cond_p rfl (fun h41 => ?_) (fun h41 => ?_)
            · refine W_region ?_
              refine o_mvt rfl ?_
              refine op_run (r_fieldAddr rfl rfl rfl rfl rfl) rfl ?_
              have hin : 0 ≤ ys[k].2.1 ∧ ys[k].2.1 < ((20 : Nat) : Int) := by
                by_cases hc : 0 ≤ ys[k].2.1 ∧ ys[k].2.1 < ((20 : Nat) : Int)
                · exact hc
                · rw [if_neg hc] at h41; exact absurd h41 (by decide)
              rw [if_pos ⟨hin, by decide⟩] at h40
              refine op_run (r_load rfl rfl rfl (hB40.cell rfl)) rfl ?_
              refine o_mapUpdI (v := (.bool true)) rfl rfl rfl rfl rfl (hM40) rfl ?_; intro w43 hM43 hk43 hs43
              have h43 := h40.other (.inl (.inr rfl)) hw31 hk43
              have hO43 := hO40.keep hk43 hb31O
              refine ops_nil ?_
              refine W_region ?_
              refine op_run (r_add rfl rfl) rfl ?_
              refine o_mvt rfl ?_
              refine ops_nil ?_
              refine ⟨by (repeat (first | with_reducible exact offM_refl _ _ | refine offM_updc rfl ?_ | refine offM_upd rfl ?_ | refine offM_updo rfl ?_ | refine offM_updo_none ?_ | refine offM_head rfl rfl ?_)), ⟨k + 1, T ++ [(ys[k].2.1.toNat, ys[k].2.2.2)], _, ?_, by omega, by rw [List.length_append]; simp; omega, h43.mono (fun j hj => .inl hj), hM43, hO43, fun j hj => ?_, fun i v hi => ?_⟩, ?_⟩
              · rw [← hinc]; rfl
              · rw [List.length_append] at hj
                by_cases hjT : j < T.length
                · rw [List.getElem_append_left hjT]
                  show (if _ then _ else _) = _
                  split
                  · rfl
                  · exact hg1 j hjT
                · have hj : j = T.length := by simp at hj; omega
                  subst hj
                  rw [List.getElem_append_right (Nat.le_refl _)]
                  show (if _ then _ else _) = _
                  rw [if_pos (by simp; omega)]
              · have hi : (if i = ys[k].2.1 then some (Value.bool true) else g i) = some v := hi
                split at hi
                · injection hi with hi; exact hi.symm
                · exact hg2 i v hi
              · show ys.length - (IntKind.i64.wrap ((k : Int) + 1)).toNat < ys.length - (k : Int).toNat
                rw [hinc]; omega
            · refine W_skip ?_
              refine W_region ?_
              refine op_run (r_add rfl rfl) rfl ?_
              refine o_mvt rfl ?_
              refine ops_nil ?_
              have hin : ¬ (0 ≤ ys[k].2.1 ∧ ys[k].2.1 < ((20 : Nat) : Int)) := fun hc => h41 (by rw [if_pos hc])
              rw [if_neg (fun h => hin h.1)] at h40
              refine ⟨by (repeat (first | with_reducible exact offM_refl _ _ | refine offM_updc rfl ?_ | refine offM_upd rfl ?_ | refine offM_updo rfl ?_ | refine offM_updo_none ?_ | refine offM_head rfl rfl ?_)), ⟨k + 1, T, g, ?_, by omega, by omega, h40.mono (fun j hj => .inl hj), hM40, hO40, hg1, hg2⟩, ?_⟩
              · rw [← hinc]; rfl
              · show ys.length - (IntKind.i64.wrap ((k : Int) + 1)).toNat < ys.length - (k : Int).toNat
                rw [hinc]; omega
          · refine W_exit ?_
            refine W_seq ?_
            refine W_region ?_
            refine o_mvt rfl ?_
            refine o_mvt rfl ?_
            refine op_call rfl rfl rfl (h32.crash (.slice a3 ps.length c3) ps (by omega) hv) ?_; rintro v46 w46 ⟨h46, hk46⟩
            have hM46 := hM32.keep hk46 (.inr rfl)
            have hO46 := hO32.keep hk46 (fun j hj => .inl (.inr hj))
            have hL2len : (landL (fate (picks ps)) L1 T T.length).length = 20 := by rw [landL_len, hL1]
            have hL2 : ∀ p, (∀ j (hj : j < T.length), T[j].1 ≠ p) → (landL (fate (picks ps)) L1 T T.length)[p]? = L1[p]? := fun p h => landL_other h _ (Nat.le_refl _)
            generalize landL (fate (picks ps)) L1 T T.length = L2 at h46 hL2 hL2len
            refine ops_nil ?_
            refine W_seq ?_
            refine W_region ?_
            refine o_mvt rfl ?_
            refine op_call rfl rfl rfl (h46.image (by show 0 < 1000000; omega)) ?_; rintro v47 w47 ⟨hO47, hL47, hN47, hk47, h47⟩
            have hO47 : Own w47 30 64 v47 L2.length (rows secR L2) := hO47
            obtain ⟨a47, c47, rfl, hac47, hcm47⟩ := hO47.form
            refine o_ast rfl ?_
            refine ops_nil ?_
            refine W_seq ?_
            refine W_region ?_
            refine o_mvt rfl ?_
            refine o_mvt rfl ?_
            refine op_call rfl rfl rfl (h47.crash (.slice a3 ps.length c3) ps (by show 0 < 1000000; omega) hv) ?_; rintro v48 w48 ⟨h48, hk48⟩
            have hM48 := (hM46.keep hk47 trivial).keep hk48 (.inl (.inr rfl))
            have hO48 := (hO46.keep hk47 (fun _ _ => trivial)).keep hk48 (fun j hj => .inl (.inl (.inr hj)))
            have hl48 := hO47.keep hk48 (fun j hj => .inr hj)
            have h48 : One w _ b 20 L2 [] 0 w48 := h48
            refine ops_nil ?_
            refine W_seq ?_
            refine W_cut [94] [80, 81, 82, 83, 84, 85, 86, 87, 88, 89, 90, 91, 92, 93, 94] (fun vs w49 => vs = [.bool false] ∧ MapI w49 b31 g ∧ Own w49 30 64 (.slice a30 20 c30) 20 (rows secR L1) ∧ Own w49 30 64 (.slice a47 L2.length c47) L2.length (rows secR L2) ∧ Keep All w w49) ?_ ?_
            · refine W_region ?_
              refine o_mvt rfl ?_
              refine op_call rfl rfl rfl (h48.image (by show 0 < 1000000; omega)) ?_; rintro v50 w50 ⟨hO50, hL50, hN50, hk50, h50⟩
              refine o_mvt rfl ?_
              refine op_call rfl rfl rfl (w04_same w50 v50 (.slice a47 L2.length c47) L2 L2 hO50.sl ((hl48.keep hk50 (fun _ _ => trivial)).sl) (by omega)) ?_; rintro v51 w51 ⟨rfl, hk51⟩
              refine op_run (r_not rfl) rfl ?_
              refine o_mvt rfl ?_
              refine g_split rfl rfl rfl (fun g52 => ?_) (fun g52 => ?_)
              · refine o_mvt (g_yes rfl rfl rfl (by rw [g52] <;> rfl)) ?_
                refine op_run (r_len rfl rfl rfl) (g_yes rfl rfl rfl (by rw [g52] <;> rfl)) ?_
                refine op_run (r_neq rfl rfl) (g_yes rfl rfl rfl (by rw [g52] <;> rfl)) ?_
                refine o_pkFt rfl (by rw [g52] <;> rfl) rfl ?_
                refine o_mvt rfl ?_
                refine g_split rfl rfl rfl (fun g53 => ?_) (fun g53 => ?_)
                · refine o_mvt (g_yes rfl rfl rfl g53) ?_
                  refine op_run (r_len rfl rfl rfl) (g_yes rfl rfl rfl g53) ?_
                  refine op_run (r_neq rfl rfl) (g_yes rfl rfl rfl g53) ?_
                  refine o_pkFt rfl g53 rfl ?_
                  refine ops_nil ?_
                  exact ⟨by (repeat (first | with_reducible exact offM_refl _ _ | refine offM_updc rfl ?_ | refine offM_upd rfl ?_ | refine offM_updo rfl ?_ | refine offM_updo_none ?_ | refine offM_head rfl rfl ?_)), rfl, (hM48.keep hk50 trivial).keep hk51 trivial, (hO48.keep hk50 (fun _ _ => trivial)).keep hk51 (fun _ _ => trivial), (hl48.keep hk50 (fun _ _ => trivial)).keep hk51 (fun _ _ => trivial), (h48.kw.trans hk50).trans hk51⟩
                · refine op_skip (g_no rfl rfl rfl g53) ?_
                  refine op_skip (g_no rfl rfl rfl g53) ?_
                  refine op_skip (g_no rfl rfl rfl g53) ?_
                  refine o_pkTc rfl g53 rfl ?_
                  refine ops_nil ?_
                  exact absurd (of_decide_eq_true g53) (by omega)
              · refine op_skip (g_no rfl rfl rfl (by rw [g52] <;> rfl)) ?_
                refine op_skip (g_no rfl rfl rfl (by rw [g52] <;> rfl)) ?_
                refine op_skip (g_no rfl rfl rfl (by rw [g52] <;> rfl)) ?_
                refine o_pkTc rfl (by rw [g52] <;> rfl) rfl ?_
                refine o_mvt rfl ?_
                refine op_skip (g_no rfl rfl rfl rfl) ?_
                refine op_skip (g_no rfl rfl rfl rfl) ?_
                refine op_skip (g_no rfl rfl rfl rfl) ?_
                refine o_pkTc rfl rfl rfl ?_
                refine ops_nil ?_
                exact absurd g52 (by simp)
            · rintro J57 vs w57 ⟨rfl, hM57, hO57, hl57, hk57⟩ -
              refine W_no rfl (rfl) ?_
              refine W_skip ?_
              refine W_seq ?_
              refine W_seq ?_
              refine W_region ?_
              refine o_mvt rfl ?_
              refine op_run (r_len rfl rfl rfl) rfl ?_
              refine o_mvc rfl ?_
              refine ops_nil ?_
              refine W_block ?_
              refine W_loop [97] [6, 16, 97, 98, 99, 100, 101, 102, 103, 104, 105, 106, 107, 108, 109, 110, 111, 112, 113, 114, 115] (fun vs w' => ∃ i : Nat, vs = [.int .i64 i] ∧ i ≤ L2.length ∧ Keep All w57 w') (fun vs _ => match vs with | [.int _ i] => L2.length - i.toNat | _ => 0) ⟨0, rfl, by omega, Keep.refl _⟩ ?_
              rintro J60 vs w60 ⟨i, rfl, hi, hk60⟩ -
              refine W_seq ?_
              refine W_region ?_
              refine op_run (r_lss rfl rfl) rfl ?_
              refine ops_nil ?_
              refine W_seq ?_
              refine W_cond_p rfl (fun h61 => ?_) (fun h61 => ?_)
              · refine W_skip ?_
                refine W_seq ?_
                refine W_block ?_
                refine W_seq ?_
                refine W_region ?_
                refine o_mvt rfl ?_
                refine o_ast rfl ?_
                refine ops_nil ?_
                have hi2 : i < L2.length := by omega
                have hi1 : i < L1.length := by omega
                have hinci := inc64' i (by omega)
                have hl60 : Own w60 30 64 (.slice a47 L2.length c47) L2.length (rows secR L2) := hl57.keep hk60 (fun _ _ => trivial)
                have hO60 : Own w60 30 64 (.slice a30 L1.length c30) L1.length (rows secR L1) := by rw [hL1]; exact hO57.keep hk60 (fun _ _ => trivial)
                have hM60 := hM57.keep hk60 trivial
                obtain ⟨bl, ol, rfl, hcl⟩ := rows_at' secR_len hl60.sl hi2 (by omega)
                obtain ⟨bw, ow, rfl, hcw⟩ := rows_at' secR_len hO60.sl hi1 (by omega)
                have hcl' : ∀ w', Keep All w60 w' → ∀ (j : Nat) (v : Value), (secR L2[i])[j]? = some v → w'.cell? ((⟨bl, ol + (i : Int).toNat * 64, none⟩ : Addr).add j) = some v := fun w' hk j v hv => by
                  rw [Int.toNat_natCast]; exact hk.cell (hcl j v hv) trivial
                have hcw' : ∀ w', Keep All w60 w' → ∀ (j : Nat) (v : Value), (secR L1[i])[j]? = some v → w'.cell? ((⟨bw, ow + (i : Int).toNat * 64, none⟩ : Addr).add j) = some v := fun w' hk j v hv => by
                  rw [Int.toNat_natCast]; exact hk.cell (hcw j v hv) trivial
                obtain ⟨tb, htb⟩ : ∃ tb, (g (i : Int)).getD (.bool false) = .bool tb := by
                  cases hgi : g (i : Int) with
                  | none => exact ⟨false, rfl⟩
                  | some v => exact ⟨true, by rw [hg2 _ _ hgi]; rfl⟩
                have hno : tb = false → L2[i] = L1[i] := fun ht => by
                  have h := hL2 i (fun j hj e => by
                    have h1 := hg1 j hj
                    rw [e] at h1
                    rw [h1] at htb
                    injection htb with htb
                    rw [ht] at htb; cases htb)
                  rw [List.getElem?_eq_getElem hi2, List.getElem?_eq_getElem hi1] at h
                  injection h
                refine W_cut [114] [100, 101, 102, 103, 104, 105, 106, 107, 108, 109, 110, 111, 112, 113, 114] (fun vs w62 => vs = [.bool false] ∧ Keep All w60 w62) ?_ ?_
                · refine W_quiet (Keep All w60) (by kernel_rfl) (by kernel_rfl) (Keep.drawn _) ?_
                  refine q_mvt rfl ?_
                  refine q_mvt rfl ?_
                  refine q_run (fun _ hk => (r_lookupI rfl rfl rfl rfl ti_bool' (hM60.keep hk trivial)).val htb) rfl ?_
                  refine q_run (fun _ _ => (r_not rfl)) rfl ?_
                  refine q_mvt rfl ?_
                  refine q_split rfl rfl rfl (fun g65 => ?_) (fun g65 => ?_)
                  · refine q_mvt (g_yes rfl rfl rfl (by rw [g65] <;> rfl)) ?_
                    refine q_mvt (g_yes rfl rfl rfl (by rw [g65] <;> rfl)) ?_
                    refine q_run (fun _ _ => r_idxS rfl rfl rfl ti_sec (by omega) (by omega)) (g_yes rfl rfl rfl (by rw [g65] <;> rfl)) ?_
                    refine q_run (fun _ hk => r_loadA (secR L2[i]) rfl rfl rfl (ti_secR _) (hcl' _ hk)) (g_yes rfl rfl rfl (by rw [g65] <;> rfl)) ?_
                    refine q_mvt (g_yes rfl rfl rfl (by rw [g65] <;> rfl)) ?_
                    refine q_mvt (g_yes rfl rfl rfl (by rw [g65] <;> rfl)) ?_
                    refine q_run (fun _ _ => r_idxS rfl rfl rfl ti_sec (by omega) (by omega)) (g_yes rfl rfl rfl (by rw [g65] <;> rfl)) ?_
                    refine q_run (fun _ hk => r_loadA (secR L1[i]) rfl rfl rfl (ti_secR _) (hcw' _ hk)) (g_yes rfl rfl rfl (by rw [g65] <;> rfl)) ?_
                    refine q_run (fun _ _ => (r_neqC (p := L2[i] = L1[i]) rfl rfl rfl rfl rfl (okC_sec _) (okC_sec _) rfl (secR_inj))) (g_yes rfl rfl rfl (by rw [g65] <;> rfl)) ?_
                    refine q_pkTt rfl (by rw [g65] <;> rfl) rfl ?_
                    refine q_nil ?_; intro w71 hk71
                    exact ⟨by (repeat (first | with_reducible exact offM_refl _ _ | refine offM_updc rfl ?_ | refine offM_upd rfl ?_ | refine offM_updo rfl ?_ | refine offM_updo_none ?_ | refine offM_head rfl rfl ?_)), congrArg (fun b => [Value.bool b]) (by rw [decide_eq_true (hno (by simpa using g65))]; rfl), hk71⟩
                  · refine q_skip (g_no rfl rfl rfl (by rw [g65] <;> rfl)) ?_
                    refine q_skip (g_no rfl rfl rfl (by rw [g65] <;> rfl)) ?_
                    refine q_skip (g_no rfl rfl rfl (by rw [g65] <;> rfl)) ?_
                    refine q_skip (g_no rfl rfl rfl (by rw [g65] <;> rfl)) ?_
                    refine q_skip (g_no rfl rfl rfl (by rw [g65] <;> rfl)) ?_
                    refine q_skip (g_no rfl rfl rfl (by rw [g65] <;> rfl)) ?_
                    refine q_skip (g_no rfl rfl rfl (by rw [g65] <;> rfl)) ?_
                    refine q_skip (g_no rfl rfl rfl (by rw [g65] <;> rfl)) ?_
                    refine q_skip (g_no rfl rfl rfl (by rw [g65] <;> rfl)) ?_
                    refine q_pkFc rfl (by rw [g65] <;> rfl) rfl ?_
                    refine q_nil ?_; intro w73 hk73
                    exact ⟨by (repeat (first | with_reducible exact offM_refl _ _ | refine offM_updc rfl ?_ | refine offM_upd rfl ?_ | refine offM_updo rfl ?_ | refine offM_updo_none ?_ | refine offM_head rfl rfl ?_)), rfl, hk73⟩
                · rintro J75 vs w75 ⟨rfl, hk75⟩ -
                  refine W_no rfl (rfl) ?_
                  refine W_skip ?_
                  refine W_region ?_
                  refine op_run (r_add rfl rfl) rfl ?_
                  refine o_mvt rfl ?_
                  refine ops_nil ?_
                  refine ⟨by (repeat (first | with_reducible exact offM_refl _ _ | refine offM_updc rfl ?_ | refine offM_upd rfl ?_ | refine offM_updo rfl ?_ | refine offM_updo_none ?_ | refine offM_head rfl rfl ?_)), ⟨i + 1, ?_, by omega, hk60.trans hk75⟩, ?_⟩
                  · rw [← hinci]; rfl
                  · show L2.length - (IntKind.i64.wrap ((i : Int) + 1)).toNat < L2.length - (i : Int).toNat
                    rw [hinci]; omega
              · refine W_exit ?_
                refine W_seq ?_
                refine W_region ?_
                refine o_asc rfl ?_
                refine ops_nil ?_
                refine W_ret ?_
                refine ret1 (.bool true) rfl ?_ ?_; rfl
                exact ⟨rfl, hk57.trans hk60⟩
end Go.Proofs.Ytmhbpfbidbccfaa.B
