/-
  DiskFuse's walk.
-/
import Derived.Test.YtmhbpfbidbccfaaTwo
namespace Go.Proofs.Ytmhbpfbidbccfaa.B
open Go
set_option linter.unusedVariables false
set_option maxHeartbeats 2000000
set_option maxRecDepth 100000
attribute [local irreducible] W OpsW OpsQ retP
theorem and_31 (a : Int) : ∃ m : Nat, m ≤ 31 ∧ bitw .and .i64 a 31 = (m : Int) := by
  have h : (BitVec.ofInt IntKind.i64.bits a &&& BitVec.ofInt IntKind.i64.bits 31).toNat ≤ 31 := by
    rw [BitVec.toNat_and]
    exact Nat.and_le_right
  refine ⟨_, h, ?_⟩
  show IntKind.i64.wrap ((BitVec.ofInt IntKind.i64.bits a &&& BitVec.ofInt IntKind.i64.bits 31).toNat : Int) = _
  rw [wrap_i64 (by omega) (by omega)]
theorem walk_DiskFuse (w : World) (v : Value) (xs : List DCall) (n : Int) (hx : DCs w v xs) :
    Ret Try.prog 4 [v, .int .i64 n].toArray w fun r w' => r = .bool true ∧ Keep All w w' := by
  have hxl := hx.len_le
  obtain ⟨a1, c1, rfl, _, _⟩ := hx.form
  obtain ⟨zc, hzc, hzcs⟩ := ti_dc
  obtain ⟨m, hm31, hm⟩ := and_31 n
  refine enter (fn := Try.f4) (n := 120) Try.func4 rfl rfl (by simp) ?_
  refine W_seq ?_
  refine W_region ?_
  refine o_asc rfl ?_
  refine ops_nil ?_
  refine W_seq ?_
  refine W_seq ?_
  refine W_region ?_
  refine op_call rfl rfl rfl (speaks04 w) ?_; rintro v1 w1 ⟨rfl, hk1⟩
  refine op_run (r_not rfl) rfl ?_
  refine ops_nil ?_
  refine W_no rfl (rfl) ?_
  refine W_skip ?_
  refine W_seq ?_
  refine W_seq ?_
  refine W_region ?_
  refine o_mvt rfl ?_
  refine op_run (r_len rfl rfl rfl) rfl ?_
  refine op_run (r_gtr rfl rfl) rfl ?_
  refine ops_nil ?_
  refine W_cond_p rfl (fun h4 => ?_) (fun h4 => ?_)
  · refine W_seq ?_
    refine W_region ?_
    refine o_asc rfl ?_
    refine ops_nil ?_
    refine W_ret ?_
    refine ret1 (.bool true) rfl ?_ ?_; rfl
    exact ⟨rfl, hk1⟩
  · refine W_skip ?_
    refine W_seq ?_
    refine W_region ?_
    refine op_call rfl rfl rfl (dk_New w1 20) ?_; rintro v6 w6 ⟨a6, e6, rfl, h6⟩
    obtain ⟨_, b, rfl, rfl, hb, hD6, hk6⟩ := h6.resolve_left (fun h => by omega)
    obtain ⟨Ad, hD6', hAd⟩ := hD6.shrink
    refine o_mvt rfl ?_
    refine op_run (r_extract rfl rfl) rfl ?_
    refine op_run (r_extract rfl rfl) rfl ?_
    refine o_ast rfl ?_
    refine o_ast rfl ?_
    refine ops_nil ?_
    refine W_seq ?_
    refine W_region ?_
    refine op_call rfl rfl rfl (dk_New w6 20) ?_; rintro v7 w7 ⟨a7, e7, rfl, h7⟩
    obtain ⟨_, bx, rfl, rfl, hbx, hX7, hk7⟩ := h7.resolve_left (fun h => by omega)
    obtain ⟨Ax, hX7', hAx⟩ := hX7.shrink
    have hs1 := hk1.size
    have hs6 := hk6.size
    have hs7 := hk7.size
    refine o_mvt rfl ?_
    refine op_run (r_extract rfl rfl) rfl ?_
    refine op_run (r_extract rfl rfl) rfl ?_
    refine o_ast rfl ?_
    refine o_ast rfl ?_
    refine ops_nil ?_
    refine W_seq ?_
    refine W_cut [39] [26, 27, 28, 29, 30, 31, 32, 33, 34, 35, 36, 37, 38, 39] (fun vs w8 => vs = [.bool false] ∧ w8 = w7) ?_ ?_
    · refine W_region ?_
      refine o_mvt rfl ?_
      refine op_run (r_neq rfl rfl) rfl ?_
      refine o_mvt rfl ?_
      refine g_split rfl rfl rfl (fun g9 => ?_) (fun g9 => ?_)
      · refine o_mvt (g_yes rfl rfl rfl g9) ?_
        refine op_run (r_neq rfl rfl) (g_yes rfl rfl rfl g9) ?_
        refine o_pkFt rfl g9 rfl ?_
        refine o_mvt rfl ?_
        refine g_split rfl rfl rfl (fun g10 => ?_) (fun g10 => ?_)
        · refine o_mvt (g_yes rfl rfl rfl g10) ?_
          refine op_run (r_isNilP rfl rfl) (g_yes rfl rfl rfl g10) ?_
          refine o_pkFt rfl g10 rfl ?_
          refine o_mvt rfl ?_
          refine g_split rfl rfl rfl (fun g11 => ?_) (fun g11 => ?_)
          · refine o_mvt (g_yes rfl rfl rfl g11) ?_
            refine op_run (r_isNilP rfl rfl) (g_yes rfl rfl rfl g11) ?_
            refine o_pkFt rfl g11 rfl ?_
            refine ops_nil ?_
            exact ⟨by (repeat (first | with_reducible exact offM_refl _ _ | refine offM_updc rfl ?_ | refine offM_upd rfl ?_ | refine offM_updo rfl ?_ | refine offM_updo_none ?_ | refine offM_head rfl rfl ?_)), rfl, rfl⟩
          · refine op_skip (g_no rfl rfl rfl g11) ?_
            refine op_skip (g_no rfl rfl rfl g11) ?_
            refine o_pkTc rfl g11 rfl ?_
            refine ops_nil ?_
            exact absurd g11 (by simp)
        · refine op_skip (g_no rfl rfl rfl g10) ?_
          refine op_skip (g_no rfl rfl rfl g10) ?_
          refine o_pkTc rfl g10 rfl ?_
          refine o_mvt rfl ?_
          refine op_skip (g_no rfl rfl rfl rfl) ?_
          refine op_skip (g_no rfl rfl rfl rfl) ?_
          refine o_pkTc rfl rfl rfl ?_
          refine ops_nil ?_
          exact absurd (of_decide_eq_true g10) (by simp)
      · refine op_skip (g_no rfl rfl rfl g9) ?_
        refine op_skip (g_no rfl rfl rfl g9) ?_
        refine o_pkTc rfl g9 rfl ?_
        refine o_mvt rfl ?_
        refine op_skip (g_no rfl rfl rfl rfl) ?_
        refine op_skip (g_no rfl rfl rfl rfl) ?_
        refine o_pkTc rfl rfl rfl ?_
        refine o_mvt rfl ?_
        refine op_skip (g_no rfl rfl rfl rfl) ?_
        refine op_skip (g_no rfl rfl rfl rfl) ?_
        refine o_pkTc rfl rfl rfl ?_
        refine ops_nil ?_
        exact absurd (of_decide_eq_true g9) (by simp)
    · rintro J16 vs w16 ⟨rfl, rfl⟩ -
      refine W_no rfl (rfl) ?_
      refine W_skip ?_
      refine W_seq ?_
      refine W_region ?_
      refine o_mvt rfl ?_
      refine op_run ((r_and rfl rfl).val (congrArg (Value.int .i64) hm)) rfl ?_
      refine o_ast rfl ?_
      refine ops_nil ?_
      refine W_seq ?_
      refine W_region ?_
      refine o_mvt rfl ?_
      refine o_mvt rfl ?_
      refine op_call rfl rfl rfl (dk_Fuse w16 b Ad 20 _ _ 0 m (by omega) (hD6'.keep hk7 (fun _ _ => trivial))) ?_; rintro v19 w19 ⟨hD19, hk19⟩
      have hAb : Ad b := by obtain ⟨_, _, _, _, _, _, _, _, _, h, _⟩ := hD19; exact h
      have h19 : Two w (fun _ => False) b bx 20 (List.replicate 20 Sec.zero) [] (m + 1) (List.replicate 20 Sec.zero) [] 0 w19 := by
        have hs := hk19.size
        refine ⟨Ad, Ax, hD19, hX7'.keep hk19 (fun k hk e => ?_), fun j hj => ?_, fun j hj => ?_, fun j hj => hj.elim, ((hk1.trans hk6).trans hk7).new hk19 ?_⟩
        · subst e; have := (hAx _ hk).1; have := (hAd _ hAb).2; omega
        · have := hAd j hj; exact ⟨by omega, by omega, fun h => by have := (hAx j h).1; omega, fun h => h⟩
        · have := hAx j hj; exact ⟨by omega, by omega, fun h => h⟩
        · have := (hAd _ hAb).1; omega
      refine ops_nil ?_
      refine W_seq ?_
      refine W_seq ?_
      refine W_region ?_
      refine o_mvt rfl ?_
      refine op_run (r_len rfl rfl rfl) rfl ?_
      refine o_mvc rfl ?_
      refine ops_nil ?_
      refine W_block ?_
      clear hm
      refine W_loop [9, 47] [4, 9, 11, 12, 47, 48, 49, 50, 51, 52, 53, 54, 55, 56, 57, 58, 59, 60, 61, 62, 63, 64, 65, 66, 67, 68, 69, 70, 71, 72, 73, 74, 75, 76, 77, 78, 79, 80, 81, 82, 83, 84, 85, 86, 87, 88, 89, 90, 91, 92, 93, 94, 95, 96, 97, 98, 99, 100, 101, 102, 103, 104, 105] (fun vs w' => ∃ (m k : Nat) (L : List Sec) (T : List (Nat × Sec)) (K : Nat → Prop), vs = [.int .i64 m, .int .i64 k] ∧ k ≤ xs.length ∧ m ≤ 31 ∧ T.length ≤ k ∧ Two w K b bx 20 L T (m + 1) L T 0 w') (fun vs _ => match vs with | [_, .int _ k] => xs.length - k.toNat | _ => 0) ⟨m, 0, _, [], _, rfl, by omega, hm31, Nat.le_refl _, h19⟩ ?_
      clear hm31 h19 hD19 hk19
      rintro J vs w20 ⟨m, k, L, T, K, rfl, hk, hm31, hTk, h20⟩ -
      refine W_seq ?_
      refine W_region ?_
      refine op_run (r_lss rfl rfl) rfl ?_
      refine ops_nil ?_
      refine W_seq ?_
      refine W_cond_p rfl (fun h21 => ?_) (fun h21 => ?_)
      · refine W_skip ?_
        refine W_seq ?_
        refine W_block ?_
        refine W_seq ?_
        refine W_region ?_
        have hkx : k < xs.length := by omega
        have hinc := inc64' k (by omega)
        obtain ⟨b0, off0, c0, e0, _, hcell⟩ := SlR.at hx (by omega) (by omega)
        cases e0
        obtain ⟨cs, hcl, hcs, ap, np, cp, rfl⟩ := hcell k xs[k] (by simp [hkx])
        have hcs2 : ∀ (j : Nat) (u : Value), (dcR xs[k] (.slice ap np cp))[j]? = some u → w20.cell? ((⟨b0, off0 + (k : Int).toNat * 68, none⟩ : Addr).add j) = some u := fun j u hu => by
          have h := h20.kw.cell (hcs j u hu) trivial
          rw [Int.toNat_natCast, Addr.add_lit]; exact h
        refine op_run (r_idxS rfl rfl rfl hzc (by omega) (by omega)) rfl ?_
        refine op_run (r_loadA (dcR xs[k] (.slice ap np cp)) rfl rfl rfl (by rw [dcR_len]; exact hzc) hcs2) rfl ?_
        refine o_alloc (zl := zc.cells.toList) hzc (by simp) rfl ?_; intro w24 b24 e24 hB24 hk24 hs24
        refine o_storeA (cs := dcR xs[k] (.slice ap np cp)) rfl rfl (dcR_one _ rfl) (by rw [dcR_len]; exact hzc) hB24 (by rw [dcR_len, Array.length_toList, hzcs]; exact Nat.le_refl _) rfl ?_; intro w25 hB25 hk25 hs25
        rw [splice_all (by rw [dcR_len, Array.length_toList, hzcs])] at hB25
        have h25 := h20.fresh hk24 (by omega) hk25 (by omega)
        refine ops_nil ?_
        refine W_cut [12] [12, 51, 52, 53, 54, 55, 56, 57, 58] (fun vs w26 => vs = [.bool (decide (0 ≤ xs[k].2.1 ∧ xs[k].2.1 < 20))] ∧ w26 = w25) ?_ ?_
        · refine W_region ?_
          refine op_run (r_fieldAddr rfl rfl rfl rfl rfl) rfl ?_
          refine op_run (r_load rfl rfl rfl (hB25.cell rfl)) rfl ?_
          refine op_run (r_geq rfl rfl) rfl ?_
          refine o_mvt rfl ?_
          refine g_split rfl rfl rfl (fun g28 => ?_) (fun g28 => ?_)
          · refine op_run (r_fieldAddr rfl rfl rfl rfl rfl) (g_yes rfl rfl rfl g28) ?_
            refine op_run (r_load rfl rfl rfl (hB25.cell rfl)) (g_yes rfl rfl rfl g28) ?_
            refine op_run (r_lss rfl rfl) (g_yes rfl rfl rfl g28) ?_
            refine o_pkTt rfl g28 rfl ?_
            refine o_ast rfl ?_
            refine ops_nil ?_
            exact ⟨by (repeat (first | with_reducible exact offM_refl _ _ | refine offM_updc rfl ?_ | refine offM_upd rfl ?_ | refine offM_updo rfl ?_ | refine offM_updo_none ?_ | refine offM_head rfl rfl ?_)), congrArg (fun b => [Value.bool b]) (by have := of_decide_eq_true g28; rw [decide_eq_decide]; constructor <;> intro hh <;> omega), rfl⟩
          · refine op_skip (g_no rfl rfl rfl g28) ?_
            refine op_skip (g_no rfl rfl rfl g28) ?_
            refine op_skip (g_no rfl rfl rfl g28) ?_
            refine o_pkFc rfl g28 rfl ?_
            refine o_ast rfl ?_
            refine ops_nil ?_
            exact ⟨by (repeat (first | with_reducible exact offM_refl _ _ | refine offM_updc rfl ?_ | refine offM_upd rfl ?_ | refine offM_updo rfl ?_ | refine offM_updo_none ?_ | refine offM_head rfl rfl ?_)), congrArg (fun b => [Value.bool b]) (by have := of_decide_eq_false g28; symm; apply decide_eq_false; omega), rfl⟩
        · rintro J32 vs w32 ⟨rfl, rfl⟩ -
          refine W_cut [9] [9, 59, 60, 61, 62, 63, 64, 65, 66, 67, 68, 69, 70, 71, 72, 73, 74, 75, 76, 77, 78, 79, 80, 81, 82, 83, 84, 85, 86, 87, 88, 89, 90, 91] (fun vs w33 => ∃ (m : Nat) (L : List Sec) (T : List (Nat × Sec)), vs = [.int .i64 m] ∧ m ≤ 31 ∧ T.length ≤ k + 1 ∧ Two w (· = b24) b bx 20 L T (m + 1) L T 0 w33) ?_ ?_
          · refine W_seq ?_
            refine W_region ?_
            refine op_run (r_fieldAddr rfl rfl rfl rfl rfl) rfl ?_
            refine op_run (r_load rfl rfl rfl (hB25.cell rfl)) rfl ?_
            refine ops_nil ?_
            refine W_block ?_
            refine W_seq ?_
            refine W_region ?_
            refine op_run (r_eql rfl rfl) rfl ?_
            refine o_ast rfl ?_
            refine ops_nil ?_
            refine W_cond_p rfl (fun h35 => ?_) (fun h35 => ?_)
            · refine W_seq ?_
              refine W_region ?_
              refine o_mvt rfl ?_
              refine op_run (r_fieldAddr rfl rfl rfl rfl rfl) rfl ?_
              refine op_run (r_load rfl rfl rfl (hB25.cell rfl)) rfl ?_
              refine op_run (r_fieldAddr rfl rfl rfl rfl rfl) rfl ?_
              refine op_run (r_loadA (secR xs[k].2.2.2) rfl rfl rfl (ti_secR _) (hB25.from 3 (dcR_sec _ _))) rfl ?_
              refine op_call rfl rfl rfl (h25.write xs[k].2.1 xs[k].2.2.2 (by omega)) ?_; rintro v38 w38 ⟨rfl, h38, hk38⟩
              have hB38 := hk38.blk' hB25 rfl
              refine ops_nil ?_
              refine W_cut [73] [69, 70, 71, 72, 73] (fun vs w39 => vs = [.bool (decide (0 < m ∧ 0 ≤ xs[k].2.1 ∧ xs[k].2.1 < 20))] ∧ w39 = w38) ?_ ?_
              · refine W_region ?_
                refine o_mvt rfl ?_
                refine op_run (r_gtr rfl rfl) rfl ?_
                refine o_mvt rfl ?_
                refine g_split rfl rfl rfl (fun g40 => ?_) (fun g40 => ?_)
                · refine o_mvt (g_yes rfl rfl rfl g40) ?_
                  refine o_pkTt rfl g40 rfl ?_
                  refine ops_nil ?_
                  exact ⟨by (repeat (first | with_reducible exact offM_refl _ _ | refine offM_updc rfl ?_ | refine offM_upd rfl ?_ | refine offM_updo rfl ?_ | refine offM_updo_none ?_ | refine offM_head rfl rfl ?_)), congrArg (fun b => [Value.bool b]) (by have := of_decide_eq_true g40; rw [decide_eq_decide]; constructor <;> intro hh <;> omega), rfl⟩
                · refine op_skip (g_no rfl rfl rfl g40) ?_
                  refine o_pkFc rfl g40 rfl ?_
                  refine ops_nil ?_
                  exact ⟨by (repeat (first | with_reducible exact offM_refl _ _ | refine offM_updc rfl ?_ | refine offM_upd rfl ?_ | refine offM_updo rfl ?_ | refine offM_updo_none ?_ | refine offM_head rfl rfl ?_)), congrArg (fun b => [Value.bool b]) (by have := of_decide_eq_false g40; symm; apply decide_eq_false; omega), rfl⟩
              · rintro J43 vs w43 ⟨rfl, rfl⟩ -
                refine W_cond_p rfl (fun h44 => ?_) (fun h44 => ?_)
                · refine W_seq ?_
                  refine W_region ?_
                  refine o_mvt rfl ?_
                  refine op_run (r_fieldAddr rfl rfl rfl rfl rfl) rfl ?_
                  refine op_run (r_load rfl rfl rfl (hB38.cell rfl)) rfl ?_
                  refine op_run (r_fieldAddr rfl rfl rfl rfl rfl) rfl ?_
                  refine op_run (r_loadA (secR xs[k].2.2.2) rfl rfl rfl (ti_secR _) (hB38.from 3 (dcR_sec _ _))) rfl ?_
                  refine op_call rfl rfl rfl (h38.swap.write xs[k].2.1 xs[k].2.2.2 (by omega)) ?_; rintro v47 w47 ⟨rfl, h47, hk47⟩
                  refine ops_nil ?_
                  refine W_region ?_
                  refine o_mvt rfl ?_
                  refine op_run ((r_sub rfl rfl).val (congrArg (Value.int .i64) (show IntKind.i64.wrap ((m : Int) - 1) = ((m - 1 : Nat) : Int) from (wrap_i64 (by omega) (by omega)).trans (by omega)))) rfl ?_
                  refine o_ast rfl ?_
                  refine ops_nil ?_
                  have hc : (0 ≤ xs[k].2.1 ∧ xs[k].2.1 < ((20 : Nat) : Int)) ∧ m + 1 ≠ 1 := ⟨⟨h44.2.1, h44.2.2⟩, by omega⟩
                  have hc0 : (0 ≤ xs[k].2.1 ∧ xs[k].2.1 < ((20 : Nat) : Int)) ∧ 0 ≠ 1 := ⟨hc.1, by decide⟩
                  rw [if_pos hc, if_pos hc, if_pos hc0, if_pos hc0] at h47
                  refine ⟨by (repeat (first | with_reducible exact offM_refl _ _ | refine offM_updc rfl ?_ | refine offM_upd rfl ?_ | refine offM_updo rfl ?_ | refine offM_updo_none ?_ | refine offM_head rfl rfl ?_)), m - 1, L, T ++ [(xs[k].2.1.toNat, xs[k].2.2.2)], rfl, by omega, ?_, ?_⟩
                  · rw [List.length_append]; simp; omega
                  · have e : m - 1 + 1 = m + 1 - 1 := by omega
                    rw [e]; exact h47.swap
                · refine W_skip ?_
                  have hc : ¬ ((0 ≤ xs[k].2.1 ∧ xs[k].2.1 < ((20 : Nat) : Int)) ∧ m + 1 ≠ 1) := fun h => h44 ⟨by omega, h.1.1, h.1.2⟩
                  rw [if_neg hc, if_neg hc] at h38
                  exact ⟨by (repeat (first | with_reducible exact offM_refl _ _ | refine offM_updc rfl ?_ | refine offM_upd rfl ?_ | refine offM_updo rfl ?_ | refine offM_updo_none ?_ | refine offM_head rfl rfl ?_)), m, L, T, rfl, by omega, by omega, h38⟩
            · refine W_seq ?_
              refine W_region ?_
              refine op_run (r_eql rfl rfl) rfl ?_
              refine o_ast rfl ?_
              refine ops_nil ?_
              refine W_cond_p rfl (fun h50 => ?_) (fun h50 => ?_)
              · refine W_seq ?_
                refine W_region ?_
                refine o_mvt rfl ?_
                refine op_call rfl rfl rfl (h25.sync (by omega)) ?_; rintro v51 w51 ⟨h51, hk51⟩
                refine ops_nil ?_
                refine W_seq ?_
                refine W_region ?_
                refine o_mvt rfl ?_
                refine op_run (r_gtr rfl rfl) rfl ?_
                refine ops_nil ?_
                refine W_cond_p rfl (fun h52 => ?_) (fun h52 => ?_)
                · refine W_seq ?_
                  refine W_region ?_
                  refine o_mvt rfl ?_
                  refine op_call rfl rfl rfl (h51.swap.sync (by omega)) ?_; rintro v53 w53 ⟨h53, hk53⟩
                  refine ops_nil ?_
                  refine W_region ?_
                  refine o_mvt rfl ?_
                  refine op_run ((r_sub rfl rfl).val (congrArg (Value.int .i64) (show IntKind.i64.wrap ((m : Int) - 1) = ((m - 1 : Nat) : Int) from (wrap_i64 (by omega) (by omega)).trans (by omega)))) rfl ?_
                  refine o_ast rfl ?_
                  refine ops_nil ?_
                  have hc : ¬ m + 1 = 1 := by omega
                  rw [if_neg hc, if_neg hc, if_neg hc, if_neg (by decide), if_neg (by decide), if_neg (by decide)] at h53
                  refine ⟨by (repeat (first | with_reducible exact offM_refl _ _ | refine offM_updc rfl ?_ | refine offM_upd rfl ?_ | refine offM_updo rfl ?_ | refine offM_updo_none ?_ | refine offM_head rfl rfl ?_)), m - 1, seen L T, [], rfl, by omega, Nat.zero_le _, ?_⟩
                  have e : m - 1 + 1 = m + 1 - 1 := by omega
                  rw [e]; exact h53.swap
                · refine W_skip ?_
                  have hc : m + 1 = 1 := by omega
                  rw [if_pos hc, if_pos hc, if_pos hc] at h51
                  exact ⟨by (repeat (first | with_reducible exact offM_refl _ _ | refine offM_updc rfl ?_ | refine offM_upd rfl ?_ | refine offM_updo rfl ?_ | refine offM_updo_none ?_ | refine offM_head rfl rfl ?_)), m, L, T, rfl, by omega, by omega, h51⟩
              · refine W_skip ?_
                exact ⟨by (repeat (first | with_reducible exact offM_refl _ _ | refine offM_updc rfl ?_ | refine offM_upd rfl ?_ | refine offM_updo rfl ?_ | refine offM_updo_none ?_ | refine offM_head rfl rfl ?_)), m, L, T, rfl, by omega, by omega, h25⟩
          · rintro J57 vs w57 ⟨m', L', T', rfl, hm', hT', h57⟩ -
            refine W_cut [104] [92, 93, 94, 95, 96, 97, 98, 99, 100, 101, 102, 103, 104] (fun vs w58 => vs = [.bool false] ∧ Two w (· = b24) b bx 20 L' T' (m' + 1) L' T' 0 w58) ?_ ?_
            · refine W_region ?_
              refine o_mvt rfl ?_
              refine op_call rfl rfl rfl (h57.dead) ?_; rintro v59 w59 ⟨rfl, rfl⟩
              have hc59 : (decide (m' + 1 = 1) != decide ((m' : Int) = 0)) = false := by
                apply neq_self
                rw [decide_eq_decide]; omega
              refine o_mvt rfl ?_
              refine op_run (r_eql rfl rfl) rfl ?_
              refine op_run (r_neqB rfl rfl rfl) rfl ?_
              refine o_mvt rfl ?_
              refine g_split rfl rfl rfl (fun g60 => ?_) (fun g60 => ?_)
              · refine o_mvt (g_yes rfl rfl rfl g60) ?_
                refine op_call rfl rfl (g_yes rfl rfl rfl g60) (h57.image (by omega)) ?_; rintro v61 w61 ⟨hO61, hL61, hN61, hk61⟩
                refine o_mvt (g_yes rfl rfl rfl g60) ?_
                refine op_call rfl rfl (g_yes rfl rfl rfl g60) ((h57.keep hk61).swap.image (by omega)) ?_; rintro v62 w62 ⟨hO62, hL62, hN62, hk62⟩
                refine op_call rfl rfl (g_yes rfl rfl rfl g60) (w04_same w62 v61 v62 _ _ ((hO61.keep hk62 (fun _ _ => trivial)).sl) hO62.sl (by omega)) ?_; rintro v63 w63 ⟨rfl, hk63⟩
                refine op_run (r_not rfl) (g_yes rfl rfl rfl g60) ?_
                refine o_pkFt rfl g60 rfl ?_
                refine ops_nil ?_
                exact ⟨by (repeat (first | with_reducible exact offM_refl _ _ | refine offM_updc rfl ?_ | refine offM_upd rfl ?_ | refine offM_updo rfl ?_ | refine offM_updo_none ?_ | refine offM_head rfl rfl ?_)), congrArg (fun b => [Value.bool b]) (by simp), ((h57.keep hk61).keep hk62).keep hk63⟩
              · refine op_skip (g_no rfl rfl rfl g60) ?_
                refine op_skip (g_no rfl rfl rfl g60) ?_
                refine op_skip (g_no rfl rfl rfl g60) ?_
                refine op_skip (g_no rfl rfl rfl g60) ?_
                refine op_skip (g_no rfl rfl rfl g60) ?_
                refine op_skip (g_no rfl rfl rfl g60) ?_
                refine o_pkTc rfl g60 rfl ?_
                refine ops_nil ?_
                exact absurd (hc59.symm.trans g60) (by simp)
            · rintro J66 vs w66 ⟨rfl, h66⟩ -
              refine W_no rfl (rfl) ?_
              refine W_skip ?_
              refine W_region ?_
              refine op_run (r_add rfl rfl) rfl ?_
              refine o_mvt rfl ?_
              refine ops_nil ?_
              refine ⟨by (repeat (first | with_reducible exact offM_refl _ _ | refine offM_updc rfl ?_ | refine offM_upd rfl ?_ | refine offM_updo rfl ?_ | refine offM_updo_none ?_ | refine offM_head rfl rfl ?_)), ⟨m', k + 1, L', T', _, ?_, by omega, hm', by omega, h66⟩, ?_⟩
              · rw [← hinc]; rfl
              · show xs.length - (IntKind.i64.wrap ((k : Int) + 1)).toNat < xs.length - (k : Int).toNat
                rw [hinc]; omega
      · refine W_exit ?_
        refine W_seq ?_
        refine W_region ?_
        refine o_mvt rfl ?_
        refine op_call rfl rfl rfl (h20.crash (.slice none 0 0) [] (by omega) (Sl.nil _ _)) ?_; rintro v70 w70 ⟨h70, hk70⟩
        refine ops_nil ?_
        refine W_seq ?_
        refine W_region ?_
        refine o_mvt rfl ?_
        refine op_call rfl rfl rfl (h70.swap.crash (.slice none 0 0) [] (by omega) (Sl.nil _ _)) ?_; rintro v71 w71 ⟨h71, hk71⟩
        refine ops_nil ?_
        refine W_seq ?_
        refine W_region ?_
        refine o_mvt rfl ?_
        refine op_call rfl rfl rfl (h71.swap.dead) ?_; rintro v72 w72 ⟨rfl, rfl⟩
        refine op_run (r_not rfl) rfl ?_
        refine o_mvt rfl ?_
        refine g_split rfl rfl rfl (fun g73 => ?_) (fun g73 => ?_)
        · refine o_mvt (g_yes rfl rfl rfl (by rw [g73] <;> rfl)) ?_
          refine op_call rfl rfl (g_yes rfl rfl rfl (by rw [g73] <;> rfl)) (h71.swap.image (by show 0 < 1000000; omega)) ?_; rintro v74 w74 ⟨hO74, hL74, hN74, hk74⟩
          refine o_mvt (g_yes rfl rfl rfl (by rw [g73] <;> rfl)) ?_
          refine op_call rfl rfl (g_yes rfl rfl rfl (by rw [g73] <;> rfl)) ((h71.keep hk74).image (by show 0 < 1000000; omega)) ?_; rintro v75 w75 ⟨hO75, hL75, hN75, hk75⟩
          refine op_call rfl rfl (g_yes rfl rfl rfl (by rw [g73] <;> rfl)) (w04_same w75 v74 v75 _ _ ((hO74.keep hk75 (fun _ _ => trivial)).sl) hO75.sl (by omega)) ?_; rintro v76 w76 ⟨rfl, hk76⟩
          refine o_pkTt rfl (by rw [g73] <;> rfl) rfl ?_
          refine o_ast rfl ?_
          refine ops_nil ?_
          refine W_ret ?_
          refine ret1 (.bool true) rfl (congrArg Value.bool (by simp)) ?_
          exact ⟨rfl, ((h71.kw.trans hk74).trans hk75).trans hk76⟩
        · refine op_skip (g_no rfl rfl rfl (by rw [g73] <;> rfl)) ?_
          refine op_skip (g_no rfl rfl rfl (by rw [g73] <;> rfl)) ?_
          refine op_skip (g_no rfl rfl rfl (by rw [g73] <;> rfl)) ?_
          refine op_skip (g_no rfl rfl rfl (by rw [g73] <;> rfl)) ?_
          refine op_skip (g_no rfl rfl rfl (by rw [g73] <;> rfl)) ?_
          refine o_pkFc rfl (by rw [g73] <;> rfl) rfl ?_
          refine o_ast rfl ?_
          refine ops_nil ?_
          refine W_ret ?_
          exact absurd g73 (by simp)
end Go.Proofs.Ytmhbpfbidbccfaa.B
