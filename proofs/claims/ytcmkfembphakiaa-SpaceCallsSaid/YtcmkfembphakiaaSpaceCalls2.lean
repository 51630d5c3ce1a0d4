/-
  SpaceCalls's walk, itself.
-/
import Derived.Test.YtcmkfembphakiaaSpaceCalls
namespace Go.Proofs.Ytcmkfembphakiaa.B
open Go
set_option linter.unusedVariables false
set_option maxHeartbeats 2000000
set_option maxRecDepth 100000
attribute [local irreducible] W OpsW OpsQ retP
theorem walk_SpaceCalls (w : World) (S0 fs : Int) (v : Value) (xs : List (Int × Int × Int)) (hz1 : -9223372036854775808 ≤ S0) (hz2 : S0 ≤ 9223372036854775807) (hx : Cas w v xs) :
    Ret Try.prog 5 [.int .i64 S0, .int .i64 fs, v].toArray w fun r w' => r = .bool true ∧ Keep All w w' := by
  have hxl := hx.len_le
  obtain ⟨a, c, rfl, _, _⟩ := hx.form
  refine enter (fn := Try.f5) (n := 177) Try.func5 rfl rfl (by simp) ?_
  refine W_seq ?_
  refine W_region ?_
  refine o_asc rfl ?_
  refine ops_nil ?_
  refine W_seq ?_
  refine W_seq ?_
  refine W_region ?_
  refine op_call rfl rfl rfl (speaks06 w) ?_; rintro v1 w1 ⟨rfl, hk1⟩
  refine op_run (r_not rfl) rfl ?_
  refine ops_nil ?_
  refine W_no rfl (rfl) ?_
  refine W_skip ?_
  refine W_seq ?_
  refine W_seq ?_
  refine W_region ?_
  refine o_mvt rfl ?_
  refine op_run (r_len rfl rfl rfl) rfl ?_
  refine op_run (r_gtr rfl rfl) rfl ?_
  refine ops_nil ?_
  refine W_cond_p rfl (fun h4 => ?_) (fun h4 => ?_)
  · refine W_seq ?_
    refine W_region ?_
    refine o_asc rfl ?_
    refine ops_nil ?_
    refine W_ret ?_
    refine ret1 (.bool true) rfl ?_ ?_; rfl
    exact ⟨rfl, hk1⟩
  · refine W_skip ?_
    refine W_seq ?_
    refine W_region ?_
    refine o_mvt rfl ?_
    refine o_mvt rfl ?_
    refine op_call rfl rfl rfl (sp_New' hz1 hz2) ?_; rintro v6 w6 ⟨pa, e6, rfl, h6⟩
    refine o_mvt rfl ?_
    refine op_run (r_extract rfl rfl) rfl ?_
    refine op_run (r_extract rfl rfl) rfl ?_
    refine o_ast rfl ?_
    refine o_ast rfl ?_
    refine ops_nil ?_
    refine W_seq ?_
    refine W_cut [44] [30, 31, 32, 33, 34, 35, 36, 37, 38, 39, 40, 41, 42, 43, 44] (fun vs w7 => vs = [.bool (decide (S0 < 1 ∨ 65536 < S0 ∨ fs < 0 ∨ S0 < fs))] ∧ w7 = w6) ?_ ?_
    · refine W_region ?_
      refine o_mvt rfl ?_
      refine op_run (r_lss rfl rfl) rfl ?_
      refine o_mvt rfl ?_
      refine g_split rfl rfl rfl (fun g8 => ?_) (fun g8 => ?_)
      · refine o_mvt (g_yes rfl rfl rfl g8) ?_
        refine op_run (r_gtr rfl rfl) (g_yes rfl rfl rfl g8) ?_
        refine o_pkFt rfl g8 rfl ?_
        refine o_mvt rfl ?_
        refine g_split rfl rfl rfl (fun g9 => ?_) (fun g9 => ?_)
        · refine o_mvt (g_yes rfl rfl rfl g9) ?_
          refine op_run (r_lss rfl rfl) (g_yes rfl rfl rfl g9) ?_
          refine o_pkFt rfl g9 rfl ?_
          refine o_mvt rfl ?_
          refine g_split rfl rfl rfl (fun g10 => ?_) (fun g10 => ?_)
          · refine o_mvt (g_yes rfl rfl rfl g10) ?_
            refine o_mvt (g_yes rfl rfl rfl g10) ?_
            refine op_run (r_gtr rfl rfl) (g_yes rfl rfl rfl g10) ?_
            refine o_pkFt rfl g10 rfl ?_
            refine ops_nil ?_
            exact ⟨by (repeat (first | with_reducible exact offM_refl _ _ | refine offM_updc rfl ?_ | refine offM_upd rfl ?_ | refine offM_updo rfl ?_ | refine offM_updo_none ?_ | refine offM_head rfl rfl ?_)), congrArg (fun b => [Value.bool b]) (by have := of_decide_eq_false g8; have := of_decide_eq_false g9; have := of_decide_eq_false g10; rw [decide_eq_decide]; constructor <;> intro hh <;> omega), rfl⟩
          · refine op_skip (g_no rfl rfl rfl g10) ?_
            refine op_skip (g_no rfl rfl rfl g10) ?_
            refine op_skip (g_no rfl rfl rfl g10) ?_
            refine o_pkTc rfl g10 rfl ?_
            refine ops_nil ?_
            exact ⟨by (repeat (first | with_reducible exact offM_refl _ _ | refine offM_updc rfl ?_ | refine offM_upd rfl ?_ | refine offM_updo rfl ?_ | refine offM_updo_none ?_ | refine offM_head rfl rfl ?_)), congrArg (fun b => [Value.bool b]) (by have := of_decide_eq_true g10; symm; apply decide_eq_true; omega), rfl⟩
        · refine op_skip (g_no rfl rfl rfl g9) ?_
          refine op_skip (g_no rfl rfl rfl g9) ?_
          refine o_pkTc rfl g9 rfl ?_
          refine o_mvt rfl ?_
          refine op_skip (g_no rfl rfl rfl rfl) ?_
          refine op_skip (g_no rfl rfl rfl rfl) ?_
          refine op_skip (g_no rfl rfl rfl rfl) ?_
          refine o_pkTc rfl rfl rfl ?_
          refine ops_nil ?_
          exact ⟨by (repeat (first | with_reducible exact offM_refl _ _ | refine offM_updc rfl ?_ | refine offM_upd rfl ?_ | refine offM_updo rfl ?_ | refine offM_updo_none ?_ | refine offM_head rfl rfl ?_)), congrArg (fun b => [Value.bool b]) (by have := of_decide_eq_true g9; symm; apply decide_eq_true; omega), rfl⟩
      · refine op_skip (g_no rfl rfl rfl g8) ?_
        refine op_skip (g_no rfl rfl rfl g8) ?_
        refine o_pkTc rfl g8 rfl ?_
        refine o_mvt rfl ?_
        refine op_skip (g_no rfl rfl rfl rfl) ?_
        refine op_skip (g_no rfl rfl rfl rfl) ?_
        refine o_pkTc rfl rfl rfl ?_
        refine o_mvt rfl ?_
        refine op_skip (g_no rfl rfl rfl rfl) ?_
        refine op_skip (g_no rfl rfl rfl rfl) ?_
        refine op_skip (g_no rfl rfl rfl rfl) ?_
        refine o_pkTc rfl rfl rfl ?_
        refine ops_nil ?_
        exact ⟨by (repeat (first | with_reducible exact offM_refl _ _ | refine offM_updc rfl ?_ | refine offM_upd rfl ?_ | refine offM_updo rfl ?_ | refine offM_updo_none ?_ | refine offM_head rfl rfl ?_)), congrArg (fun b => [Value.bool b]) (by have := of_decide_eq_true g8; symm; apply decide_eq_true; omega), rfl⟩
    · rintro J15 vs w15 ⟨rfl, rfl⟩ -
      refine W_cond_p rfl (fun h16 => ?_) (fun h16 => ?_)
      · refine W_seq ?_
        refine W_region ?_
        refine o_mvt rfl ?_
        refine op_run (r_eql rfl rfl) rfl ?_
        refine o_mvt rfl ?_
        obtain ⟨_, rfl, rfl, rfl⟩ := h6.resolve_right (fun h => h.1 h16)
        refine g_split rfl rfl rfl (fun g17 => ?_) (fun g17 => ?_)
        · refine o_mvt (g_yes rfl rfl rfl g17) ?_
          refine op_run (r_isNilP rfl rfl) (g_yes rfl rfl rfl g17) ?_
          refine o_pkTt rfl g17 rfl ?_
          refine o_ast rfl ?_
          refine ops_nil ?_
          refine W_ret ?_
          refine ret1 (.bool true) rfl ?_ ?_; rfl
          exact ⟨rfl, hk1⟩
        · refine op_skip (g_no rfl rfl rfl g17) ?_
          refine op_skip (g_no rfl rfl rfl g17) ?_
          refine o_pkFc rfl g17 rfl ?_
          refine o_ast rfl ?_
          refine ops_nil ?_
          refine W_ret ?_
          exact absurd (of_decide_eq_false g17) (by simp)
      · refine W_skip ?_
        refine W_seq ?_
        obtain ⟨_, b, rfl, rfl, hb, hS6, hk6⟩ := h6.resolve_left (fun h => h16 h.1)
        obtain ⟨S, rfl⟩ := Int.eq_ofNat_of_zero_le (show 0 ≤ S0 by omega)
        rw [Int.toNat_natCast] at hS6
        refine W_cut [64] [51, 52, 53, 54, 55, 56, 57, 58, 59, 60, 61, 62, 63, 64] (fun vs w20 => vs = [.bool false] ∧ w20 = w15) ?_ ?_
        · refine W_region ?_
          refine o_mvt rfl ?_
          refine op_run (r_neq rfl rfl) rfl ?_
          refine o_mvt rfl ?_
          refine g_split rfl rfl rfl (fun g21 => ?_) (fun g21 => ?_)
          · refine o_mvt (g_yes rfl rfl rfl g21) ?_
            refine op_run (r_isNilP rfl rfl) (g_yes rfl rfl rfl g21) ?_
            refine o_pkFt rfl g21 rfl ?_
            refine o_mvt rfl ?_
            refine g_split rfl rfl rfl (fun g22 => ?_) (fun g22 => ?_)
            · refine o_mvt (g_yes rfl rfl rfl g22) ?_
              refine op_call rfl rfl (g_yes rfl rfl rfl g22) (sp_Free _ b _ _ _ hS6) ?_; rintro v23 w23 ⟨rfl, rfl⟩
              refine o_mvt (g_yes rfl rfl rfl g22) ?_
              refine o_mvt (g_yes rfl rfl rfl g22) ?_
              refine op_run ((r_sub rfl rfl).val (congrArg (Value.int .i64) (wrap_i64 (by omega) (by omega)))) (g_yes rfl rfl rfl g22) ?_
              refine op_run (r_neq rfl rfl) (g_yes rfl rfl rfl g22) ?_
              refine o_pkFt rfl g22 rfl ?_
              refine ops_nil ?_
              exact ⟨by (repeat (first | with_reducible exact offM_refl _ _ | refine offM_updc rfl ?_ | refine offM_upd rfl ?_ | refine offM_updo rfl ?_ | refine offM_updo_none ?_ | refine offM_head rfl rfl ?_)), congrArg (fun b => [Value.bool b]) (decide_eq_false (fun h => h (by rw [cnt_next _ _ (by omega)]; omega))), rfl⟩
            · refine op_skip (g_no rfl rfl rfl g22) ?_
              refine op_skip (g_no rfl rfl rfl g22) ?_
              refine op_skip (g_no rfl rfl rfl g22) ?_
              refine op_skip (g_no rfl rfl rfl g22) ?_
              refine op_skip (g_no rfl rfl rfl g22) ?_
              refine op_skip (g_no rfl rfl rfl g22) ?_
              refine o_pkTc rfl g22 rfl ?_
              refine ops_nil ?_
              exact absurd g22 (by simp)
          · refine op_skip (g_no rfl rfl rfl g21) ?_
            refine op_skip (g_no rfl rfl rfl g21) ?_
            refine o_pkTc rfl g21 rfl ?_
            refine o_mvt rfl ?_
            refine op_skip (g_no rfl rfl rfl rfl) ?_
            refine op_skip (g_no rfl rfl rfl rfl) ?_
            refine op_skip (g_no rfl rfl rfl rfl) ?_
            refine op_skip (g_no rfl rfl rfl rfl) ?_
            refine op_skip (g_no rfl rfl rfl rfl) ?_
            refine op_skip (g_no rfl rfl rfl rfl) ?_
            refine o_pkTc rfl rfl rfl ?_
            refine ops_nil ?_
            exact absurd (of_decide_eq_true g21) (by simp)
        · rintro J27 vs w27 ⟨rfl, rfl⟩ -
          refine W_no rfl (rfl) ?_
          refine W_skip ?_
          refine W_seq ?_
          refine W_seq ?_
          refine W_region ?_
          refine o_mvt rfl ?_
          refine op_run (r_gtr rfl rfl) rfl ?_
          refine ops_nil ?_
          refine W_cond_p rfl (fun h30 => ?_) (fun h30 => ?_)
          · refine W_seq ?_
            refine W_region ?_
            refine o_asc rfl ?_
            refine ops_nil ?_
            refine W_ret ?_
            refine ret1 (.bool true) rfl ?_ ?_; rfl
            exact ⟨rfl, hk1.trans hk6⟩
          · refine W_skip ?_
            refine W_seq ?_
            refine W_region ?_
            refine o_mvt rfl ?_
            refine o_make1 (l := S) (c := S) rfl rfl rfl ti_bool rfl (by omega) (by omega) (by omega) rfl ?_; intro w32 g e32 hB32 hk32 hs32
            have hF32 : FlC w32 g S (fun _ => false) := by
              have e : fl (fun _ => false) S = List.replicate S (.bool false) := by
                apply List.ext_getElem?
                intro i
                by_cases hi : i < S
                · rw [fl_get hi]; simp [hi]
                · rw [List.getElem?_eq_none (by rw [fl_len]; omega), List.getElem?_eq_none (by simp; omega)]
              unfold FlC; rw [e]; exact hB32
            refine o_ast rfl ?_
            refine ops_nil ?_
            refine W_seq ?_
            refine W_region ?_
            refine o_mvt rfl ?_
            refine o_mvt rfl ?_
            refine op_call rfl rfl rfl (ref06_Turn' (by omega) hF32) ?_; rintro v33 w33 ⟨rfl, hF33, hk33⟩
            have hgw : w.heap.size ≤ g := by have := (hk1.trans hk6).size; omega
            obtain ⟨A', hA0, hA'⟩ := hS6.shrink
            have hA33 : SpC w33 b A' S (fun i => decide (i < fs.toNat)) := (hA0.keep hk32 (fun _ _ => trivial)).keep hk33 (fun k hk => by have := (hA' k hk).2; omega)
            have hF33' : FlC w33 g S (fun i => decide (i < fs.toNat)) := by
              have e : fl (fT (fun _ => false) S 0 fs true) S = fl (fun i => decide (i < fs.toNat)) S := fl_congr (fun i hi => by
                unfold fT
                rw [if_neg (by unfold outS; omega)]
                unfold turnF
                by_cases hif : i < fs.toNat
                · rw [if_pos (by omega), decide_eq_true hif]
                · rw [if_neg (by omega), decide_eq_false hif])
              unfold FlC at hF33 ⊢; rw [← e]; exact hF33
            have hkw33 : Keep All w w33 := ((hk1.trans hk6).trans hk32).new hk33 hgw
            have hAw : ∀ k, A' k → w.heap.size ≤ k ∧ k < w33.heap.size ∧ k ≠ g := fun k hk => by
              have h1 := hA' k hk
              have h2 := hk1.size
              have h3 := hk32.size
              have h4 := hk33.size
              omega
            have hgA : ¬ A' g := fun h => (hAw g h).2.2 rfl
            have hg33 : g < w33.heap.size := hF33'.lt
            refine ops_nil ?_
            refine W_seq ?_
            refine W_seq ?_
            refine W_region ?_
            refine o_mvt rfl ?_
            refine op_run (r_len rfl rfl rfl) rfl ?_
            refine o_mvc rfl ?_
            refine ops_nil ?_
            refine W_block ?_
            refine W_loop [74] [6, 11, 12, 13, 14, 15, 16, 17, 18, 74, 75, 76, 77, 78, 79, 80, 81, 82, 83, 84, 85, 86, 87, 88, 89, 90, 91, 92, 93, 94, 95, 96, 97, 98, 99, 100, 101, 102, 103, 104, 105, 106, 107, 108, 109, 110, 111, 112, 113, 114, 115, 116, 117, 118, 119, 120, 121, 122, 123, 124, 125, 126, 127, 128, 129, 130, 131, 132, 133, 134, 135, 136, 137, 138, 139, 140, 141, 142, 143, 144, 145, 146, 147, 148, 149, 150, 151, 152, 153, 154, 155, 156, 157, 158, 159, 160, 161, 162, 163, 164, 165, 166, 167, 168, 169, 170, 171, 172, 173, 174, 175, 176] (fun vs w' => ∃ (k : Nat) (f : Nat → Bool), vs = [.int .i64 k] ∧ k ≤ xs.length ∧ SpC w' b A' S f ∧ FlC w' g S f ∧ Keep All w w' ∧ w33.heap.size ≤ w'.heap.size) (fun vs _ => match vs with | [.int _ k] => xs.length - k.toNat | _ => 0) ⟨0, _, rfl, by omega, hA33, hF33', hkw33, Nat.le_refl _⟩ ?_
            rintro J vs w2 ⟨k, f, rfl, hk, hS2, hF2, hkw, hsz⟩ -
            refine W_seq ?_
            refine W_region ?_
            refine op_run (r_lss rfl rfl) rfl ?_
            refine ops_nil ?_
            refine W_seq ?_
            refine W_cond_p rfl (fun h35 => ?_) (fun h35 => ?_)
            · refine W_skip ?_
              refine W_seq ?_
              refine W_block ?_
              refine W_seq ?_
              refine W_region ?_
              have hkx : k < xs.length := by omega
              have hinc := inc64' k (by omega)
              obtain ⟨b0, off0, c0, e0, _, hcell⟩ := SlR.at hx (by omega) (by omega)
              cases e0
              obtain ⟨cs, hcl, hcs, hcv⟩ := hcell k xs[k] (by simp [hkx])
              subst hcv
              have hcs2 : ∀ (j : Nat) (u : Value), [Value.int .i64 xs[k].1, .int .i64 xs[k].2.1, .int .i64 xs[k].2.2][j]? = some u → w2.cell? ((⟨b0, off0 + (k : Int).toNat * 3, none⟩ : Addr).add j) = some u := fun j u hu => by
                have h := hkw.cell (hcs j u hu) trivial
                rw [Int.toNat_natCast, Addr.add_lit]; exact h
              refine op_run (r_idxS rfl rfl rfl rfl (by omega) (by omega)) rfl ?_
              refine op_run (r_loadA ([Value.int .i64 xs[k].1, .int .i64 xs[k].2.1, .int .i64 xs[k].2.2]) rfl rfl rfl rfl (hcs2)) rfl ?_
              refine o_alloc rfl rfl rfl ?_; intro w38 b38 e38 hB38 hk38 hs38
              refine o_storeA (cs := [Value.int .i64 xs[k].1, .int .i64 xs[k].2.1, .int .i64 xs[k].2.2]) rfl rfl rfl rfl hB38 (by exact Nat.le_refl _) rfl ?_; intro w39 hB39 hk39 hs39
              have hC39 : Blk w39 b38 [Value.int .i64 xs[k].1, .int .i64 xs[k].2.1, .int .i64 xs[k].2.2] 42 := hB39
              have hb38 : w33.heap.size ≤ b38 := by omega
              have hS39 := (hS2.keep hk38 (fun _ _ => trivial)).keep hk39 (fun k hk => by have := (hAw k hk).2.1; omega)
              have hF39 := hk39.blk' (hk38.blk' hF2 trivial) (show g ≠ b38 by omega)
              have hkw39 : Keep All w w39 := (hkw.trans hk38).new hk39 (by have := hkw33.size; omega)
              refine ops_nil ?_
              refine W_seq ?_
              refine W_region ?_
              refine o_mvt rfl ?_
              refine op_call rfl rfl rfl (sp_Twin _ b A' S f hS39) ?_; rintro v40 w40 ⟨b', rfl, hb', hT40, hk40⟩
              obtain ⟨B', hT40', hB'⟩ := hT40.shrink
              have hBw : ∀ k, B' k → w39.heap.size ≤ k := fun k hk => (hB' k hk).1
              have hszz : w33.heap.size ≤ w39.heap.size := by have := hk38.size; omega
              have hBA : ∀ k, A' k → ¬ B' k := fun k hk hb => by have := hBw k hb; have := (hAw k hk).2.1; omega
              refine o_ast rfl ?_
              refine ops_nil ?_
              refine W_seq ?_
              refine W_region ?_
              refine o_mvt rfl ?_
              refine o_mvt rfl ?_
              refine op_call rfl rfl rfl (sp_Mark' (a := 0) (n := (S : Int)) hT40') ?_; rintro v41 w41 ⟨rfl, hT41, hk41⟩
              have hfz : cnt (fT f S 0 S true) S = S := cnt_full S (fun i hi => by
                unfold fT
                rw [if_neg (by unfold outS; omega)]
                unfold turnF
                rw [if_pos (by omega)])
              generalize fT f S 0 S true = fz at hT41 hfz
              have hS41 := (hS39.keep hk40 (fun _ _ => trivial)).keep hk41 hBA
              have hgB : ¬ B' g := fun h => by have := hBw g h; omega
              have hF41 := hk41.blk' (hk40.blk' hF39 trivial) hgB
              have hC41 := hk41.blk' (hk40.blk' hC39 trivial) (show ¬ B' b38 from fun h => by have := hBw b38 h; have := hC39.lt; omega)
              have hkw41 : Keep All w w41 := (hkw39.trans hk40).outA hk41 (fun k hk => by have := hBw k hk; have := hkw39.size; omega)
              have hsz41 : w33.heap.size ≤ w41.heap.size := by have := hk40.size; have := hk41.size; omega
              have hb38A : ¬ A' b38 := fun h => by have := (hAw b38 h).2.1; omega
              have step : ∀ (wa wb wc : World) (fa : Nat → Bool), Keep All w wa → SpC wa b' B' S fz → w33.heap.size ≤ wa.heap.size → SpC wb b A' S fa → Keep (fun k => ¬ A' k) wa wb → FlC wc g S fa → Keep (· ≠ g) wb wc → SpC wc b A' S fa ∧ FlC wc g S fa ∧ SpC wc b' B' S fz ∧ Keep All w wc ∧ w33.heap.size ≤ wc.heap.size := by
                intro wa wb wc fa h1 h2 h3 h4 h5 h6 h7
                refine ⟨h4.keep h7 (fun k hk => (hAw k hk).2.2), h6, (h2.keep h5 (fun k hk h => hBA k h hk)).keep h7 (fun k hk e => hgB (e ▸ hk)), (h1.outA h5 (fun k hk => (hAw k hk).1)).new h7 hgw, ?_⟩
                have := h5.size; have := h7.size; omega
              refine ops_nil ?_
              refine W_cut [] [6, 13, 14, 15, 16, 83, 84, 85, 86, 87, 88, 89, 90, 91, 92, 93, 94, 95, 96, 97, 98, 99, 100, 101, 102, 103, 104, 105, 106, 107, 108, 109, 110, 111, 112, 113, 114, 115, 116, 117, 118, 119, 120, 121, 122, 123, 124, 125, 126, 127, 128, 129, 130, 131, 132, 133, 134, 135, 136, 137, 138, 139, 140, 141, 142, 143] (fun vs w42 => vs = [] ∧ ∃ f', SpC w42 b A' S f' ∧ FlC w42 g S f' ∧ SpC w42 b' B' S fz ∧ Keep All w w42 ∧ w33.heap.size ≤ w42.heap.size) ?_ ?_
              · refine W_seq ?_
                refine W_region ?_
                refine op_run (r_fieldAddr rfl rfl rfl rfl rfl) rfl ?_
                refine op_run (r_load rfl rfl rfl (hC41.cell rfl)) rfl ?_
                refine ops_nil ?_
                refine W_block ?_
                refine W_seq ?_
                refine W_region ?_
                refine op_run (r_eql rfl rfl) rfl ?_
                refine o_ast rfl ?_
                refine ops_nil ?_
                refine W_cond_p rfl (fun h44 => ?_) (fun h44 => ?_)
                · refine W_seq ?_
                  refine W_region ?_
                  refine o_mvt rfl ?_
                  refine op_run (r_fieldAddr rfl rfl rfl rfl rfl) rfl ?_
                  refine op_run (r_load rfl rfl rfl (hC41.cell rfl)) rfl ?_
                  refine op_call rfl rfl rfl (sp_Take' hS41) ?_; rintro v46 w46 ⟨p, e, rfl, hR46, hS46, hk46⟩
                  have hC46 := hk46.blk' hC41 hb38A
                  have hF46 := hk46.blk' hF41 hgA
                  refine o_mvt rfl ?_
                  refine op_run (r_extract rfl rfl) rfl ?_
                  refine op_run (r_extract rfl rfl) rfl ?_
                  refine o_ast rfl ?_
                  refine o_ast rfl ?_
                  refine ops_nil ?_
                  refine W_seq ?_
                  refine W_region ?_
                  refine o_mvt rfl ?_
                  refine op_run (r_fieldAddr rfl rfl rfl rfl rfl) rfl ?_
                  refine op_run (r_load rfl rfl rfl (hC46.cell rfl)) rfl ?_
                  refine op_call rfl rfl rfl (ref06_Take' (by omega) hF46) ?_; rintro v48 w48 ⟨p', e', rfl, hR48, rfl⟩
                  obtain ⟨rfl, rfl⟩ := hR46.unique hR48
                  refine o_mvt rfl ?_
                  refine op_run (r_extract rfl rfl) rfl ?_
                  refine op_run (r_extract rfl rfl) rfl ?_
                  refine o_ast rfl ?_
                  refine o_ast rfl ?_
                  refine ops_nil ?_
                  refine W_seq ?_
                  refine W_cut [121] [114, 115, 116, 117, 118, 119, 120, 121] (fun vs w49 => vs = [.bool false] ∧ w49 = w48) ?_ ?_
                  · refine W_region ?_
                    refine o_mvt rfl ?_
                    refine o_mvt rfl ?_
                    refine op_run (r_neq rfl rfl) rfl ?_
                    refine o_mvt rfl ?_
                    refine g_split rfl rfl rfl (fun g50 => ?_) (fun g50 => ?_)
                    · refine o_mvt (g_yes rfl rfl rfl g50) ?_
                      refine o_mvt (g_yes rfl rfl rfl g50) ?_
                      refine op_run (r_neq rfl rfl) (g_yes rfl rfl rfl g50) ?_
                      refine o_pkFt rfl g50 rfl ?_
                      refine ops_nil ?_
                      exact ⟨by (repeat (first | with_reducible exact offM_refl _ _ | refine offM_updc rfl ?_ | refine offM_upd rfl ?_ | refine offM_updo rfl ?_ | refine offM_updo_none ?_ | refine offM_head rfl rfl ?_)), congrArg (fun b => [Value.bool b]) (decide_eq_false (fun h => h rfl)), rfl⟩
                    · refine op_skip (g_no rfl rfl rfl g50) ?_
                      refine op_skip (g_no rfl rfl rfl g50) ?_
                      refine op_skip (g_no rfl rfl rfl g50) ?_
                      refine o_pkTc rfl g50 rfl ?_
                      refine ops_nil ?_
                      exact absurd (of_decide_eq_true g50) (by simp)
                  · rintro J53 vs w53 ⟨rfl, rfl⟩ -
                    refine W_no rfl (rfl) ?_
                    refine W_skip ?_
                    refine W_seq ?_
                    refine W_region ?_
                    refine o_mvt rfl ?_
                    refine op_run (r_eql rfl rfl) rfl ?_
                    refine ops_nil ?_
                    refine W_cond_p rfl (fun h56 => ?_) (fun h56 => ?_)
                    · refine W_region ?_
                      refine o_mvt rfl ?_
                      refine o_mvt rfl ?_
                      refine op_run (r_fieldAddr rfl rfl rfl rfl rfl) rfl ?_
                      refine op_run (r_load rfl rfl rfl (hC46.cell rfl)) rfl ?_
                      have he0 : e = 0 := h56
                      rw [if_pos he0] at hS46
                      refine op_call rfl rfl rfl (ref06_Turn' (a := p) (m := xs[k].2.2) (tk := true) (by omega) hF46) ?_; rintro v58 w58 ⟨rfl, hF58, hk58⟩
                      refine ops_nil ?_
                      have eT : fT f S p xs[k].2.2 true = turnF f p.toNat xs[k].2.2.toNat true := by
                        unfold fT
                        rw [if_neg ?_]
                        unfold outS
                        rcases hR46 with ⟨_, _, h⟩ | ⟨h1, _, q, h2, h3, _⟩ | ⟨_, _, h, _⟩ <;> omega
                      rw [eT] at hF58
                      exact ⟨by (repeat (first | with_reducible exact offM_refl _ _ | refine offM_updc rfl ?_ | refine offM_upd rfl ?_ | refine offM_updo rfl ?_ | refine offM_updo_none ?_ | refine offM_head rfl rfl ?_)), rfl, _, step w41 w53 w58 _ hkw41 hT41 hsz41 hS46 hk46 hF58 hk58⟩
                    · refine W_skip ?_
                      have he0 : e ≠ 0 := h56
                      rw [if_neg he0] at hS46
                      exact ⟨by (repeat (first | with_reducible exact offM_refl _ _ | refine offM_updc rfl ?_ | refine offM_upd rfl ?_ | refine offM_updo rfl ?_ | refine offM_updo_none ?_ | refine offM_head rfl rfl ?_)), rfl, _, step w41 w53 w53 _ hkw41 hT41 hsz41 hS46 hk46 hF46 (Keep.refl _)⟩
                · refine W_seq ?_
                  refine W_region ?_
                  refine op_run (r_eql rfl rfl) rfl ?_
                  refine o_ast rfl ?_
                  refine ops_nil ?_
                  refine W_cond_p rfl (fun h61 => ?_) (fun h61 => ?_)
                  · refine W_seq ?_
                    refine W_held (fun w' => Blk w' b38 [Value.int .i64 xs[k].1, .int .i64 xs[k].2.1, .int .i64 xs[k].2.2] 42) (by kernel_rfl) ((Keep.drawn w41).blk' hC41 trivial) (fun hS => ?_)
                    refine any_mvt 0 rfl (by kernel_rfl) (by kernel_rfl) (by kernel_rfl) rfl hS ?_
                    refine any_run 1 (fun w' hS' => (r_fieldAddr rfl rfl rfl rfl rfl)) rfl (by kernel_rfl) (by kernel_rfl) (by kernel_rfl) rfl hS ?_
                    refine any_run 2 (fun w' hS' => (r_load rfl rfl rfl (hS'.cell rfl))) rfl (by kernel_rfl) (by kernel_rfl) (by kernel_rfl) rfl hS ?_
                    refine any_run 3 (fun w' hS' => (r_fieldAddr rfl rfl rfl rfl rfl)) rfl (by kernel_rfl) (by kernel_rfl) (by kernel_rfl) rfl hS ?_
                    refine any_run 4 (fun w' hS' => (r_load rfl rfl rfl (hS'.cell rfl))) rfl (by kernel_rfl) (by kernel_rfl) (by kernel_rfl) rfl hS ?_
                    refine any_mvt 6 rfl (by kernel_rfl) (by kernel_rfl) (by kernel_rfl) rfl hS ?_
                    refine any_run 7 (fun w' hS' => (r_fieldAddr rfl rfl rfl rfl rfl)) rfl (by kernel_rfl) (by kernel_rfl) (by kernel_rfl) rfl hS ?_
                    refine any_run 8 (fun w' hS' => (r_load rfl rfl rfl (hS'.cell rfl))) rfl (by kernel_rfl) (by kernel_rfl) (by kernel_rfl) rfl hS ?_
                    refine any_run 9 (fun w' hS' => (r_fieldAddr rfl rfl rfl rfl rfl)) rfl (by kernel_rfl) (by kernel_rfl) (by kernel_rfl) rfl hS ?_
                    refine any_run 10 (fun w' hS' => (r_load rfl rfl rfl (hS'.cell rfl))) rfl (by kernel_rfl) (by kernel_rfl) (by kernel_rfl) rfl hS ?_
                    refine any_one 5 (by kernel_rfl) (one_of rfl ?_)
                    refine op_call rfl rfl rfl (sp_Mark' (hS41.keep (Keep.drawn w41) (fun _ _ => trivial))) ?_; rintro v67 w67 ⟨rfl, hS67, hk67⟩
                    refine ops_nil ⟨hk67.blk' hS hb38A, fun hS => ?_⟩
                    refine any_one 11 (by kernel_rfl) (one_of rfl ?_)
                    refine op_call rfl rfl rfl (ref06_Turn' (by omega) (hk67.blk' ((Keep.drawn w41).blk' hF41 trivial) hgA)) ?_; rintro v69 w69 ⟨rfl, hF69, hk69⟩
                    refine ops_nil ⟨hk69.blk' hS (show b38 ≠ g by omega), fun hS => ?_⟩
                    refine any_run 12 (fun w' hS' => (r_neq rfl rfl)) rfl (by kernel_rfl) (by kernel_rfl) (by kernel_rfl) rfl hS ?_
                    refine any_done (by kernel_rfl) ?_
                    refine W_no rfl ((decide_eq_false (fun h => h rfl))) ?_
                    refine W_skip ?_
                    exact ⟨by (repeat (first | with_reducible exact offM_refl _ _ | refine offM_updc rfl ?_ | refine offM_upd rfl ?_ | refine offM_updo rfl ?_ | refine offM_updo_none ?_ | refine offM_head rfl rfl ?_)), rfl, _, step _ w67 w69 _ (hkw41.trans (Keep.drawn w41)) (hT41.keep (Keep.drawn w41) (fun _ _ => trivial)) hsz41 hS67 hk67 hF69 hk69⟩
                  · refine W_seq ?_
                    refine W_held (fun w' => Blk w' b38 [Value.int .i64 xs[k].1, .int .i64 xs[k].2.1, .int .i64 xs[k].2.2] 42) (by kernel_rfl) ((Keep.drawn w41).blk' hC41 trivial) (fun hS => ?_)
                    refine any_mvt 0 rfl (by kernel_rfl) (by kernel_rfl) (by kernel_rfl) rfl hS ?_
                    refine any_run 1 (fun w' hS' => (r_fieldAddr rfl rfl rfl rfl rfl)) rfl (by kernel_rfl) (by kernel_rfl) (by kernel_rfl) rfl hS ?_
                    refine any_run 2 (fun w' hS' => (r_load rfl rfl rfl (hS'.cell rfl))) rfl (by kernel_rfl) (by kernel_rfl) (by kernel_rfl) rfl hS ?_
                    refine any_run 3 (fun w' hS' => (r_fieldAddr rfl rfl rfl rfl rfl)) rfl (by kernel_rfl) (by kernel_rfl) (by kernel_rfl) rfl hS ?_
                    refine any_run 4 (fun w' hS' => (r_load rfl rfl rfl (hS'.cell rfl))) rfl (by kernel_rfl) (by kernel_rfl) (by kernel_rfl) rfl hS ?_
                    refine any_mvt 6 rfl (by kernel_rfl) (by kernel_rfl) (by kernel_rfl) rfl hS ?_
                    refine any_run 7 (fun w' hS' => (r_fieldAddr rfl rfl rfl rfl rfl)) rfl (by kernel_rfl) (by kernel_rfl) (by kernel_rfl) rfl hS ?_
                    refine any_run 8 (fun w' hS' => (r_load rfl rfl rfl (hS'.cell rfl))) rfl (by kernel_rfl) (by kernel_rfl) (by kernel_rfl) rfl hS ?_
                    refine any_run 9 (fun w' hS' => (r_fieldAddr rfl rfl rfl rfl rfl)) rfl (by kernel_rfl) (by kernel_rfl) (by kernel_rfl) rfl hS ?_
                    refine any_run 10 (fun w' hS' => (r_load rfl rfl rfl (hS'.cell rfl))) rfl (by kernel_rfl) (by kernel_rfl) (by kernel_rfl) rfl hS ?_
                    refine any_one 5 (by kernel_rfl) (one_of rfl ?_)
                    refine op_call rfl rfl rfl (sp_Release' (hS41.keep (Keep.drawn w41) (fun _ _ => trivial))) ?_; rintro v79 w79 ⟨rfl, hS79, hk79⟩
                    refine ops_nil ⟨hk79.blk' hS hb38A, fun hS => ?_⟩
                    refine any_one 11 (by kernel_rfl) (one_of rfl ?_)
                    refine op_call rfl rfl rfl (ref06_Turn' (by omega) (hk79.blk' ((Keep.drawn w41).blk' hF41 trivial) hgA)) ?_; rintro v81 w81 ⟨rfl, hF81, hk81⟩
                    refine ops_nil ⟨hk81.blk' hS (show b38 ≠ g by omega), fun hS => ?_⟩
                    refine any_run 12 (fun w' hS' => (r_neq rfl rfl)) rfl (by kernel_rfl) (by kernel_rfl) (by kernel_rfl) rfl hS ?_
                    refine any_done (by kernel_rfl) ?_
                    refine W_no rfl ((decide_eq_false (fun h => h rfl))) ?_
                    refine W_skip ?_
                    exact ⟨by (repeat (first | with_reducible exact offM_refl _ _ | refine offM_updc rfl ?_ | refine offM_upd rfl ?_ | refine offM_updo rfl ?_ | refine offM_updo_none ?_ | refine offM_head rfl rfl ?_)), rfl, _, step _ w79 w81 _ (hkw41.trans (Keep.drawn w41)) (hT41.keep (Keep.drawn w41) (fun _ _ => trivial)) hsz41 hS79 hk79 hF81 hk81⟩
              · rintro J86 vs w86 ⟨rfl, f', hS86, hF86, hT86, hkw86, hsz86⟩ -
                refine W_seq ?_
                refine W_cut [162] [144, 145, 146, 147, 148, 149, 150, 151, 152, 153, 154, 155, 156, 157, 158, 159, 160, 161, 162] (fun vs w87 => vs = [.bool false] ∧ w87 = w86) ?_ ?_
                · refine W_region ?_
                  refine o_mvt rfl ?_
                  refine op_call rfl rfl rfl (sp_Free _ b _ _ _ hS86) ?_; rintro v88 w88 ⟨rfl, rfl⟩
                  refine o_mvt rfl ?_
                  refine op_call rfl rfl rfl (ref06_Free _ g S f' (by omega) hF86) ?_; rintro v89 w89 ⟨rfl, rfl⟩
                  refine op_run (r_neq rfl rfl) rfl ?_
                  refine o_mvt rfl ?_
                  refine g_split rfl rfl rfl (fun g90 => ?_) (fun g90 => ?_)
                  · refine o_mvt (g_yes rfl rfl rfl g90) ?_
                    refine op_call rfl rfl (g_yes rfl rfl rfl g90) (sp_Free _ b' _ _ _ hT86) ?_; rintro v91 w91 ⟨rfl, rfl⟩
                    refine op_run (r_neq rfl rfl) (g_yes rfl rfl rfl g90) ?_
                    refine o_pkFt rfl g90 rfl ?_
                    refine o_mvt rfl ?_
                    refine g_split rfl rfl rfl (fun g92 => ?_) (fun g92 => ?_)
                    · refine o_mvt (g_yes rfl rfl rfl g92) ?_
                      refine op_call rfl rfl (g_yes rfl rfl rfl g92) (sp_Taken _ b _ _ _ (-1) hS86) ?_; rintro v93 w93 ⟨rfl, rfl⟩
                      refine o_pkFt rfl g92 rfl ?_
                      refine o_mvt rfl ?_
                      refine g_split rfl rfl rfl (fun g94 => ?_) (fun g94 => ?_)
                      · refine o_mvt (g_yes rfl rfl rfl g94) ?_
                        refine o_mvt (g_yes rfl rfl rfl g94) ?_
                        refine op_call rfl rfl (g_yes rfl rfl rfl g94) (sp_Taken _ b _ _ _ (S : Int) hS86) ?_; rintro v95 w95 ⟨rfl, rfl⟩
                        refine o_pkFt rfl g94 rfl ?_
                        refine ops_nil ?_
                        exact ⟨by (repeat (first | with_reducible exact offM_refl _ _ | refine offM_updc rfl ?_ | refine offM_upd rfl ?_ | refine offM_updo rfl ?_ | refine offM_updo_none ?_ | refine offM_head rfl rfl ?_)), congrArg (fun b => [Value.bool b]) (by rw [Int.toNat_natCast, hS86.out S (Nat.le_refl _)]; exact Bool.and_false _), rfl⟩
                      · refine op_skip (g_no rfl rfl rfl g94) ?_
                        refine op_skip (g_no rfl rfl rfl g94) ?_
                        refine op_skip (g_no rfl rfl rfl g94) ?_
                        refine o_pkTc rfl g94 rfl ?_
                        refine ops_nil ?_
                        exact absurd g94 (by simp)
                    · refine op_skip (g_no rfl rfl rfl g92) ?_
                      refine op_skip (g_no rfl rfl rfl g92) ?_
                      refine o_pkTc rfl g92 rfl ?_
                      refine o_mvt rfl ?_
                      refine op_skip (g_no rfl rfl rfl rfl) ?_
                      refine op_skip (g_no rfl rfl rfl rfl) ?_
                      refine op_skip (g_no rfl rfl rfl rfl) ?_
                      refine o_pkTc rfl rfl rfl ?_
                      refine ops_nil ?_
                      exact absurd (of_decide_eq_true g92) (by rw [hfz]; simp)
                  · refine op_skip (g_no rfl rfl rfl g90) ?_
                    refine op_skip (g_no rfl rfl rfl g90) ?_
                    refine op_skip (g_no rfl rfl rfl g90) ?_
                    refine o_pkTc rfl g90 rfl ?_
                    refine o_mvt rfl ?_
                    refine op_skip (g_no rfl rfl rfl rfl) ?_
                    refine op_skip (g_no rfl rfl rfl rfl) ?_
                    refine o_pkTc rfl rfl rfl ?_
                    refine o_mvt rfl ?_
                    refine op_skip (g_no rfl rfl rfl rfl) ?_
                    refine op_skip (g_no rfl rfl rfl rfl) ?_
                    refine op_skip (g_no rfl rfl rfl rfl) ?_
                    refine o_pkTc rfl rfl rfl ?_
                    refine ops_nil ?_
                    exact absurd (of_decide_eq_true g90) (by simp)
                · rintro J100 vs w100 ⟨rfl, rfl⟩ -
                  refine W_no rfl (rfl) ?_
                  refine W_skip ?_
                  refine W_seq ?_
                  refine W_region ?_
                  refine o_mvt rfl ?_
                  refine op_run (r_len rfl rfl rfl) rfl ?_
                  refine o_mvc rfl ?_
                  refine ops_nil ?_
                  refine W_block ?_
                  refine W_loop [165] [6, 17, 18, 165, 166, 167, 168, 169, 170, 171, 172, 173, 174, 175] (fun vs w' => ∃ i : Nat, vs = [.int .i64 i] ∧ i ≤ S ∧ w' = w100) (fun vs _ => match vs with | [.int _ i] => S - i.toNat | _ => 0) ⟨0, rfl, by omega, rfl⟩ ?_
                  rintro J' vs w103 ⟨i, rfl, hi, rfl⟩ -
                  refine W_seq ?_
                  refine W_region ?_
                  refine op_run (r_lss rfl rfl) rfl ?_
                  refine ops_nil ?_
                  refine W_seq ?_
                  refine W_cond_p rfl (fun h104 => ?_) (fun h104 => ?_)
                  · refine W_skip ?_
                    refine W_seq ?_
                    refine W_block ?_
                    refine W_seq ?_
                    refine W_region ?_
                    refine o_mvt rfl ?_
                    have hiS : i < S := by omega
                    have hinci := inc64' i (by omega)
                    refine op_run (r_idxS1 rfl rfl rfl rfl (by omega) (by omega)) rfl ?_
                    refine op_run (r_load rfl rfl rfl (hF86.cell (by rw [Int.toNat_natCast, Nat.zero_add]; exact fl_get hiS))) rfl ?_
                    refine o_ast rfl ?_
                    refine o_ast rfl ?_
                    refine ops_nil ?_
                    refine W_seq ?_
                    refine W_region ?_
                    refine o_mvt rfl ?_
                    refine o_mvt rfl ?_
                    refine op_call rfl rfl rfl (sp_Taken _ b _ _ _ (i : Int) hS86) ?_; rintro v107 w107 ⟨rfl, rfl⟩
                    have hc107 : ((decide (0 ≤ (i : Int)) && f' (i : Int).toNat) != f' i) = false := by
                      apply neq_self
                      rw [Int.toNat_natCast, decide_eq_true (by omega)]; rfl
                    refine o_mvt rfl ?_
                    refine op_run (r_neqB rfl rfl rfl) rfl ?_
                    refine ops_nil ?_
                    refine W_no rfl (hc107) ?_
                    refine W_skip ?_
                    refine W_region ?_
                    refine op_run (r_add rfl rfl) rfl ?_
                    refine o_mvt rfl ?_
                    refine ops_nil ?_
                    refine ⟨by (repeat (first | with_reducible exact offM_refl _ _ | refine offM_updc rfl ?_ | refine offM_upd rfl ?_ | refine offM_updo rfl ?_ | refine offM_updo_none ?_ | refine offM_head rfl rfl ?_)), ⟨i + 1, ?_, by omega, rfl⟩, ?_⟩
                    · rw [← hinci]; rfl
                    · show S - (IntKind.i64.wrap ((i : Int) + 1)).toNat < S - (i : Int).toNat
                      rw [hinci]; omega
                  · refine W_exit ?_
                    refine W_region ?_
                    refine op_run (r_add rfl rfl) rfl ?_
                    refine o_mvt rfl ?_
                    refine ops_nil ?_
                    refine ⟨by (repeat (first | with_reducible exact offM_refl _ _ | refine offM_updc rfl ?_ | refine offM_upd rfl ?_ | refine offM_updo rfl ?_ | refine offM_updo_none ?_ | refine offM_head rfl rfl ?_)), ⟨k + 1, f', ?_, by omega, hS86, hF86, hkw86, hsz86⟩, ?_⟩
                    · rw [← hinc]; rfl
                    · show xs.length - (IntKind.i64.wrap ((k : Int) + 1)).toNat < xs.length - (k : Int).toNat
                      rw [hinc]; omega
            · refine W_exit ?_
              refine W_seq ?_
              refine W_region ?_
              refine o_asc rfl ?_
              refine ops_nil ?_
              refine W_ret ?_
              refine ret1 (.bool true) rfl ?_ ?_; rfl
              exact ⟨rfl, hkw⟩
end Go.Proofs.Ytcmkfembphakiaa.B
