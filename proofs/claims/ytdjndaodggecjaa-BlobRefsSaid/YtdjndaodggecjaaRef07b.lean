/-
  The document's blobs: Read.
-/
import Derived.Test.YtdjndaodggecjaaRef07
namespace Go.Proofs.Ytdjndaodggecjaa.B
open Go
set_option linter.unusedVariables false
set_option maxHeartbeats 2000000
set_option maxRecDepth 100000
attribute [local irreducible] W OpsW OpsQ retP
theorem bytesAt_get {M : List Sec} {a len i : Nat} {s : Sec} (hi : i < len) (hs : M[a + i / 64]? = some s) : (bytesAt M a len)[i]? = s.val[i % 64]? := by
  unfold bytesAt
  rw [List.getElem?_take, if_pos hi]
  have h := flatS_get (M.drop a) (i / 64) (i % 64) s (by rw [List.getElem?_drop]; exact hs) (Nat.mod_lt _ (by decide))
  rwa [show 64 * (i / 64) + i % 64 = i by omega] at h
theorem rf07_Read (w : World) (vl : Value) (M : List Sec) (r : Rf) (hl : Sl w vl M.length 64 (rows secR M)) (hM : M.length ≤ 65536) (ha : -2 ^ 63 ≤ r.at_) (ha2 : r.at_ < 2 ^ 63) :
    Ret Try.prog 12 [vl, .agg (refR r).toArray].toArray w fun u w2 => ∃ v, u = .tuple #[v, .int .i64 (if (rdB M r).isSome then 0 else 7)] ∧ By w2 v ((rdB M r).getD []) ∧ InB (fun k => w.heap.size ≤ k) v ∧ Keep All w w2 := by
  obtain ⟨al, cl, rfl, hcl, hcml⟩ := hl.form
  refine enter (fn := Try.f12) (n := 67) Try.func12 rfl rfl (by simp) ?_
  refine W_seq ?_
  refine W_region ?_
  refine o_box rfl rfl rfl ?_; intro w1 b1 e1 hB1 hk1 hs1
  have hB1 : Blk w1 b1 (refR r) 26 := hB1
  refine o_asc rfl ?_
  refine o_asc rfl ?_
  refine ops_nil ?_
  refine W_seq ?_
  refine W_cut [38] [8, 9, 10, 11, 12, 13, 14, 15, 16, 17, 18, 19, 20, 21, 22, 23, 24, 25, 26, 27, 28, 29, 30, 31, 32, 33, 34, 35, 36, 37, 38] (fun vs w2 => vs = [.bool (decide (¬ rdOk M.length r))] ∧ Keep All w1 w2) ?_ ?_
  · refine W_quiet (Keep All w1) (by kernel_rfl) (by kernel_rfl) (Keep.drawn _) ?_
    refine q_run (fun _ _ => (r_fieldAddr rfl rfl rfl rfl rfl)) rfl ?_
    refine q_run (fun _ hk => r_load rfl rfl rfl (hk.cell (hB1.cell (refR_33 r)) trivial)) rfl ?_
    refine q_run (fun _ _ => (r_lss rfl rfl)) rfl ?_
    refine q_mvt rfl ?_
    refine q_split rfl rfl rfl (fun g5 => ?_) (fun g5 => ?_)
    · refine q_run (fun _ _ => (r_fieldAddr rfl rfl rfl rfl rfl)) (g_yes rfl rfl rfl g5) ?_
      refine q_run (fun _ hk => r_load rfl rfl rfl (hk.cell (hB1.cell (refR_33 r)) trivial)) (g_yes rfl rfl rfl g5) ?_
      refine q_run (fun _ _ => (r_gtr rfl rfl)) (g_yes rfl rfl rfl g5) ?_
      refine q_pkFt rfl g5 rfl ?_
      refine q_mvt rfl ?_
      refine q_split rfl rfl rfl (fun g7 => ?_) (fun g7 => ?_)
      · refine q_run (fun _ _ => (r_fieldAddr rfl rfl rfl rfl rfl)) (g_yes rfl rfl rfl g7) ?_
        refine q_run (fun _ hk => r_load rfl rfl rfl (hk.cell (hB1.cell (refR_32 r)) trivial)) (g_yes rfl rfl rfl g7) ?_
        refine q_run (fun _ _ => (r_lss rfl rfl)) (g_yes rfl rfl rfl g7) ?_
        refine q_pkFt rfl g7 rfl ?_
        refine q_mvt rfl ?_
        refine q_split rfl rfl rfl (fun g9 => ?_) (fun g9 => ?_)
        · refine q_run (fun _ _ => (r_fieldAddr rfl rfl rfl rfl rfl)) (g_yes rfl rfl rfl g9) ?_
          refine q_run (fun _ hk => r_load rfl rfl rfl (hk.cell (hB1.cell (refR_32 r)) trivial)) (g_yes rfl rfl rfl g9) ?_
          refine q_mvt (g_yes rfl rfl rfl g9) ?_
          refine q_run (fun _ _ => (r_len rfl rfl rfl)) (g_yes rfl rfl rfl g9) ?_
          refine q_run (fun _ _ => (r_geq rfl rfl)) (g_yes rfl rfl rfl g9) ?_
          refine q_pkFt rfl g9 rfl ?_
          refine q_mvt rfl ?_
          refine q_split rfl rfl rfl (fun g11 => ?_) (fun g11 => ?_)
          · refine q_run (fun _ _ => (r_fieldAddr rfl rfl rfl rfl rfl)) (g_yes rfl rfl rfl g11) ?_
            refine q_run (fun _ hk => r_load rfl rfl rfl (hk.cell (hB1.cell (refR_33 r)) trivial)) (g_yes rfl rfl rfl g11) ?_
            have k5 := of_decide_eq_false g5
            have k7 := of_decide_eq_false g7
            have k9 := of_decide_eq_false g9
            have k11 := of_decide_eq_false g11
            refine q_call rfl rfl (g_yes rfl rfl rfl g11) (fun _ hk => (rf07_Sectors _ r.len (by omega)).mono fun e w'' ⟨u, he, h1, h2⟩ => ⟨u, he, h1.trans (congrArg (Value.int .i64) (if_neg k5)), h2 ▸ hk⟩) ?_
            refine q_mvt (g_yes rfl rfl rfl g11) ?_
            refine q_run (fun _ _ => (r_len rfl rfl rfl)) (g_yes rfl rfl rfl g11) ?_
            refine q_run (fun _ _ => (r_fieldAddr rfl rfl rfl rfl rfl)) (g_yes rfl rfl rfl g11) ?_
            refine q_run (fun _ hk => r_load rfl rfl rfl (hk.cell (hB1.cell (refR_32 r)) trivial)) (g_yes rfl rfl rfl g11) ?_
            refine q_run (fun _ _ => (r_sub rfl rfl)) (g_yes rfl rfl rfl g11) ?_
            refine q_run (fun _ _ => (r_gtr rfl rfl)) (g_yes rfl rfl rfl g11) ?_
            refine q_pkFt rfl g11 rfl ?_
            refine q_nil ?_; intro w15 hk15
            exact ⟨by (repeat (first | with_reducible exact offM_refl _ _ | refine offM_updc rfl ?_ | refine offM_upd rfl ?_ | refine offM_updo rfl ?_ | refine offM_updo_none ?_ | refine offM_head rfl rfl ?_)), congrArg (fun b => [Value.bool b]) (by
              rw [wrap_i64 (by omega) (by omega), decide_eq_decide]
              unfold rdOk fitsP; omega), hk15⟩
          · refine q_skip (g_no rfl rfl rfl g11) ?_
            refine q_skip (g_no rfl rfl rfl g11) ?_
            refine q_skip (g_no rfl rfl rfl g11) ?_
            refine q_skip (g_no rfl rfl rfl g11) ?_
            refine q_skip (g_no rfl rfl rfl g11) ?_
            refine q_skip (g_no rfl rfl rfl g11) ?_
            refine q_skip (g_no rfl rfl rfl g11) ?_
            refine q_skip (g_no rfl rfl rfl g11) ?_
            refine q_skip (g_no rfl rfl rfl g11) ?_
            refine q_pkTc rfl g11 rfl ?_
            refine q_nil ?_; intro w17 hk17
            exact ⟨by (repeat (first | with_reducible exact offM_refl _ _ | refine offM_updc rfl ?_ | refine offM_upd rfl ?_ | refine offM_updo rfl ?_ | refine offM_updo_none ?_ | refine offM_head rfl rfl ?_)), congrArg (fun b => [Value.bool b]) (by have k := of_decide_eq_true g11; symm; exact decide_eq_true fun hh => by have := hh.2.2.1; omega), hk17⟩
        · refine q_skip (g_no rfl rfl rfl g9) ?_
          refine q_skip (g_no rfl rfl rfl g9) ?_
          refine q_skip (g_no rfl rfl rfl g9) ?_
          refine q_skip (g_no rfl rfl rfl g9) ?_
          refine q_skip (g_no rfl rfl rfl g9) ?_
          refine q_pkTc rfl g9 rfl ?_
          refine q_mvt rfl ?_
          refine q_skip (g_no rfl rfl rfl rfl) ?_
          refine q_skip (g_no rfl rfl rfl rfl) ?_
          refine q_skip (g_no rfl rfl rfl rfl) ?_
          refine q_skip (g_no rfl rfl rfl rfl) ?_
          refine q_skip (g_no rfl rfl rfl rfl) ?_
          refine q_skip (g_no rfl rfl rfl rfl) ?_
          refine q_skip (g_no rfl rfl rfl rfl) ?_
          refine q_skip (g_no rfl rfl rfl rfl) ?_
          refine q_skip (g_no rfl rfl rfl rfl) ?_
          refine q_pkTc rfl rfl rfl ?_
          refine q_nil ?_; intro w19 hk19
          exact ⟨by (repeat (first | with_reducible exact offM_refl _ _ | refine offM_updc rfl ?_ | refine offM_upd rfl ?_ | refine offM_updo rfl ?_ | refine offM_updo_none ?_ | refine offM_head rfl rfl ?_)), congrArg (fun b => [Value.bool b]) (by have k := of_decide_eq_true g9; symm; exact decide_eq_true fun hh => by have := hh.2.1; omega), hk19⟩
      · refine q_skip (g_no rfl rfl rfl g7) ?_
        refine q_skip (g_no rfl rfl rfl g7) ?_
        refine q_skip (g_no rfl rfl rfl g7) ?_
        refine q_pkTc rfl g7 rfl ?_
        refine q_mvt rfl ?_
        refine q_skip (g_no rfl rfl rfl rfl) ?_
        refine q_skip (g_no rfl rfl rfl rfl) ?_
        refine q_skip (g_no rfl rfl rfl rfl) ?_
        refine q_skip (g_no rfl rfl rfl rfl) ?_
        refine q_skip (g_no rfl rfl rfl rfl) ?_
        refine q_pkTc rfl rfl rfl ?_
        refine q_mvt rfl ?_
        refine q_skip (g_no rfl rfl rfl rfl) ?_
        refine q_skip (g_no rfl rfl rfl rfl) ?_
        refine q_skip (g_no rfl rfl rfl rfl) ?_
        refine q_skip (g_no rfl rfl rfl rfl) ?_
        refine q_skip (g_no rfl rfl rfl rfl) ?_
        refine q_skip (g_no rfl rfl rfl rfl) ?_
        refine q_skip (g_no rfl rfl rfl rfl) ?_
        refine q_skip (g_no rfl rfl rfl rfl) ?_
        refine q_skip (g_no rfl rfl rfl rfl) ?_
        refine q_pkTc rfl rfl rfl ?_
        refine q_nil ?_; intro w21 hk21
        exact ⟨by (repeat (first | with_reducible exact offM_refl _ _ | refine offM_updc rfl ?_ | refine offM_upd rfl ?_ | refine offM_updo rfl ?_ | refine offM_updo_none ?_ | refine offM_head rfl rfl ?_)), congrArg (fun b => [Value.bool b]) (by have k := of_decide_eq_true g7; symm; exact decide_eq_true fun hh => by have := hh.1.2; omega), hk21⟩
    · refine q_skip (g_no rfl rfl rfl g5) ?_
      refine q_skip (g_no rfl rfl rfl g5) ?_
      refine q_skip (g_no rfl rfl rfl g5) ?_
      refine q_pkTc rfl g5 rfl ?_
      refine q_mvt rfl ?_
      refine q_skip (g_no rfl rfl rfl rfl) ?_
      refine q_skip (g_no rfl rfl rfl rfl) ?_
      refine q_skip (g_no rfl rfl rfl rfl) ?_
      refine q_pkTc rfl rfl rfl ?_
      refine q_mvt rfl ?_
      refine q_skip (g_no rfl rfl rfl rfl) ?_
      refine q_skip (g_no rfl rfl rfl rfl) ?_
      refine q_skip (g_no rfl rfl rfl rfl) ?_
      refine q_skip (g_no rfl rfl rfl rfl) ?_
      refine q_skip (g_no rfl rfl rfl rfl) ?_
      refine q_pkTc rfl rfl rfl ?_
      refine q_mvt rfl ?_
      refine q_skip (g_no rfl rfl rfl rfl) ?_
      refine q_skip (g_no rfl rfl rfl rfl) ?_
      refine q_skip (g_no rfl rfl rfl rfl) ?_
      refine q_skip (g_no rfl rfl rfl rfl) ?_
      refine q_skip (g_no rfl rfl rfl rfl) ?_
      refine q_skip (g_no rfl rfl rfl rfl) ?_
      refine q_skip (g_no rfl rfl rfl rfl) ?_
      refine q_skip (g_no rfl rfl rfl rfl) ?_
      refine q_skip (g_no rfl rfl rfl rfl) ?_
      refine q_pkTc rfl rfl rfl ?_
      refine q_nil ?_; intro w23 hk23
      exact ⟨by (repeat (first | with_reducible exact offM_refl _ _ | refine offM_updc rfl ?_ | refine offM_upd rfl ?_ | refine offM_updo rfl ?_ | refine offM_updo_none ?_ | refine offM_head rfl rfl ?_)), congrArg (fun b => [Value.bool b]) (by have k := of_decide_eq_true g5; symm; exact decide_eq_true fun hh => by have := hh.1.1; omega), hk23⟩
  · rintro J25 vs w25 ⟨rfl, hk25⟩ -
    refine W_cond_p rfl (fun h26 => ?_) (fun h26 => ?_)
    · refine W_seq ?_
      refine W_region ?_
      refine o_asc rfl ?_
      refine o_asc rfl ?_
      refine ops_nil ?_
      refine W_ret ?_
      refine ret2 (.slice none 0 0) (.int .i64 7) rfl ?_ ?_ ?_; rfl; rfl
      have hno : rdB M r = none := if_neg fun hh => h26 hh.1
      rw [hno]
      exact ⟨_, rfl, (own_nil _ 0 1).sl, InB.nil, hk1.trans hk25⟩
    · refine W_skip ?_
      refine W_seq ?_
      refine W_region ?_
      have hok : rdOk M.length r := Decidable.not_not.1 h26
      obtain ⟨⟨hl0, hl1⟩, hf1, hf2, hf3⟩ := id hok
      have hse := sectorsN_ge r.len.toNat
      have hsl := sectorsN_le r.len.toNat
      have hB25 := hk25.blk' hB1 trivial
      have hkw25 := hk1.trans hk25
      have hbl : (bytesAt M r.at_.toNat r.len.toNat).length = r.len.toNat := bytesAt_len (by omega)
      refine o_bs0 rfl rfl rfl ?_; intro w28 b28 e28 hB28 hk28 hs28
      have hO28 : OwnB w28 5 (.slice (some ⟨b28, 0, none⟩) 0 0) [] := ⟨rfl, .inr ⟨b28, 0, #[], rfl, Nat.zero_le _, hB28, Nat.le_refl _, Nat.zero_le _, rfl, rfl⟩⟩
      have hz25 := hkw25.size
      refine o_ast rfl ?_
      refine ops_nil ?_
      refine W_seq ?_
      refine W_seq ?_
      refine W_region ?_
      refine o_asc rfl ?_
      refine ops_nil ?_
      refine W_block ?_
      refine W_loop [6, 7] [6, 7, 40, 41, 42, 43, 44, 45, 46, 47, 48, 49, 50, 51, 52, 53, 54, 55, 56, 57, 58, 59] (fun vs wk => ∃ (i : Nat) (u : Value), vs = [u, .int .i64 i] ∧ i ≤ r.len.toNat ∧ OwnB wk 5 u ((bytesAt M r.at_.toNat r.len.toNat).take i) ∧ InB (fun z => w25.heap.size ≤ z) u ∧ Keep All w25 wk) (fun vs _ => match vs with | [_, .int _ k] => r.len.toNat - k.toNat | _ => 0) ⟨0, _, rfl, Nat.zero_le _, by rw [List.take_zero]; exact hO28, fun z hz => by obtain rfl : b28 = z := Option.some.inj hz; omega, hk28⟩ ?_
      rintro J29 vs w29 ⟨i, u, rfl, hi, hO, hin, hkw⟩ -
      refine W_seq ?_
      refine W_seq ?_
      refine W_region ?_
      refine o_mvt rfl ?_
      refine op_run (r_fieldAddr rfl rfl rfl rfl rfl) rfl ?_
      refine op_run (r_load rfl rfl rfl ((hkw.blk' hB25 trivial).cell (refR_33 r))) rfl ?_
      refine op_run (r_lss rfl rfl) rfl ?_
      refine ops_nil ?_
      refine W_cond_p rfl (fun h31 => ?_) (fun h31 => ?_)
      · refine W_skip ?_
        refine W_seq ?_
        refine W_block ?_
        refine W_region ?_
        refine o_mvt rfl ?_
        refine o_mvt rfl ?_
        refine op_run (r_fieldAddr rfl rfl rfl rfl rfl) rfl ?_
        have hi' : i < r.len.toNat := by omega
        have hrow : r.at_.toNat + i / 64 < M.length := by unfold sectorsN at hf3; omega
        obtain ⟨s, hs⟩ : ∃ s, M[r.at_.toNat + i / 64]? = some s := ⟨_, List.getElem?_eq_getElem hrow⟩
        obtain ⟨bl, ol, rfl, hcells⟩ := rows_at' (i := r.at_.toNat + i / 64) secR_len hl hrow (by decide)
        obtain ⟨x, hx⟩ : ∃ x, s.val[i % 64]? = some x := ⟨_, List.getElem?_eq_getElem (by rw [s.2]; exact Nat.mod_lt _ (by decide))⟩
        have hgx : (bytesAt M r.at_.toNat r.len.toNat)[i]? = some x := by rw [bytesAt_get hi' hs, hx]
        have hMe : M[r.at_.toNat + i / 64] = s := (List.getElem?_eq_some_iff.1 hs).2
        rw [hMe] at hcells
        obtain ⟨au, cu, rfl, hcu, hcmu⟩ := hO.form
        refine op_run (r_load rfl rfl rfl ((hkw.blk' hB25 trivial).cell (refR_32 r))) rfl ?_
        refine o_mvt rfl ?_
        refine op_run ((r_quo rfl rfl (by decide)).val (congrArg (Value.int .i64) (show IntKind.i64.wrap (((i : Nat) : Int).tdiv 64) = ((i / 64 : Nat) : Int) from (congrArg IntKind.i64.wrap (tdiv_nat i 64)).trans (wrap_i64 (by omega) (by omega))))) rfl ?_
        refine op_run ((r_add rfl rfl).val (congrArg (Value.int .i64) (show IntKind.i64.wrap (r.at_ + ((i / 64 : Nat) : Int)) = r.at_ + ((i / 64 : Nat) : Int) from wrap_i64 (by omega) (by omega)))) rfl ?_
        refine o_mvt rfl ?_
        refine op_run ((r_rem rfl rfl (by decide)).val (congrArg (Value.int .i64) (tmod_nat' i 64))) rfl ?_
        refine op_run (r_idxS rfl rfl rfl ti_sec (by omega) (by omega)) rfl ?_
        refine op_run (r_idxA1 rfl rfl rfl rfl (by omega) (by omega)) rfl ?_
        refine op_run (r_load (v := c8 x) rfl rfl rfl (by
            show w29.cell? ⟨bl, ol + (r.at_ + ((i / 64 : Nat) : Int)).toNat * 64 + ((i % 64 : Nat) : Int).toNat, none⟩ = some (c8 x)
            have h := (hkw25.trans hkw).cell (hcells (i % 64) (c8 x) (by unfold secR; rw [List.getElem?_map, hx]; rfl)) trivial
            rw [Addr.add_lit] at h
            rw [show (r.at_ + ((i / 64 : Nat) : Int)).toNat = r.at_.toNat + i / 64 by omega, Int.toNat_natCast]; exact h)) rfl ?_
        refine o_bs1 (v := c8 x) rfl rfl rfl rfl rfl rfl ?_; intro w36 b36 e36 hB36 hk36 hs36
        refine o_app1 (v := .slice au ((bytesAt M r.at_.toNat r.len.toNat).take i).length cu) rfl rfl hB36 rfl rfl ti_u8 rfl (hO.keep hk36 (fun _ _ => trivial)) (by rw [List.length_take]; unfold maxLen; omega) (by rw [List.length_take]; omega) rfl ?_; intro v37 w37 hown37 hk37 hb37
        have hown37 : OwnB w37 5 v37 ((bytesAt M r.at_.toNat r.len.toNat).take (i + 1)) := by
          have h := OwnB.snoc hown37
          obtain ⟨h1, h2⟩ := List.getElem?_eq_some_iff.1 hgx
          rw [List.take_succ_eq_append_getElem h1, h2]; exact h
        have hkB := hkw.trans hk36
        have hzB := hkB.size
        refine o_ast rfl ?_
        refine ops_nil ?_
        refine W_region ?_
        refine o_mvt rfl ?_
        refine op_run (r_add rfl rfl) rfl ?_
        refine o_ast rfl ?_
        refine ops_nil ?_
        have hinc := inc64' i (by omega)
        refine ⟨by (repeat (first | with_reducible exact offM_refl _ _ | refine offM_updc rfl ?_ | refine offM_upd rfl ?_ | refine offM_updo rfl ?_ | refine offM_updo_none ?_ | refine offM_head rfl rfl ?_)), ⟨i + 1, v37, congrArg (fun z : Int => [v37, Value.int .i64 z]) hinc, by omega, hown37, fun z hz => ?_, ?_⟩, ?_⟩
        · rcases hb37 z hz with h | h
          · exact hin z h
          · omega
        · exact hkB.outA (B := fun z => w25.heap.size ≤ z) (hk37.mono fun z _ h e => h (hin z e.symm)) (fun z hz => hz)
        · show r.len.toNat - (IntKind.i64.wrap ((i : Int) + 1)).toNat < r.len.toNat - (i : Int).toNat
          rw [hinc]; omega
      · refine W_exit ?_
        refine W_seq ?_
        refine W_seq ?_
        have hie : i = r.len.toNat := by omega
        subst hie
        rw [List.take_of_length_le (by omega)] at hO
        have hB29 := hkw.blk' hB25 trivial
        obtain ⟨au, cu, rfl, hcu, hcmu⟩ := hO.form
        refine W_held (fun w2 => Keep All w29 w2) (by kernel_rfl) (Keep.drawn w29) (fun hS => ?_)
        refine any_mvt 0 rfl (by kernel_rfl) (by kernel_rfl) (by kernel_rfl) rfl hS ?_
        refine any_run 3 (fun w' hS' => (r_fieldAddr rfl rfl rfl rfl rfl)) rfl (by kernel_rfl) (by kernel_rfl) (by kernel_rfl) rfl hS ?_
        refine any_run 4 (fun w' hS' => (r_loadA (dgR r.dig) rfl rfl rfl (by first | rfl | (rw [dgR_len]; rfl) | (rw [refR_len]; rfl) | (rw [secR_len]; rfl) | (rw [List.length_map, tagF_len]; rfl)) ((fun u v hu => by rw [Addr.add_lit]; show _ = some v; exact (hS'.blk' hB29 trivial).cell (by show (refR r)[0 + u]? = some v; rw [Nat.zero_add]; exact refR_dig r hu))))) rfl (by kernel_rfl) (by kernel_rfl) (by kernel_rfl) rfl hS ?_
        refine any_one 1 (by kernel_rfl) (one_of rfl ?_)
        refine o_bs1 (v := _) rfl rfl rfl rfl rfl rfl ?_; intro w41 b41 e41 hB41 hk41 hs41
        refine ops_nil ⟨hS.trans hk41, fun hS => ?_⟩
        refine any_one 2 (by kernel_rfl) (one_of rfl ?_)
        refine op_call rfl rfl rfl (rf_Tagged _ _ 3 [bytesAt M r.at_.toNat r.len.toNat] (rowsB_one hB41 ((OwnB.by_ hO).k hS)) (tag_1 _ (by omega))) ?_; rintro v43 w43 ⟨rfl, hk43⟩
        refine ops_nil ⟨hS.trans hk43, fun hS => ?_⟩
        refine any_run 5 (fun w' hS' => (r_neqC (p := tagD 3 [bytesAt M r.at_.toNat r.len.toNat] = r.dig) rfl rfl rfl rfl (by kernel_rfl) (okC_dgR _) (okC_dgR _) rfl (dgR_inj))) rfl (by kernel_rfl) (by kernel_rfl) (by kernel_rfl) rfl hS ?_
        refine any_done (by kernel_rfl) ?_
        refine W_cond rfl (fun h46 => ?_) (fun h46 => ?_)
        · refine W_seq ?_
          refine W_region ?_
          refine o_asc rfl ?_
          refine o_asc rfl ?_
          refine ops_nil ?_
          refine W_ret ?_
          refine ret2 (.slice none 0 0) (.int .i64 7) rfl ?_ ?_ ?_; rfl; rfl
          have hr0 : rdB M r = none := if_neg fun hh => by rw [hh.2] at h46; simp at h46
          rw [hr0]
          exact ⟨_, rfl, (own_nil _ 0 1).sl, InB.nil, (hkw25.trans hkw).trans hS⟩
        · refine W_skip ?_
          refine W_seq ?_
          refine W_region ?_
          refine o_mvt rfl ?_
          refine o_ast rfl ?_
          refine o_asc rfl ?_
          refine ops_nil ?_
          refine W_ret ?_
          refine ret2 (.slice au (bytesAt M r.at_.toNat r.len.toNat).length cu) (.int .i64 0) rfl ?_ ?_ ?_; rfl; rfl
          have hr0 : rdB M r = some (bytesAt M r.at_.toNat r.len.toNat) := if_pos ⟨hok, by simpa using h46⟩
          rw [hr0]
          exact ⟨_, rfl, (OwnB.by_ hO).k hS, fun z hz => Nat.le_trans hz25 (hin z hz), (hkw25.trans hkw).trans hS⟩
end Go.Proofs.Ytdjndaodggecjaa.B
