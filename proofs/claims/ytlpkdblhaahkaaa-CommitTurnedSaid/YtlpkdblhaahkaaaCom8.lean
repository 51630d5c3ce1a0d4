/-
  The law's commits: speaks, great; CommitReads: the walk.
-/
import Derived.Test.YtlpkdblhaahkaaaCom5
import Derived.Test.YtlpkdblhaahkaaaCom6
import Derived.Test.YtlpkdblhaahkaaaCom7
namespace Go.Proofs.Ytlpkdblhaahkaaa.B
open Go
set_option linter.unusedVariables false
set_option maxHeartbeats 2000000
set_option maxRecDepth 100000
attribute [local irreducible] W OpsW OpsQ retP
attribute [local irreducible] numR
/-- The document's example. -/
def exC : Cm := ⟨3, Rf.zero, Rf.zero, Rf.zero, [], Dig.zero, [[1]]⟩
theorem exC_small : exC.small := ⟨by decide, by decide, by decide, fun x hx => by obtain rfl := List.mem_singleton.1 hx; decide⟩
theorem exC_right : exC.right := ⟨⟨trivial, fun x hx => by cases hx⟩, by decide, by decide, by decide, by decide⟩
theorem exC_len : (encC exC).length ≤ 65536 := by
  have h1 := encN_len10 (v := 3) (by decide)
  have h2 := encR_len Rf.zero
  have h3 := encN_len10 (v := 0) (by decide)
  have h4 := encN_len10 (v := 1) (by decide)
  have h4' := encN_len10 (v := 0 + 1) (by decide)
  have h5 := Dig.zero.2
  unfold encC exC
  simp only [List.length_append, List.flatMap_nil, List.flatMap_cons, List.length_nil, List.length_cons, encB]
  omega
theorem decC_enc {c : Cm} (h : c.right) (h64 : c.epoch < 2 ^ 64) (hl : (encC c).length ≤ 65536) : decC (encC c) = some c := decC_iff.2 ⟨⟨h, h64⟩, rfl, hl⟩
theorem speaks13 (w : World) : Ret Try.prog 7 [].toArray w fun r w' => r = .bool true ∧ Keep All w w' := by
  refine enter (fn := Try.f7) (n := 34) Try.func7 rfl rfl (by simp) ?_
  refine W_seq ?_
  refine W_region ?_
  refine o_asc rfl ?_
  refine ops_nil ?_
  refine W_seq ?_
  refine W_region ?_
  refine o_bs1 (v := .int .u8 1) rfl rfl rfl rfl rfl rfl ?_; intro w1 b1 e1 hB1 hk1 hs1
  have hby1 : By w1 (.slice (some ⟨b1, 0, none⟩) 1 1) [1] := (Own.blk (n := 1) (sz := 1) (e := 5) hB1 rfl (by unfold maxLen; omega)).sl
  refine o_bs1 (v := Value.slice (some ⟨b1, 0, none⟩) 1 1) rfl rfl rfl rfl rfl rfl ?_; intro w2 b2 e2 hB2 hk2 hs2
  have hr2 : RowsV w2 (.slice (some ⟨b2, 0, none⟩) 1 1) [Value.slice (some ⟨b1, 0, none⟩) 1 1] [[1]] := ⟨rfl, (Own.blk (n := 1) (sz := 1) hB2 rfl (by unfold maxLen; omega)).sl, fun i u x hu hx => by
    match i, hu, hx with
    | 0, hu, hx => injection hu with hu; injection hx with hx; subst hu; subst hx; exact hby1.k hk2⟩
  have hC2 : CmIn w2 exC nilV (.slice (some ⟨b2, 0, none⟩) 1 1) [Value.slice (some ⟨b1, 0, none⟩) 1 1] := ⟨Sl.nil _ _, hr2⟩
  refine op_run (r_build ((cmV exC nilV (.slice (some ⟨b2, 0, none⟩) 1 1))) (_) ([(0, .int .u64 3), (6, .slice (some ⟨b2, 0, none⟩) 1 1)]) rfl rfl rfl rfl rfl (rfl)) rfl ?_
  refine op_call rfl rfl rfl (cm_Encode w2 exC _ _ _ hC2 exC_small) ?_; rintro v4 w4 ⟨v, rfl, hby4, hin4, hk4⟩
  rw [if_pos ⟨exC_right, exC_len⟩] at hby4
  obtain ⟨a4, c4, rfl, _, _⟩ := hby4.form
  have hdc : decC (encC exC) = some exC := decC_enc exC_right (by decide) exC_len
  refine o_mvt rfl ?_
  refine op_run (r_extract rfl rfl) rfl ?_
  refine op_run (r_extract rfl rfl) rfl ?_
  refine o_ast rfl ?_
  refine o_ast rfl ?_
  refine ops_nil ?_
  refine W_seq ?_
  refine W_region ?_
  refine o_mvt rfl ?_
  refine op_call rfl rfl rfl (cm_Decode w4 _ (encC exC) hby4 (by have := exC_len; omega)) ?_; rintro v5 w5 ⟨vb, ve, vks, rfl, hC5, hk5⟩
  obtain ⟨ab, cb, rfl, _, _⟩ := hC5.1.form
  obtain ⟨ae, ce, rfl, _, _⟩ := hC5.2.2.1.form
  refine o_mvt rfl ?_
  refine op_run (r_extract rfl rfl) rfl ?_
  refine op_run (r_extract rfl rfl) rfl ?_
  refine o_alloc rfl rfl rfl ?_; intro w6 b6 e6 hB6 hk6 hs6
  refine o_storeA (cs := cmV ((decC (encC exC)).getD Cm.zero) (.slice ab ((decC (encC exC)).getD Cm.zero).bins.length cb) (.slice ae ((decC (encC exC)).getD Cm.zero).events.length ce)) rfl rfl (by first | rfl | exact binV_one _ | exact dgR_one _ | exact refR_one _ | exact secR_one _ | exact all_c8 _ | exact cmV_one _ rfl rfl) (by first | rfl | (rw [binV_len]; rfl) | (rw [dgR_len]; rfl) | (rw [refR_len]; rfl) | (rw [secR_len]; rfl) | (rw [List.length_map, tagF_len]; rfl) | (rw [cmV_len]; rfl)) hB6 (by simp [cmV_len]) rfl ?_; intro w7 hB7 hk7 hs7
  rw [splice_all (by simp [cmV_len])] at hB7
  refine o_ast rfl ?_
  refine ops_nil ?_
  refine W_seq ?_
  refine W_region ?_
  refine o_mvt rfl ?_
  refine op_run (r_eql rfl rfl) rfl ?_
  refine o_mvt rfl ?_
  refine g_split rfl rfl rfl (fun g8 => ?_) (fun g => absurd g (by rw [if_pos exC_right, if_pos exC_len]; simp))
  refine o_mvt (g_yes rfl rfl rfl g8) ?_
  refine op_run (r_eql rfl rfl) (g_yes rfl rfl rfl g8) ?_
  refine o_pkTt rfl g8 rfl ?_
  refine o_mvt rfl ?_
  refine g_split rfl rfl rfl (fun g9 => ?_) (fun g => absurd g (by rw [hdc]; simp))
  refine op_run (r_fieldAddr rfl rfl rfl rfl rfl) (g_yes rfl rfl rfl g9) ?_
  refine op_run (r_load rfl rfl rfl (hB7.cell (cmV_epoch _ _ _))) (g_yes rfl rfl rfl g9) ?_
  refine op_run (r_eql rfl rfl) (g_yes rfl rfl rfl g9) ?_
  refine o_pkTt rfl g9 rfl ?_
  refine o_mvt rfl ?_
  refine g_split rfl rfl rfl (fun g11 => ?_) (fun g => absurd g (by rw [hdc]; simp [exC]))
  refine op_run (r_fieldAddr rfl rfl rfl rfl rfl) (g_yes rfl rfl rfl g11) ?_
  refine op_run (r_load rfl rfl rfl (hB7.cell (cmV_events _ _ _))) (g_yes rfl rfl rfl g11) ?_
  refine op_run (r_len rfl rfl rfl) (g_yes rfl rfl rfl g11) ?_
  refine op_run (r_eql rfl rfl) (g_yes rfl rfl rfl g11) ?_
  refine o_pkTt rfl g11 rfl ?_
  refine o_ast rfl ?_
  refine ops_nil ?_
  refine W_ret ?_
  refine ret1 (.bool (decide ((((decC (encC exC)).getD Cm.zero).events.length : Int) = 1))) rfl ?_ ?_; rfl
  exact ⟨congrArg Value.bool (decide_eq_true (by rw [hdc]; rfl)), ((((hk1.trans hk2).trans hk4).trans hk5).trans hk6).new hk7 (by have := hk1.size; have := hk2.size; have := hk4.size; have := hk5.size; omega)⟩
def greatC (c : Cm) : Prop := (40 < c.bins.length ∨ 40 < c.events.length) ∨ ∃ x ∈ c.events, 70000 < x.length
instance (c : Cm) : Decidable (greatC c) := inferInstanceAs (Decidable (_ ∨ _))
theorem greatC_small {c : Cm} (h : ¬ greatC c) (h64 : c.epoch < 2 ^ 64) : c.small :=
  ⟨h64, by have : ¬ 40 < c.bins.length := fun hh => h (.inl (.inl hh)); omega, by have : ¬ 40 < c.events.length := fun hh => h (.inl (.inr hh)); omega, fun x hx => by have : ¬ 70000 < x.length := fun hh => h (.inr ⟨x, hx, hh⟩); omega⟩
theorem great13 (w : World) (c : Cm) (vb ve : Value) (vks : List Value) (hc : CmIn w c vb ve vks) : Ret Try.prog 13 [.agg (cmV c vb ve).toArray].toArray w fun r w' => r = .bool (decide (greatC c)) ∧ Keep All w w' := by
  obtain ⟨ab, cb, rfl, hcb, hcbm⟩ := hc.1.form
  obtain ⟨ae, ce, rfl, hce, hcem⟩ := hc.2.2.1.form
  have hme : ce ≤ 9223372036854775807 := hcem
  have hvl := hc.2.1
  refine enter (fn := Try.f13) (n := 26) Try.func13 rfl rfl (by simp) ?_
  refine W_seq ?_
  refine W_region ?_
  refine o_box rfl rfl rfl ?_; intro w1 b1 e1 hB1 hk1 hs1
  have hB1 : Blk w1 b1 (cmV c (.slice ab c.bins.length cb) (.slice ae c.events.length ce)) 32 := hB1
  refine o_asc rfl ?_
  refine ops_nil ?_
  refine W_seq ?_
  refine W_cut [14] [5, 6, 7, 8, 9, 10, 11, 12, 13, 14] (fun vs w2 => vs = [.bool (decide (40 < c.bins.length ∨ 40 < c.events.length))] ∧ w2 = w1) ?_ ?_
  · refine W_region ?_
    refine op_run (r_fieldAddr rfl rfl rfl rfl rfl) rfl ?_
    refine op_run (r_load rfl rfl rfl (hB1.cell (cmV_bins _ _ _))) rfl ?_
    refine op_run (r_len rfl rfl rfl) rfl ?_
    refine op_run (r_gtr rfl rfl) rfl ?_
    refine o_mvt rfl ?_
    refine g_split rfl rfl rfl (fun g4 => ?_) (fun g4 => ?_)
    · refine op_run (r_fieldAddr rfl rfl rfl rfl rfl) (g_yes rfl rfl rfl g4) ?_
      refine op_run (r_load rfl rfl rfl (hB1.cell (cmV_events _ _ _))) (g_yes rfl rfl rfl g4) ?_
      refine op_run (r_len rfl rfl rfl) (g_yes rfl rfl rfl g4) ?_
      refine op_run (r_gtr rfl rfl) (g_yes rfl rfl rfl g4) ?_
      refine o_pkFt rfl g4 rfl ?_
      refine ops_nil ?_
      exact ⟨by (repeat (first | with_reducible exact offM_refl _ _ | refine offM_updc rfl ?_ | refine offM_upd rfl ?_ | refine offM_updo rfl ?_ | refine offM_updo_none ?_ | refine offM_head rfl rfl ?_)), congrArg (fun b => [Value.bool b]) (by have g := of_decide_eq_false g4; rw [decide_eq_decide]; omega), rfl⟩
    · refine op_skip (g_no rfl rfl rfl g4) ?_
      refine op_skip (g_no rfl rfl rfl g4) ?_
      refine op_skip (g_no rfl rfl rfl g4) ?_
      refine op_skip (g_no rfl rfl rfl g4) ?_
      refine o_pkTc rfl g4 rfl ?_
      refine ops_nil ?_
      exact ⟨by (repeat (first | with_reducible exact offM_refl _ _ | refine offM_updc rfl ?_ | refine offM_upd rfl ?_ | refine offM_updo rfl ?_ | refine offM_updo_none ?_ | refine offM_head rfl rfl ?_)), congrArg (fun b => [Value.bool b]) (by have g := of_decide_eq_true g4; symm; apply decide_eq_true; omega), rfl⟩
  · rintro J8 vs w8 ⟨rfl, rfl⟩ -
    refine W_cond_p rfl (fun h9 => ?_) (fun h9 => ?_)
    · refine W_seq ?_
      refine W_region ?_
      refine o_asc rfl ?_
      refine ops_nil ?_
      refine W_ret ?_
      refine ret1 (.bool true) rfl ?_ ?_; rfl
      exact ⟨congrArg Value.bool (decide_eq_true (.inl h9)).symm, hk1⟩
    · refine W_skip ?_
      refine W_seq ?_
      refine W_seq ?_
      refine W_region ?_
      refine op_run (r_fieldAddr rfl rfl rfl rfl rfl) rfl ?_
      refine op_run (r_load rfl rfl rfl (hB1.cell (cmV_events _ _ _))) rfl ?_
      refine op_run (r_len rfl rfl rfl) rfl ?_
      refine o_mvc rfl ?_
      refine ops_nil ?_
      refine W_block ?_
      refine W_loop [18] [2, 4, 18, 19, 20, 21, 22, 23, 24, 25] (fun vs w' => ∃ k : Nat, vs = [.int .i64 k] ∧ k ≤ c.events.length ∧ (∀ x ∈ c.events.take k, ¬ 70000 < x.length) ∧ w' = w8) (fun vs _ => match vs with | [.int _ y] => c.events.length - y.toNat | _ => 0) ⟨0, rfl, Nat.zero_le _, fun x hx => by simp at hx, rfl⟩ ?_
      rintro J12 vs w12 ⟨k, rfl, hk, hle, rfl⟩ -
      refine W_seq ?_
      refine W_region ?_
      refine op_run (r_lss rfl rfl) rfl ?_
      refine ops_nil ?_
      refine W_seq ?_
      refine W_cond_p rfl (fun h13 => ?_) (fun h13 => ?_)
      · refine W_skip ?_
        refine W_seq ?_
        refine W_block ?_
        refine W_seq ?_
        refine W_region ?_
        have hkl : k < c.events.length := by omega
        obtain ⟨vk, hvk⟩ : ∃ vk, vks[k]? = some vk := ⟨_, List.getElem?_eq_getElem (by omega)⟩
        obtain ⟨bp, op, cp, ep, hcell⟩ := (hc.2.k hk1).at hvk
        cases ep
        obtain ⟨x, hx⟩ : ∃ x, c.events[k]? = some x := ⟨_, List.getElem?_eq_getElem hkl⟩
        have hbx := (hc.2.k hk1).2.2 k vk x hvk hx
        obtain ⟨ax, cx, rfl, _, _⟩ := hbx.form
        refine op_run (r_idxS1 rfl rfl rfl rfl (by omega) (by omega)) rfl ?_
        refine op_run (r_load rfl rfl rfl hcell) rfl ?_
        refine o_ast rfl ?_
        refine ops_nil ?_
        refine W_seq ?_
        refine W_region ?_
        refine o_mvt rfl ?_
        refine op_run (r_len rfl rfl rfl) rfl ?_
        refine op_run (r_gtr rfl rfl) rfl ?_
        refine ops_nil ?_
        refine W_cond_p rfl (fun h16 => ?_) (fun h16 => ?_)
        · refine W_seq ?_
          refine W_region ?_
          refine o_asc rfl ?_
          refine ops_nil ?_
          refine W_ret ?_
          refine ret1 (.bool true) rfl ?_ ?_; rfl
          exact ⟨congrArg Value.bool (decide_eq_true (.inr ⟨x, List.mem_of_getElem? hx, by omega⟩)).symm, hk1⟩
        · refine W_skip ?_
          refine W_region ?_
          refine op_run (r_add rfl rfl) rfl ?_
          refine o_mvt rfl ?_
          refine ops_nil ?_
          have hinc := inc64' k (by omega)
          refine ⟨by (repeat (first | with_reducible exact offM_refl _ _ | refine offM_updc rfl ?_ | refine offM_upd rfl ?_ | refine offM_updo rfl ?_ | refine offM_updo_none ?_ | refine offM_head rfl rfl ?_)), ⟨k + 1, congrArg (fun z : Int => [Value.int .i64 z]) hinc, by omega, fun y hy => ?_, rfl⟩, ?_⟩
          · rw [List.take_succ_eq_append_getElem hkl] at hy
            rcases List.mem_append.1 hy with hy | hy
            · exact hle y hy
            · obtain rfl := List.mem_singleton.1 hy
              rw [List.getElem?_eq_getElem hkl] at hx
              injection hx with hx
              rw [hx]; omega
          · show c.events.length - (IntKind.i64.wrap ((k : Int) + 1)).toNat < c.events.length - (k : Int).toNat
            rw [hinc]; omega
      · refine W_exit ?_
        refine W_seq ?_
        refine W_region ?_
        refine o_asc rfl ?_
        refine ops_nil ?_
        refine W_ret ?_
        refine ret1 (.bool false) rfl ?_ ?_; rfl
        have hke : k = c.events.length := by omega
        subst hke
        rw [List.take_length] at hle
        exact ⟨congrArg Value.bool (decide_eq_false (by rintro (h | ⟨x, hx, h⟩); exact h9 h; exact hle x hx h)).symm, hk1⟩
theorem walk_CommitReads (w : World) (v : Value) (bs : List UInt8) (hv : By w v bs) :
    Ret Try.prog 3 [v].toArray w fun u w' => u = .bool true ∧ Keep All w w' := by
  obtain ⟨a0, c0, rfl, hc0, hcm0⟩ := hv.form
  refine enter (fn := Try.f3) (n := 49) Try.func3 rfl rfl (by simp) ?_
  refine W_seq ?_
  refine W_region ?_
  refine o_asc rfl ?_
  refine ops_nil ?_
  refine W_seq ?_
  refine W_seq ?_
  refine W_region ?_
  refine op_call rfl rfl rfl (speaks13 w) ?_; rintro v1 w1 ⟨rfl, hk1⟩
  refine op_run (r_not rfl) rfl ?_
  refine ops_nil ?_
  refine W_no rfl (rfl) ?_
  refine W_skip ?_
  refine W_seq ?_
  refine W_seq ?_
  refine W_region ?_
  refine o_mvt rfl ?_
  refine op_run (r_len rfl rfl rfl) rfl ?_
  refine op_run (r_gtr rfl rfl) rfl ?_
  refine ops_nil ?_
  refine W_cond_p rfl (fun h4 => ?_) (fun h4 => ?_)
  · refine W_seq ?_
    refine W_region ?_
    refine o_asc rfl ?_
    refine ops_nil ?_
    refine W_ret ?_
    refine ret1 (.bool true) rfl ?_ ?_; rfl
    exact ⟨rfl, hk1⟩
  · refine W_skip ?_
    refine W_seq ?_
    refine W_region ?_
    have hbl : bs.length ≤ 3000 := by omega
    refine o_bs0 rfl rfl rfl ?_; intro w6 b6 e6 hB6 hk6 hs6
    refine o_mvt rfl ?_
    refine o_appS (v := .slice (some ⟨b6, 0, none⟩) 0 0) (m := 0) (xs := []) rfl rfl (hv.k (hk1.trans hk6)) rfl ti_u8 rfl rfl (Own.blk (n := 0) hB6 rfl (Nat.zero_le _)) (all_c8 _) (by unfold maxLen; omega) (by omega) rfl ?_; intro v7 w7 hown7 hk7 hb7
    have hown7 : OwnB w7 5 v7 bs := by have h := OwnB.app (xs := []) hown7; exact h
    have hk17 : Keep All w1 w7 := hk6.own hk7 (fun z hz _ => by obtain rfl : b6 = z := Option.some.inj hz; omega)
    refine op_call rfl rfl rfl (cm_Decode w7 v7 bs (OwnB.by_ hown7) (by omega)) ?_; rintro v8 w8 ⟨vb, ve, vks, rfl, hC8, hk8⟩
    obtain ⟨C, hC⟩ : ∃ C, C = (decC bs).getD Cm.zero := ⟨_, rfl⟩
    rw [← hC] at hC8 ⊢
    obtain ⟨ab, cb, rfl, _, _⟩ := hC8.1.form
    obtain ⟨ae, ce, rfl, _, _⟩ := hC8.2.2.1.form
    refine o_mvt rfl ?_
    refine op_run (r_extract rfl rfl) rfl ?_
    refine op_run (r_extract rfl rfl) rfl ?_
    refine o_alloc rfl rfl rfl ?_; intro w9 b9 e9 hB9 hk9 hs9
    refine o_storeA (cs := cmV C (.slice ab C.bins.length cb) (.slice ae C.events.length ce)) rfl rfl (by first | rfl | exact binV_one _ | exact dgR_one _ | exact refR_one _ | exact secR_one _ | exact all_c8 _ | exact cmV_one _ rfl rfl) (by first | rfl | (rw [binV_len]; rfl) | (rw [dgR_len]; rfl) | (rw [refR_len]; rfl) | (rw [secR_len]; rfl) | (rw [List.length_map, tagF_len]; rfl) | (rw [cmV_len]; rfl)) hB9 (by simp [cmV_len]) rfl ?_; intro w10 hB10 hk10 hs10
    rw [splice_all (by simp [cmV_len])] at hB10
    have hk810 : Keep All w8 w10 := hk9.new hk10 (by omega)
    have hkw10 := (hk1.trans hk17).trans (hk8.trans hk810)
    refine o_ast rfl ?_
    refine ops_nil ?_
    refine W_seq ?_
    refine W_region ?_
    refine o_mvt rfl ?_
    refine op_call rfl rfl rfl (rf13_Decode w10 _ bs (hv.k hkw10) (by omega)) ?_; rintro v11 w11 ⟨vb', ve', vks', rfl, hC11, hk11⟩
    rw [← hC] at hC11 ⊢
    obtain ⟨ab', cb', rfl, _, _⟩ := hC11.1.form
    obtain ⟨ae', ce', rfl, _, _⟩ := hC11.2.2.1.form
    refine o_mvt rfl ?_
    refine op_run (r_extract rfl rfl) rfl ?_
    refine op_run (r_extract rfl rfl) rfl ?_
    refine o_alloc rfl rfl rfl ?_; intro w12 b12 e12 hB12 hk12 hs12
    refine o_storeA (cs := cmV C (.slice ab' C.bins.length cb') (.slice ae' C.events.length ce')) rfl rfl (by first | rfl | exact binV_one _ | exact dgR_one _ | exact refR_one _ | exact secR_one _ | exact all_c8 _ | exact cmV_one _ rfl rfl) (by first | rfl | (rw [binV_len]; rfl) | (rw [dgR_len]; rfl) | (rw [refR_len]; rfl) | (rw [secR_len]; rfl) | (rw [List.length_map, tagF_len]; rfl) | (rw [cmV_len]; rfl)) hB12 (by simp [cmV_len]) rfl ?_; intro w13 hB13 hk13 hs13
    rw [splice_all (by simp [cmV_len])] at hB13
    have hk1113 : Keep All w11 w13 := hk12.new hk13 (by omega)
    have hk813 := (hk810.trans hk11).trans hk1113
    have hB10' := (hk11.trans hk1113).blk' hB10 trivial
    refine o_ast rfl ?_
    refine ops_nil ?_
    refine W_seq ?_
    refine W_cut [34] [26, 27, 28, 29, 30, 31, 32, 33, 34] (fun vs w14 => vs = [.bool false] ∧ Keep All w13 w14) ?_ ?_
    · refine W_region ?_
      refine o_mvt rfl ?_
      refine o_mvt rfl ?_
      refine op_run (r_neq rfl rfl) rfl ?_
      refine o_mvt rfl ?_
      refine g_split rfl rfl rfl (fun g15 => ?_) (fun g => absurd g (by simp))
      refine op_run (r_loadA (cmV C (.slice ab C.bins.length cb) (.slice ae C.events.length ce)) rfl rfl rfl (by first | rfl | (rw [binV_len]; rfl) | (rw [dgR_len]; rfl) | (rw [refR_len]; rfl) | (rw [secR_len]; rfl) | (rw [List.length_map, tagF_len]; rfl) | (rw [cmV_len]; rfl)) (hB10'.all)) (g_yes rfl rfl rfl g15) ?_
      refine op_run (r_loadA (cmV C (.slice ab' C.bins.length cb') (.slice ae' C.events.length ce')) rfl rfl rfl (by first | rfl | (rw [binV_len]; rfl) | (rw [dgR_len]; rfl) | (rw [refR_len]; rfl) | (rw [secR_len]; rfl) | (rw [List.length_map, tagF_len]; rfl) | (rw [cmV_len]; rfl)) (hB13.all)) (g_yes rfl rfl rfl g15) ?_
      refine op_call rfl rfl (g_yes rfl rfl rfl g15) (rf13_Same w13 C C _ _ _ _ vks vks' (hC8.k hk813) (hC11.k hk1113)) ?_; rintro v18 w18 ⟨rfl, hk18⟩
      refine op_run (r_not rfl) (g_yes rfl rfl rfl g15) ?_
      refine o_pkFt rfl g15 rfl ?_
      refine ops_nil ?_
      exact ⟨by (repeat (first | with_reducible exact offM_refl _ _ | refine offM_updc rfl ?_ | refine offM_upd rfl ?_ | refine offM_updo rfl ?_ | refine offM_updo_none ?_ | refine offM_head rfl rfl ?_)), congrArg (fun b => [Value.bool b]) (by simp), hk18⟩
    · rintro J20 vs w20 ⟨rfl, hk20⟩ -
      refine W_no rfl (rfl) ?_
      refine W_skip ?_
      refine W_seq ?_
      refine W_seq ?_
      refine W_region ?_
      refine o_mvt rfl ?_
      refine op_run (r_neq rfl rfl) rfl ?_
      refine ops_nil ?_
      refine W_cond_p rfl (fun h23 => ?_) (fun h23 => ?_)
      · refine W_seq ?_
        refine W_region ?_
        refine o_asc rfl ?_
        refine ops_nil ?_
        refine W_ret ?_
        refine ret1 (.bool true) rfl ?_ ?_; rfl
        exact ⟨rfl, (hkw10.trans hk11).trans (hk1113.trans hk20)⟩
      · refine W_skip ?_
        refine W_seq ?_
        refine W_region ?_
        have hsome : (decC bs).isSome = true := by
          cases hd : (decC bs).isSome with
          | true => rfl
          | false => rw [hd] at h23; exact absurd (show (if false = true then (0 : Int) else 3) ≠ 0 by decide) h23
        obtain ⟨C', hC'⟩ := Option.isSome_iff_exists.1 hsome
        obtain rfl : C = C' := by rw [hC, hC']; rfl
        obtain ⟨⟨hr, he64⟩, hen, hlen⟩ := decC_iff.1 hC'
        have hfit := right_fit hr he64 (by rw [hen]; exact hlen)
        have hsm : C.small := ⟨he64, hfit.nbins, hfit.nev, fun x hx => by have := hfit.events x hx; omega⟩
        have hC20 := hC8.k (hk813.trans hk20)
        refine op_run (r_loadA (cmV C (.slice ab C.bins.length cb) (.slice ae C.events.length ce)) rfl rfl rfl (by first | rfl | (rw [binV_len]; rfl) | (rw [dgR_len]; rfl) | (rw [refR_len]; rfl) | (rw [secR_len]; rfl) | (rw [List.length_map, tagF_len]; rfl) | (rw [cmV_len]; rfl)) ((hk20.blk' hB10' trivial).all)) rfl ?_
        refine op_call rfl rfl rfl (cm_Encode w20 C _ _ vks hC20 hsm) ?_; rintro v26 w26 ⟨v, rfl, hby26, hin26, hk26⟩
        rw [if_pos ⟨hr, by rw [hen]; exact hlen⟩, hen] at hby26
        rw [if_pos hr, if_pos (show (encC C).length ≤ 65536 by rw [hen]; exact hlen)]
        refine o_mvt rfl ?_
        refine op_run (r_extract rfl rfl) rfl ?_
        refine op_run (r_extract rfl rfl) rfl ?_
        refine o_ast rfl ?_
        refine o_ast rfl ?_
        refine ops_nil ?_
        refine W_seq ?_
        refine W_region ?_
        refine o_mvt rfl ?_
        refine op_run (r_eql rfl rfl) rfl ?_
        refine o_mvt rfl ?_
        refine g_split rfl rfl rfl (fun g27 => ?_) (fun g => absurd g (by simp))
        refine o_mvt (g_yes rfl rfl rfl g27) ?_
        refine o_mvt (g_yes rfl rfl rfl g27) ?_
        refine op_call rfl rfl (g_yes rfl rfl rfl g27) (ref01_Same w26 v _ bs bs hby26 (hv.k (((hkw10.trans hk11).trans (hk1113.trans hk20)).trans hk26))) ?_; rintro v28 w28 ⟨rfl, hk28⟩
        refine o_pkTt rfl g27 rfl ?_
        refine o_ast rfl ?_
        refine ops_nil ?_
        refine W_ret ?_
        refine ret1 (.bool (decide (bs = bs))) rfl ?_ ?_; rfl
        exact ⟨congrArg Value.bool (decide_eq_true rfl), (((hkw10.trans hk11).trans (hk1113.trans hk20)).trans hk26).trans hk28⟩
end Go.Proofs.Ytlpkdblhaahkaaa.B
