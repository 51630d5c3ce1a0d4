/-
  sporranlaw08: TrieDrops.
-/
import Derived.Test.YtpiidddccmohdaaTreL3
namespace Go.Proofs.Ytpiidddccmohdaa.B
open Go
set_option linter.unusedVariables false
set_option maxHeartbeats 2000000
set_option maxRecDepth 100000
attribute [local irreducible] W OpsW OpsQ retP
theorem dropTT_no {T : Tre} {key : Dig} (h : T.get (nibs key.val) = none) : dropTT T key = T := by unfold dropTT; rw [h]; rfl
theorem drop_put {T : Tre} (hw : T.wf 64) {key : Dig} {val : List UInt8} (h : T.get (nibs key.val) = some val) : putTT (dropTT T key) key val = T :=
  Tre.uniqD (wf_putTT (wf_dropTT hw _) _ _) hw fun k => by
    rw [get_putTT (wf_dropTT hw _), get_dropTT hw]
    by_cases e : k = key
    · rw [if_pos e, e, h]
    · rw [if_neg e, if_neg e]
theorem put_drop {T : Tre} (hw : T.wf 64) {key : Dig} {val : List UInt8} (h : T.get (nibs key.val) = none) : dropTT (putTT T key val) key = T :=
  Tre.uniqD (wf_dropTT (wf_putTT hw _ _) _) hw fun k => by
    rw [get_dropTT (wf_putTT hw _ _), get_putTT hw]
    by_cases e : k = key
    · rw [if_pos e, e, h]
    · rw [if_neg e, if_neg e]
theorem lw_Drops (w : World) (v vv : Value) (cs : List Cl) (key : Dig) (val : List UInt8) (hv : ClsIn w v cs) (hval : By w vv val) : Ret Try.prog 4 [v, .agg (dgR key).toArray, vv].toArray w fun r w' => r = .bool true ∧ Keep All w w' := by
  obtain ⟨av, cv, rfl, _, _⟩ := hval.form
  refine enter (fn := Try.f4) (n := 101) Try.func4 rfl rfl (by simp) ?_
  refine W_seq ?_
  refine W_region ?_
  refine o_box rfl rfl rfl ?_; intro w1 b1 e1 hB1 hk1 hs1
  have hB1 : Blk w1 b1 (dgR key) 30 := hB1
  refine o_asc rfl ?_
  refine ops_nil ?_
  refine W_seq ?_
  refine W_seq ?_
  refine W_region ?_
  refine op_call rfl rfl rfl (lw_speaks w1) ?_; rintro v2 w2 ⟨rfl, hk2⟩
  refine op_run (r_not rfl) rfl ?_
  refine ops_nil ?_
  refine W_cond rfl (fun h3 => ?_) (fun h3 => ?_)
  · refine W_seq ?_
    refine W_region ?_
    refine o_asc rfl ?_
    refine ops_nil ?_
    refine W_ret ?_
    refine ret1 (.bool false) rfl ?_ ?_; rfl
    cases h3
  · refine W_skip ?_
    refine W_seq ?_
    refine W_cut [24] [18, 19, 20, 21, 22, 23, 24] (fun vs w5 => ∃ g : Bool, vs = [.bool g] ∧ (g = false → smallC cs ∧ val.length ≤ 200) ∧ Keep All w2 w5) ?_ ?_
    · refine W_region ?_
      refine o_mvt rfl ?_
      refine op_call rfl rfl rfl (lw_Great w2 v cs (hv.k (hk1.trans hk2))) ?_; rintro v6 w6 ⟨⟨g, rfl, hg⟩, hk6⟩
      refine o_mvt rfl ?_
      refine g_split rfl rfl rfl (fun g7 => ?_) (fun g7 => ?_)
      · refine o_mvt (g_yes rfl rfl rfl g7) ?_
        refine op_run (r_len rfl rfl rfl) (g_yes rfl rfl rfl g7) ?_
        refine op_run (r_gtr rfl rfl) (g_yes rfl rfl rfl g7) ?_
        refine o_pkFt rfl g7 rfl ?_
        refine ops_nil ?_
        exact ⟨by (repeat (first | with_reducible exact offM_refl _ _ | refine offM_updc rfl ?_ | refine offM_upd rfl ?_ | refine offM_updo rfl ?_ | refine offM_updo_none ?_ | refine offM_head rfl rfl ?_)), _, rfl, fun h => ⟨hg g7, by have := of_decide_eq_false h; omega⟩, hk6⟩
      · refine op_skip (g_no rfl rfl rfl g7) ?_
        refine op_skip (g_no rfl rfl rfl g7) ?_
        refine op_skip (g_no rfl rfl rfl g7) ?_
        refine o_pkTc rfl g7 rfl ?_
        refine ops_nil ?_
        exact ⟨by (repeat (first | with_reducible exact offM_refl _ _ | refine offM_updc rfl ?_ | refine offM_upd rfl ?_ | refine offM_updo rfl ?_ | refine offM_updo_none ?_ | refine offM_head rfl rfl ?_)), true, rfl, (fun h => by cases h), hk6⟩
    · rintro J10 vs w10 ⟨g, rfl, hg, hk10⟩ -
      refine W_cond rfl (fun h11 => ?_) (fun h11 => ?_)
      · refine W_seq ?_
        refine W_region ?_
        refine o_asc rfl ?_
        refine ops_nil ?_
        refine W_ret ?_
        refine ret1 (.bool true) rfl ?_ ?_; rfl
        exact ⟨rfl, (hk1.trans hk2).trans hk10⟩
      · refine W_skip ?_
        refine W_seq ?_
        refine W_region ?_
        obtain ⟨hsm, hvl⟩ := hg h11
        have hkw10 : Keep All w w10 := (hk1.trans hk2).trans hk10
        obtain ⟨B, hB⟩ : ∃ B, B = w10.heap.size := ⟨_, rfl⟩
        refine o_mvt rfl ?_
        refine op_call rfl rfl rfl (lw_play w10 v cs (hv.k hkw10) hsm) ?_; rintro v13 w13 ⟨u, rfl, hT13, hI13, hk13⟩
        rw [← hB] at hT13 ⊢
        have hag := play_ok cs (.no, []) (fun _ => rfl) trivial
        have hsv := play_short 200 cs (.no, []) (fun x h => by cases h) hsm.2
        obtain ⟨T, hT_⟩ : ∃ T, T = (playC cs).1 := ⟨_, rfl⟩
        obtain ⟨l, hl_⟩ : ∃ l, l = (playC cs).2 := ⟨_, rfl⟩
        have ha : Agree T l := by rw [hT_, hl_]; exact hag.1
        have hw : T.wf 64 := by rw [hT_]; exact hag.2
        have hs1 : ∀ x ∈ l, x.2.length ≤ 200 := by rw [hl_]; exact hsv
        have hsh : T.short := ha.short hw fun x hx => Nat.le_trans (hs1 x hx) (by decide)
        have hgl : ∀ (k : Dig) (x : List UInt8), T.get (nibs k.val) = some x → x.length ≤ 200 := fun k x hx => by
          rw [ha k] at hx; exact hs1 _ (look_mem hx)
        rw [← hT_] at hT13
        refine o_mvt rfl ?_
        refine op_run (r_extract rfl rfl) rfl ?_
        refine op_run (r_extract rfl rfl) rfl ?_
        refine o_ast rfl ?_
        refine o_ast rfl ?_
        refine ops_nil ?_
        refine W_seq ?_
        refine W_seq ?_
        refine W_region ?_
        refine o_mvt rfl ?_
        refine op_run (r_isNilP rfl rfl) rfl ?_
        refine ops_nil ?_
        refine W_cond rfl (fun h14 => ?_) (fun h14 => ?_)
        · refine W_seq ?_
          refine W_region ?_
          refine o_asc rfl ?_
          refine ops_nil ?_
          refine W_ret ?_
          refine ret1 (.bool false) rfl ?_ ?_; rfl
          cases h14
        · refine W_skip ?_
          refine W_seq ?_
          refine W_region ?_
          refine o_mvt rfl ?_
          refine op_call rfl rfl rfl (tr_Root w13 B T hT13 hsh) ?_; rintro v16 w16 ⟨rfl, hk16⟩
          refine o_alloc rfl rfl rfl ?_; intro w17 b17 e17 hB17 hk17 hs17
          refine o_storeA (cs := dgR (rootT T)) rfl rfl (by first | rfl | exact binV_one _ | exact dgR_one _ | exact refR_one _ | exact secR_one _ | exact all_c8 _ | exact okC_dgR _) (by first | rfl | (rw [binV_len]; rfl) | (rw [dgR_len]; rfl) | (rw [refR_len]; rfl) | (rw [secR_len]; rfl) | (rw [List.length_map, tagF_len]; rfl) | (rw [dgR_len]; rfl)) hB17 (by exact Nat.le_of_eq (by simp [dgR_len])) rfl ?_; intro w18 hB18 hk18 hs18
          have hB18 : Blk w18 b17 (dgR (rootT T)) 30 := by
            have h := hB18
            rwa [splice_all (by simp [dgR_len])] at h
          have hk1318 : Keep All w13 w18 := (hk16.trans hk17).new hk18 (by have := hk16.size; omega)
          have hkw18 : Keep All w10 w18 := hk13.trans hk1318
          have hT18 : TrieIn w18 B T := hT13.k hk1318
          have hb1 : Blk w18 b1 (dgR key) 30 := (hk2.trans (hk10.trans hkw18)).blk' hB1 trivial
          have hb1B : b1 ≠ B := by have := hB1.lt; have := (hk2.trans hk10).size; omega
          have hb17B : b17 ≠ B := by obtain ⟨x, hx⟩ := hT13.cell; have := hx.lt; have := hk16.size; omega
          have hval18 : By w18 (.slice av val.length cv) val := Sl.k hval (hkw10.trans hkw18)
          refine ops_nil ?_
          refine W_seq ?_
          refine W_region ?_
          refine o_mvt rfl ?_
          refine op_run (r_loadA (dgR key) rfl rfl rfl (by first | rfl | (rw [binV_len]; rfl) | (rw [dgR_len]; rfl) | (rw [refR_len]; rfl) | (rw [secR_len]; rfl) | (rw [List.length_map, tagF_len]; rfl) | (rw [dgR_len]; rfl)) (hb1.all)) rfl ?_
          refine op_call rfl rfl rfl (tr_Get w18 B T key hT18 (fun x hx => Nat.le_trans (hgl key x hx) (by decide))) ?_; rintro v20 w20 ⟨vg, rfl, hbyg, hing, hk20⟩
          have hT20 := hT18.k hk20
          have fin : ∀ w' : World, Keep (fun z => z ≠ B) w18 w' → Keep All w w' := fun w' h => hkw10.trans (hkw18.new h (by omega))
          refine o_mvt rfl ?_
          refine op_run (r_extract rfl rfl) rfl ?_
          refine op_run (r_extract rfl rfl) rfl ?_
          refine o_ast rfl ?_
          refine o_ast rfl ?_
          refine ops_nil ?_
          refine W_seq ?_
          refine W_seq ?_
          refine W_region ?_
          refine o_mvt rfl ?_
          refine ops_nil ?_
          refine W_cond rfl (fun h21 => ?_) (fun h21 => ?_)
          · refine W_seq ?_
            obtain ⟨x, hx⟩ := Option.isSome_iff_exists.1 (show (T.get (nibs key.val)).isSome = true from h21)
            rw [hx] at hbyg
            have hbyg : By w20 vg x := hbyg
            have hT1n : (dropTT T key).get (nibs key.val) = none := by rw [get_dropTT hw, if_pos rfl]
            refine W_cut [49] [41, 42, 43, 44, 45, 46, 47, 48, 49] (fun vs w22 => vs = [.bool false] ∧ TrieIn w22 B (dropTT T key) ∧ Keep (fun z => z ≠ B) w20 w22) ?_ ?_
            · refine W_region ?_
              refine o_mvt rfl ?_
              refine op_run (r_loadA (dgR key) rfl rfl rfl (by first | rfl | (rw [binV_len]; rfl) | (rw [dgR_len]; rfl) | (rw [refR_len]; rfl) | (rw [secR_len]; rfl) | (rw [List.length_map, tagF_len]; rfl) | (rw [dgR_len]; rfl)) ((hk20.blk' hb1 trivial).all)) rfl ?_
              refine op_call rfl rfl rfl (tr_Drop w20 B T key hT20) ?_; rintro v24 w24 ⟨rfl, hT24, hk24⟩
              refine op_run (r_not rfl) rfl ?_
              refine o_mvt rfl ?_
              refine g_split rfl rfl rfl (fun g25 => ?_) (fun g25 => ?_)
              · refine o_mvt (g_yes rfl rfl rfl (by rw [g25] <;> rfl)) ?_
                refine op_run (r_loadA (dgR key) rfl rfl rfl (by first | rfl | (rw [binV_len]; rfl) | (rw [dgR_len]; rfl) | (rw [refR_len]; rfl) | (rw [secR_len]; rfl) | (rw [List.length_map, tagF_len]; rfl) | (rw [dgR_len]; rfl)) ((hk24.blk' (hk20.blk' hb1 trivial) hb1B).all)) (g_yes rfl rfl rfl (by rw [g25] <;> rfl)) ?_
                refine op_call rfl rfl (g_yes rfl rfl rfl (by rw [g25] <;> rfl)) (tr_Drop w24 B (dropTT T key) key hT24) ?_; rintro v27 w27 ⟨rfl, hT27, hk27⟩
                refine o_pkFt rfl (by rw [g25] <;> rfl) rfl ?_
                refine ops_nil ?_
                exact ⟨by (repeat (first | with_reducible exact offM_refl _ _ | refine offM_updc rfl ?_ | refine offM_upd rfl ?_ | refine offM_updo rfl ?_ | refine offM_updo_none ?_ | refine offM_head rfl rfl ?_)), by rw [hT1n]; rfl, by rw [dropTT_no hT1n] at hT27; exact hT27, hk24.trans hk27⟩
              · refine op_skip (g_no rfl rfl rfl (by rw [g25] <;> rfl)) ?_
                refine op_skip (g_no rfl rfl rfl (by rw [g25] <;> rfl)) ?_
                refine op_skip (g_no rfl rfl rfl (by rw [g25] <;> rfl)) ?_
                refine o_pkTc rfl (by rw [g25] <;> rfl) rfl ?_
                refine ops_nil ?_
                exact absurd g25 (by rw [hx]; simp)
            · rintro J30 vs w30 ⟨rfl, hT30, hk30⟩ -
              refine W_cond rfl (fun h31 => ?_) (fun h31 => ?_)
              · refine W_seq ?_
                refine W_region ?_
                refine o_asc rfl ?_
                refine ops_nil ?_
                refine W_ret ?_
                refine ret1 (.bool false) rfl ?_ ?_; rfl
                cases h31
              · refine W_skip ?_
                refine W_seq ?_
                refine W_seq ?_
                refine W_region ?_
                refine o_mvt rfl ?_
                refine op_run (r_loadA (dgR key) rfl rfl rfl (by first | rfl | (rw [binV_len]; rfl) | (rw [dgR_len]; rfl) | (rw [refR_len]; rfl) | (rw [secR_len]; rfl) | (rw [List.length_map, tagF_len]; rfl) | (rw [dgR_len]; rfl)) ((hk30.blk' (hk20.blk' hb1 trivial) hb1B).all)) rfl ?_
                refine op_call rfl rfl rfl (tr_Get w30 B (dropTT T key) key hT30 (fun x hx => by rw [hT1n] at hx; cases hx)) ?_; rintro v34 w34 ⟨vg2, rfl, _, _, hk34⟩
                refine o_mvt rfl ?_
                refine op_run (r_extract rfl rfl) rfl ?_
                refine op_run (r_extract rfl rfl) rfl ?_
                refine o_ast rfl ?_
                refine o_ast rfl ?_
                refine ops_nil ?_
                refine W_seq ?_
                refine W_region ?_
                refine o_mvt rfl ?_
                refine ops_nil ?_
                refine W_cond rfl (fun h35 => ?_) (fun h35 => ?_)
                · refine W_seq ?_
                  refine W_region ?_
                  refine o_asc rfl ?_
                  refine ops_nil ?_
                  refine W_ret ?_
                  refine ret1 (.bool false) rfl ?_ ?_; rfl
                  exfalso
                  have h35 : ((dropTT T key).get (nibs key.val)).isSome = true := h35
                  rw [hT1n] at h35; cases h35
                · refine W_skip ?_
                  refine W_seq ?_
                  refine W_region ?_
                  refine o_mvt rfl ?_
                  refine op_run (r_loadA (dgR key) rfl rfl rfl (by first | rfl | (rw [binV_len]; rfl) | (rw [dgR_len]; rfl) | (rw [refR_len]; rfl) | (rw [secR_len]; rfl) | (rw [List.length_map, tagF_len]; rfl) | (rw [dgR_len]; rfl)) ((hk34.blk' (hk30.blk' (hk20.blk' hb1 trivial) hb1B) trivial).all)) rfl ?_
                  refine o_mvt rfl ?_
                  obtain ⟨ab20, hb20⟩ := hT20.cell
                  have hby34 : By w34 vg x := Sl.k (By.other hbyg hb20 hk30) hk34
                  refine op_call rfl rfl rfl (tr_Put w34 B (dropTT T key) key vg x (hT30.k hk34) hby34 (Nat.le_trans (hgl key x hx) (by decide))) ?_; rintro v38 w38 ⟨hT38, hk38⟩
                  rw [drop_put hw hx] at hT38
                  have hk1838 : Keep (fun z => z ≠ B) w18 w38 := ((hk20.all.trans hk30).trans hk34.all).trans hk38
                  refine ops_nil ?_
                  refine W_seq ?_
                  refine W_held (fun w' => Keep (fun z => z ≠ B) w18 w') (by kernel_rfl) (hk1838.trans (Keep.drawn w38).all) (fun hS => ?_)
                  refine any_mvt 0 rfl (by kernel_rfl) (by kernel_rfl) (by kernel_rfl) rfl hS ?_
                  refine any_run 2 (fun w' hS' => (r_loadA (dgR (rootT T)) rfl rfl rfl (by first | rfl | (rw [binV_len]; rfl) | (rw [dgR_len]; rfl) | (rw [refR_len]; rfl) | (rw [secR_len]; rfl) | (rw [List.length_map, tagF_len]; rfl) | (rw [dgR_len]; rfl)) ((hS'.blk' hB18 hb17B).all))) rfl (by kernel_rfl) (by kernel_rfl) (by kernel_rfl) rfl hS ?_
                  refine any_one 1 (by kernel_rfl) (one_of rfl ?_)
                  refine op_call rfl rfl rfl (tr_Root _ B T (hT38.k (Keep.drawn w38)) hsh) ?_; rintro v41 w41 ⟨rfl, hk41⟩
                  refine ops_nil ⟨hS.trans hk41.all, fun hS => ?_⟩
                  refine any_run 3 (fun w' hS' => (r_eqlC (p := rootT T = rootT T) rfl rfl rfl rfl (by kernel_rfl) (okC_dgR _) (okC_dgR _) rfl (dgR_inj))) rfl (by kernel_rfl) (by kernel_rfl) (by kernel_rfl) rfl hS ?_
                  refine any_ast 4 rfl (by kernel_rfl) (by kernel_rfl) (by kernel_rfl) rfl hS ?_
                  refine any_done (by kernel_rfl) ?_
                  refine W_ret ?_
                  refine ret1 (.bool (decide (rootT T = rootT T))) rfl ?_ ?_; rfl
                  exact ⟨by rw [decide_eq_true rfl], fin _ hS⟩
          · refine W_skip ?_
            refine W_seq ?_
            have hx : T.get (nibs key.val) = none := by
              cases hg : T.get (nibs key.val) with
              | none => rfl
              | some y =>
                have h21 : (T.get (nibs key.val)).isSome = false := h21
                rw [hg] at h21; cases h21
            refine W_cut [73] [65, 66, 67, 68, 69, 70, 71, 72, 73] (fun vs w45 => vs = [.bool false] ∧ TrieIn w45 B T ∧ Keep (fun z => z ≠ B) w18 w45) ?_ ?_
            · refine W_held (fun w' => Keep (fun z => z ≠ B) w18 w') (by kernel_rfl) ((hk20.trans (Keep.drawn w20)).all) (fun hS => ?_)
              refine any_mvt 0 rfl (by kernel_rfl) (by kernel_rfl) (by kernel_rfl) rfl hS ?_
              refine any_run 1 (fun w' hS' => (r_loadA (dgR key) rfl rfl rfl (by first | rfl | (rw [binV_len]; rfl) | (rw [dgR_len]; rfl) | (rw [refR_len]; rfl) | (rw [secR_len]; rfl) | (rw [List.length_map, tagF_len]; rfl) | (rw [dgR_len]; rfl)) ((hS'.blk' hb1 hb1B).all))) rfl (by kernel_rfl) (by kernel_rfl) (by kernel_rfl) rfl hS ?_
              refine any_one 2 (by kernel_rfl) (one_of rfl ?_)
              refine op_call rfl rfl rfl (tr_Drop _ B T key (hT20.k (Keep.drawn w20))) ?_; rintro v48 w48 ⟨rfl, hT48, hk48⟩
              rw [dropTT_no hx] at hT48
              refine ops_nil ⟨hS.trans hk48, fun hS => ?_⟩
              refine any_mvt 3 rfl (by kernel_rfl) (by kernel_rfl) (by kernel_rfl) rfl hS ?_
              refine a_split 68 false rfl (fun g50 => ?_) (fun g50 => ?_)
              · refine any_mvt 4 rfl (by kernel_rfl) (by kernel_rfl) (by kernel_rfl) (g_yes rfl rfl rfl g50) hS ?_
                refine any_run 6 (fun w' hS' => (r_loadA (dgR (rootT T)) rfl rfl rfl (by first | rfl | (rw [binV_len]; rfl) | (rw [dgR_len]; rfl) | (rw [refR_len]; rfl) | (rw [secR_len]; rfl) | (rw [List.length_map, tagF_len]; rfl) | (rw [dgR_len]; rfl)) ((hS'.blk' hB18 hb17B).all))) rfl (by kernel_rfl) (by kernel_rfl) (by kernel_rfl) (g_yes rfl rfl rfl g50) hS ?_
                refine any_one 5 (by kernel_rfl) (one_of rfl ?_)
                refine op_call rfl rfl (g_yes rfl rfl rfl g50) (tr_Root w48 B T hT48 hsh) ?_; rintro v52 w52 ⟨rfl, hk52⟩
                refine ops_nil ⟨hS.trans hk52.all, fun hS => ?_⟩
                refine any_run 7 (fun w' hS' => (r_neqC (p := rootT T = rootT T) rfl rfl rfl rfl (by kernel_rfl) (okC_dgR _) (okC_dgR _) rfl (dgR_inj))) rfl (by kernel_rfl) (by kernel_rfl) (by kernel_rfl) (g_yes rfl rfl rfl g50) hS ?_
                refine any_run 8 (fun w' hS' => (r_pickF rfl g50)) rfl (by kernel_rfl) (by kernel_rfl) (by kernel_rfl) rfl hS ?_
                refine any_done (by kernel_rfl) ?_
                exact ⟨by (repeat (first | with_reducible exact offM_refl _ _ | refine offM_updc rfl ?_ | refine offM_upd rfl ?_ | refine offM_updo rfl ?_ | refine offM_updo_none ?_ | refine offM_head rfl rfl ?_)), congrArg (fun b => [Value.bool b]) (by simp), hT48.k hk52, hS⟩
              · refine any_skip 4 rfl (by kernel_rfl) (by kernel_rfl) (by kernel_rfl) (g_no rfl rfl rfl g50) hS ?_
                refine any_skip 6 rfl (by kernel_rfl) (by kernel_rfl) (by kernel_rfl) (g_no rfl rfl rfl g50) hS ?_
                refine any_one 5 (by kernel_rfl) (one_of rfl ?_)
                refine op_skip (g_no rfl rfl rfl g50) ?_
                refine ops_nil ⟨hS, fun hS => ?_⟩
                refine any_skip 7 rfl (by kernel_rfl) (by kernel_rfl) (by kernel_rfl) (g_no rfl rfl rfl g50) hS ?_
                refine any_run 8 (fun w' hS' => (r_pickT rfl g50)) rfl (by kernel_rfl) (by kernel_rfl) (by kernel_rfl) rfl hS ?_
                refine any_done (by kernel_rfl) ?_
                exact absurd g50 (by rw [hx]; simp)
            · rintro J58 vs w58 ⟨rfl, hT58, hk58⟩ -
              refine W_cond rfl (fun h59 => ?_) (fun h59 => ?_)
              · refine W_seq ?_
                refine W_region ?_
                refine o_asc rfl ?_
                refine ops_nil ?_
                refine W_ret ?_
                refine ret1 (.bool false) rfl ?_ ?_; rfl
                cases h59
              · refine W_skip ?_
                refine W_seq ?_
                refine W_region ?_
                refine o_mvt rfl ?_
                have hval58 : By w58 (.slice av val.length cv) val := Sl.k hval (fin w58 hk58)
                have hT1s : (putTT T key val).get (nibs key.val) = some val := by rw [get_putTT hw, if_pos rfl]
                refine op_run (r_loadA (dgR key) rfl rfl rfl (by first | rfl | (rw [binV_len]; rfl) | (rw [dgR_len]; rfl) | (rw [refR_len]; rfl) | (rw [secR_len]; rfl) | (rw [List.length_map, tagF_len]; rfl) | (rw [dgR_len]; rfl)) ((hk58.blk' hb1 hb1B).all)) rfl ?_
                refine o_mvt rfl ?_
                refine op_call rfl rfl rfl (tr_Put w58 B T key _ val hT58 hval58 (Nat.le_trans hvl (by decide))) ?_; rintro v62 w62 ⟨hT62, hk62⟩
                have hk1862 := hk58.trans hk62
                refine ops_nil ?_
                refine W_seq ?_
                refine W_region ?_
                refine o_mvt rfl ?_
                refine op_run (r_loadA (dgR key) rfl rfl rfl (by first | rfl | (rw [binV_len]; rfl) | (rw [dgR_len]; rfl) | (rw [refR_len]; rfl) | (rw [secR_len]; rfl) | (rw [List.length_map, tagF_len]; rfl) | (rw [dgR_len]; rfl)) ((hk1862.blk' hb1 hb1B).all)) rfl ?_
                refine op_call rfl rfl rfl (tr_Get w62 B (putTT T key val) key hT62 (fun x hx => by rw [hT1s] at hx; injection hx with hx; subst hx; exact Nat.le_trans hvl (by decide))) ?_; rintro v64 w64 ⟨vg4, rfl, hby64, _, hk64⟩
                rw [hT1s] at hby64
                have hby64 : By w64 vg4 val := hby64
                refine o_mvt rfl ?_
                refine op_run (r_extract rfl rfl) rfl ?_
                refine op_run (r_extract rfl rfl) rfl ?_
                refine o_ast rfl ?_
                refine o_ast rfl ?_
                refine ops_nil ?_
                refine W_seq ?_
                refine W_held (fun w' => Keep (fun z => z ≠ B) w18 w') (by kernel_rfl) (hk1862.trans (hk64.trans (Keep.drawn w64)).all) (fun hS => ?_)
                refine any_mvt 0 rfl (by kernel_rfl) (by kernel_rfl) (by kernel_rfl) rfl hS ?_
                refine any_mvt 1 rfl (by kernel_rfl) (by kernel_rfl) (by kernel_rfl) rfl hS ?_
                refine a_split 85 true rfl (fun g66 => ?_) (fun g66 => ?_)
                · refine any_mvt 2 rfl (by kernel_rfl) (by kernel_rfl) (by kernel_rfl) (g_yes rfl rfl rfl g66) hS ?_
                  refine any_mvt 3 rfl (by kernel_rfl) (by kernel_rfl) (by kernel_rfl) (g_yes rfl rfl rfl g66) hS ?_
                  refine any_one 4 (by kernel_rfl) (one_of rfl ?_)
                  refine op_call rfl rfl (g_yes rfl rfl rfl g66) (ref01_Same _ vg4 _ val val (Sl.k hby64 (Keep.drawn w64)) (Sl.k hval (fin _ hS))) ?_; rintro v67 w67 ⟨rfl, hk67⟩
                  refine ops_nil ⟨hS.trans hk67.all, fun hS => ?_⟩
                  refine any_run 5 (fun w' hS' => (r_pickT rfl g66)) rfl (by kernel_rfl) (by kernel_rfl) (by kernel_rfl) rfl hS ?_
                  refine any_mvt 6 rfl (by kernel_rfl) (by kernel_rfl) (by kernel_rfl) rfl hS ?_
                  refine a_split 90 true rfl (fun g69 => ?_) (fun g69 => ?_)
                  · refine any_mvt 7 rfl (by kernel_rfl) (by kernel_rfl) (by kernel_rfl) (g_yes rfl rfl rfl g69) hS ?_
                    refine any_run 8 (fun w' hS' => (r_loadA (dgR key) rfl rfl rfl (by first | rfl | (rw [binV_len]; rfl) | (rw [dgR_len]; rfl) | (rw [refR_len]; rfl) | (rw [secR_len]; rfl) | (rw [List.length_map, tagF_len]; rfl) | (rw [dgR_len]; rfl)) ((hS'.blk' hb1 hb1B).all))) rfl (by kernel_rfl) (by kernel_rfl) (by kernel_rfl) (g_yes rfl rfl rfl g69) hS ?_
                    refine any_one 9 (by kernel_rfl) (one_of rfl ?_)
                    refine op_call rfl rfl (g_yes rfl rfl rfl g69) (tr_Drop w67 B (putTT T key val) key ((hT62.k (hk64.trans (Keep.drawn w64))).k hk67)) ?_; rintro v71 w71 ⟨rfl, hT71, hk71⟩
                    rw [put_drop hw hx] at hT71
                    refine ops_nil ⟨hS.trans hk71, fun hS => ?_⟩
                    refine any_run 10 (fun w' hS' => (r_pickT rfl g69)) rfl (by kernel_rfl) (by kernel_rfl) (by kernel_rfl) rfl hS ?_
                    refine any_mvt 11 rfl (by kernel_rfl) (by kernel_rfl) (by kernel_rfl) rfl hS ?_
                    refine a_split 95 true rfl (fun g73 => ?_) (fun g73 => ?_)
                    · refine any_mvt 12 rfl (by kernel_rfl) (by kernel_rfl) (by kernel_rfl) (g_yes rfl rfl rfl g73) hS ?_
                      refine any_run 14 (fun w' hS' => (r_loadA (dgR (rootT T)) rfl rfl rfl (by first | rfl | (rw [binV_len]; rfl) | (rw [dgR_len]; rfl) | (rw [refR_len]; rfl) | (rw [secR_len]; rfl) | (rw [List.length_map, tagF_len]; rfl) | (rw [dgR_len]; rfl)) ((hS'.blk' hB18 hb17B).all))) rfl (by kernel_rfl) (by kernel_rfl) (by kernel_rfl) (g_yes rfl rfl rfl g73) hS ?_
                      refine any_one 13 (by kernel_rfl) (one_of rfl ?_)
                      refine op_call rfl rfl (g_yes rfl rfl rfl g73) (tr_Root w71 B T hT71 hsh) ?_; rintro v75 w75 ⟨rfl, hk75⟩
                      refine ops_nil ⟨hS.trans hk75.all, fun hS => ?_⟩
                      refine any_run 15 (fun w' hS' => (r_eqlC (p := rootT T = rootT T) rfl rfl rfl rfl (by kernel_rfl) (okC_dgR _) (okC_dgR _) rfl (dgR_inj))) rfl (by kernel_rfl) (by kernel_rfl) (by kernel_rfl) (g_yes rfl rfl rfl g73) hS ?_
                      refine any_run 16 (fun w' hS' => (r_pickT rfl g73)) rfl (by kernel_rfl) (by kernel_rfl) (by kernel_rfl) rfl hS ?_
                      refine any_ast 17 rfl (by kernel_rfl) (by kernel_rfl) (by kernel_rfl) rfl hS ?_
                      refine any_done (by kernel_rfl) ?_
                      refine W_ret ?_
                      refine ret1 (.bool (decide (rootT T = rootT T))) rfl ?_ ?_; rfl
                      exact ⟨by rw [decide_eq_true rfl], fin _ hS⟩
                    · refine any_skip 12 rfl (by kernel_rfl) (by kernel_rfl) (by kernel_rfl) (g_no rfl rfl rfl g73) hS ?_
                      refine any_skip 14 rfl (by kernel_rfl) (by kernel_rfl) (by kernel_rfl) (g_no rfl rfl rfl g73) hS ?_
                      refine any_one 13 (by kernel_rfl) (one_of rfl ?_)
                      refine op_skip (g_no rfl rfl rfl g73) ?_
                      refine ops_nil ⟨hS, fun hS => ?_⟩
                      refine any_skip 15 rfl (by kernel_rfl) (by kernel_rfl) (by kernel_rfl) (g_no rfl rfl rfl g73) hS ?_
                      refine any_run 16 (fun w' hS' => (r_pickF rfl g73)) rfl (by kernel_rfl) (by kernel_rfl) (by kernel_rfl) rfl hS ?_
                      refine any_ast 17 rfl (by kernel_rfl) (by kernel_rfl) (by kernel_rfl) rfl hS ?_
                      refine any_done (by kernel_rfl) ?_
                      refine W_ret ?_
                      refine ret1 (.bool false) rfl ?_ ?_; rfl
                      exfalso
                      have g73 : ((putTT T key val).get (nibs key.val)).isSome = false := g73
                      rw [hT1s] at g73; cases g73
                  · refine any_skip 7 rfl (by kernel_rfl) (by kernel_rfl) (by kernel_rfl) (g_no rfl rfl rfl g69) hS ?_
                    refine any_skip 8 rfl (by kernel_rfl) (by kernel_rfl) (by kernel_rfl) (g_no rfl rfl rfl g69) hS ?_
                    refine any_one 9 (by kernel_rfl) (one_of rfl ?_)
                    refine op_skip (g_no rfl rfl rfl g69) ?_
                    refine ops_nil ⟨hS, fun hS => ?_⟩
                    refine any_run 10 (fun w' hS' => (r_pickF rfl g69)) rfl (by kernel_rfl) (by kernel_rfl) (by kernel_rfl) rfl hS ?_
                    refine any_mvt 11 rfl (by kernel_rfl) (by kernel_rfl) (by kernel_rfl) rfl hS ?_
                    refine any_skip 12 rfl (by kernel_rfl) (by kernel_rfl) (by kernel_rfl) (g_no rfl rfl rfl rfl) hS ?_
                    refine any_skip 14 rfl (by kernel_rfl) (by kernel_rfl) (by kernel_rfl) (g_no rfl rfl rfl rfl) hS ?_
                    refine any_one 13 (by kernel_rfl) (one_of rfl ?_)
                    refine op_skip (g_no rfl rfl rfl rfl) ?_
                    refine ops_nil ⟨hS, fun hS => ?_⟩
                    refine any_skip 15 rfl (by kernel_rfl) (by kernel_rfl) (by kernel_rfl) (g_no rfl rfl rfl rfl) hS ?_
                    refine any_run 16 (fun w' hS' => (r_pickF rfl rfl)) rfl (by kernel_rfl) (by kernel_rfl) (by kernel_rfl) rfl hS ?_
                    refine any_ast 17 rfl (by kernel_rfl) (by kernel_rfl) (by kernel_rfl) rfl hS ?_
                    refine any_done (by kernel_rfl) ?_
                    refine W_ret ?_
                    refine ret1 (.bool false) rfl ?_ ?_; rfl
                    exfalso
                    have g69 : decide (val = val) = false := g69
                    simp at g69
                · refine any_skip 2 rfl (by kernel_rfl) (by kernel_rfl) (by kernel_rfl) (g_no rfl rfl rfl g66) hS ?_
                  refine any_skip 3 rfl (by kernel_rfl) (by kernel_rfl) (by kernel_rfl) (g_no rfl rfl rfl g66) hS ?_
                  refine any_one 4 (by kernel_rfl) (one_of rfl ?_)
                  refine op_skip (g_no rfl rfl rfl g66) ?_
                  refine ops_nil ⟨hS, fun hS => ?_⟩
                  refine any_run 5 (fun w' hS' => (r_pickF rfl g66)) rfl (by kernel_rfl) (by kernel_rfl) (by kernel_rfl) rfl hS ?_
                  refine any_mvt 6 rfl (by kernel_rfl) (by kernel_rfl) (by kernel_rfl) rfl hS ?_
                  refine any_skip 7 rfl (by kernel_rfl) (by kernel_rfl) (by kernel_rfl) (g_no rfl rfl rfl rfl) hS ?_
                  refine any_skip 8 rfl (by kernel_rfl) (by kernel_rfl) (by kernel_rfl) (g_no rfl rfl rfl rfl) hS ?_
                  refine any_one 9 (by kernel_rfl) (one_of rfl ?_)
                  refine op_skip (g_no rfl rfl rfl rfl) ?_
                  refine ops_nil ⟨hS, fun hS => ?_⟩
                  refine any_run 10 (fun w' hS' => (r_pickF rfl rfl)) rfl (by kernel_rfl) (by kernel_rfl) (by kernel_rfl) rfl hS ?_
                  refine any_mvt 11 rfl (by kernel_rfl) (by kernel_rfl) (by kernel_rfl) rfl hS ?_
                  refine any_skip 12 rfl (by kernel_rfl) (by kernel_rfl) (by kernel_rfl) (g_no rfl rfl rfl rfl) hS ?_
                  refine any_skip 14 rfl (by kernel_rfl) (by kernel_rfl) (by kernel_rfl) (g_no rfl rfl rfl rfl) hS ?_
                  refine any_one 13 (by kernel_rfl) (one_of rfl ?_)
                  refine op_skip (g_no rfl rfl rfl rfl) ?_
                  refine ops_nil ⟨hS, fun hS => ?_⟩
                  refine any_skip 15 rfl (by kernel_rfl) (by kernel_rfl) (by kernel_rfl) (g_no rfl rfl rfl rfl) hS ?_
                  refine any_run 16 (fun w' hS' => (r_pickF rfl rfl)) rfl (by kernel_rfl) (by kernel_rfl) (by kernel_rfl) rfl hS ?_
                  refine any_ast 17 rfl (by kernel_rfl) (by kernel_rfl) (by kernel_rfl) rfl hS ?_
                  refine any_done (by kernel_rfl) ?_
                  refine W_ret ?_
                  refine ret1 (.bool false) rfl ?_ ?_; rfl
                  exfalso
                  have g66 : ((putTT T key val).get (nibs key.val)).isSome = false := g66
                  rw [hT1s] at g66; cases g66
end Go.Proofs.Ytpiidddccmohdaa.B
