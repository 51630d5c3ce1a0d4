/-
  CommitTurned: the walk.
-/
import Derived.Test.YtlpkdblhaahkaaaCom10
namespace Go.Proofs.Ytlpkdblhaahkaaa.B
open Go
set_option linter.unusedVariables false
set_option maxHeartbeats 2000000
set_option maxRecDepth 100000
attribute [local irreducible] W OpsW OpsQ retP
attribute [local irreducible] numR
/-- A byte of bytes, changed. -/
def turnB (l : List UInt8) (k : Nat) (t : UInt8) : List UInt8 := l.set k (l.getD k 0 ^^^ t)
theorem turnB_len (l : List UInt8) (k : Nat) (t : UInt8) : (turnB l k t).length = l.length := by unfold turnB; rw [List.length_set]
theorem turnB_ne {l : List UInt8} {k : Nat} {t : UInt8} (hk : k < l.length) (ht : t ≠ 0) : turnB l k t ≠ l := by
  intro h
  have h1 : (turnB l k t)[k]? = some (l.getD k 0 ^^^ t) := by unfold turnB; rw [List.getElem?_set_self hk]
  rw [h, List.getElem?_eq_getElem hk, getD_lt hk] at h1
  injection h1 with h1
  apply ht
  have h2 : l[k] ^^^ (l[k] ^^^ t) = l[k] ^^^ l[k] := by rw [← h1]
  rw [← UInt8.xor_assoc, UInt8.xor_self, UInt8.zero_xor] at h2
  exact h2
theorem walk_CommitTurned (w : World) (c : Cm) (vb ve : Value) (vks : List Value) (at_ : Int) (t : UInt8) (hc : CmIn w c vb ve vks) (hc64 : c.epoch < 2 ^ 64) :
    Ret Try.prog 6 [.agg (cmV c vb ve).toArray, .int .i64 at_, .int .u8 t.toNat].toArray w fun u w' => u = .bool true ∧ Keep All w w' := by
  obtain ⟨ab, cb, rfl, hcb, hcbm⟩ := hc.1.form
  obtain ⟨ae, ce, rfl, hce, hcem⟩ := hc.2.2.1.form
  obtain ⟨m, hm, hand⟩ := and_mask at_ 65535 (by decide)
  refine enter (fn := Try.f6) (n := 78) Try.func6 rfl rfl (by simp) ?_
  refine W_seq ?_
  refine W_region ?_
  refine o_box rfl rfl rfl ?_; intro w1 b1 e1 hB1 hk1 hs1
  have hB1 : Blk w1 b1 (cmV c (.slice ab c.bins.length cb) (.slice ae c.events.length ce)) 32 := hB1
  refine o_asc rfl ?_
  refine ops_nil ?_
  refine W_seq ?_
  refine W_seq ?_
  refine W_region ?_
  refine op_call rfl rfl rfl (speaks13 w1) ?_; rintro v2 w2 ⟨rfl, hk2⟩
  have hk02 := hk1.trans hk2
  have hB1 := hk2.blk' hB1 trivial
  refine op_run (r_not rfl) rfl ?_
  refine ops_nil ?_
  refine W_no rfl (rfl) ?_
  refine W_skip ?_
  refine W_seq ?_
  refine W_cut [19] [14, 15, 16, 17, 18, 19] (fun vs w5 => vs = [.bool (decide (greatC c ∨ t = 0))] ∧ Keep All w2 w5) ?_ ?_
  · refine W_region ?_
    refine op_run (r_loadA (cmV c (.slice ab c.bins.length cb) (.slice ae c.events.length ce)) rfl rfl rfl (by first | rfl | (rw [binV_len]; rfl) | (rw [dgR_len]; rfl) | (rw [refR_len]; rfl) | (rw [secR_len]; rfl) | (rw [List.length_map, tagF_len]; rfl) | (rw [cmV_len]; rfl)) (hB1.all)) rfl ?_
    refine op_call rfl rfl rfl (great13 w2 c _ _ vks (hc.k hk02)) ?_; rintro v7 w7 ⟨rfl, hk7⟩
    refine o_mvt rfl ?_
    refine g_split rfl rfl rfl (fun g8 => ?_) (fun g8 => ?_)
    · refine o_mvt (g_yes rfl rfl rfl g8) ?_
      refine op_run (r_eql rfl rfl) (g_yes rfl rfl rfl g8) ?_
      refine o_pkFt rfl g8 rfl ?_
      refine ops_nil ?_
      exact ⟨by (repeat (first | with_reducible exact offM_refl _ _ | refine offM_updc rfl ?_ | refine offM_upd rfl ?_ | refine offM_updo rfl ?_ | refine offM_updo_none ?_ | refine offM_head rfl rfl ?_)), congrArg (fun b => [Value.bool b]) (by
        have g := of_decide_eq_false g8; rw [decide_eq_decide]
        constructor
        · intro h; right; apply UInt8.toNat_inj.1; have h : (t.toNat : Int) = 0 := h; show t.toNat = 0; omega
        · rintro (h | h)
          · exact absurd h g
          · subst h; rfl), hk7⟩
    · refine op_skip (g_no rfl rfl rfl g8) ?_
      refine op_skip (g_no rfl rfl rfl g8) ?_
      refine o_pkTc rfl g8 rfl ?_
      refine ops_nil ?_
      exact ⟨by (repeat (first | with_reducible exact offM_refl _ _ | refine offM_updc rfl ?_ | refine offM_upd rfl ?_ | refine offM_updo rfl ?_ | refine offM_updo_none ?_ | refine offM_head rfl rfl ?_)), congrArg (fun b => [Value.bool b]) (by have g := of_decide_eq_true g8; symm; exact decide_eq_true (.inl g)), hk7⟩
  · rintro J11 vs w11 ⟨rfl, hk11⟩ -
    refine W_cond_p rfl (fun h12 => ?_) (fun h12 => ?_)
    · refine W_seq ?_
      refine W_region ?_
      refine o_asc rfl ?_
      refine ops_nil ?_
      refine W_ret ?_
      refine ret1 (.bool true) rfl ?_ ?_; rfl
      exact ⟨rfl, hk02.trans hk11⟩
    · refine W_skip ?_
      refine W_seq ?_
      refine W_region ?_
      have hcs := greatC_small (fun h => h12 (.inl h)) hc64
      have ht0 : t ≠ 0 := fun h => h12 (.inr h)
      have hk011 := hk02.trans hk11
      refine op_run (r_loadA (cmV c (.slice ab c.bins.length cb) (.slice ae c.events.length ce)) rfl rfl rfl (by first | rfl | (rw [binV_len]; rfl) | (rw [dgR_len]; rfl) | (rw [refR_len]; rfl) | (rw [secR_len]; rfl) | (rw [List.length_map, tagF_len]; rfl) | (rw [cmV_len]; rfl)) ((hk11.blk' hB1 trivial).all)) rfl ?_
      refine op_call rfl rfl rfl (cm_Enc w11 c _ _ vks (hc.k hk011) hcs) ?_; rintro v15 w15 ⟨va, rfl, hba, hk15⟩
      obtain ⟨aa, ca, rfl, hca, _⟩ := hba.form
      have hk015 := hk011.trans hk15
      have hci := codeE_iff c
      refine o_mvt rfl ?_
      refine op_run (r_extract rfl rfl) rfl ?_
      refine op_run (r_extract rfl rfl) rfl ?_
      refine o_ast rfl ?_
      refine o_ast rfl ?_
      refine ops_nil ?_
      refine W_seq ?_
      refine W_seq ?_
      refine W_region ?_
      refine o_mvt rfl ?_
      refine op_run (r_neq rfl rfl) rfl ?_
      refine ops_nil ?_
      refine W_cond_p rfl (fun h16 => ?_) (fun h16 => ?_)
      · refine W_seq ?_
        refine W_region ?_
        refine o_asc rfl ?_
        refine ops_nil ?_
        refine W_ret ?_
        refine ret1 (.bool true) rfl ?_ ?_; rfl
        exact ⟨rfl, hk015⟩
      · refine W_skip ?_
        refine W_seq ?_
        refine W_seq ?_
        refine W_region ?_
        refine o_mvt rfl ?_
        refine op_run (r_len rfl rfl rfl) rfl ?_
        refine op_run (r_eql rfl rfl) rfl ?_
        refine ops_nil ?_
        have hok := hci.1 (Decidable.not_not.1 h16)
        have ha : outE c = encC c := if_pos hok
        have hpos := encC_pos c
        have hlc := hok.2
        have hlen : (outE c).length = (encC c).length := by rw [ha]
        obtain ⟨k, hk⟩ : ∃ k, k = m % (encC c).length := ⟨_, rfl⟩
        have hkl : k < (outE c).length := by rw [hk, hlen]; exact Nat.mod_lt _ hpos
        refine W_no rfl (decide_eq_false (by rw [hlen]; omega)) ?_
        refine W_skip ?_
        refine W_seq ?_
        refine W_region ?_
        refine o_bs0 rfl rfl rfl ?_; intro w20 b20 e20 hB20 hk20 hs20
        refine o_mvt rfl ?_
        refine o_appS (v := .slice (some ⟨b20, 0, none⟩) 0 0) (m := 0) (xs := []) rfl rfl (hba.k hk20) rfl ti_u8 rfl rfl (Own.blk (n := 0) hB20 rfl (Nat.zero_le _)) (all_c8 _) (by unfold maxLen; omega) (by omega) rfl ?_; intro v21 w21 hown21 hk21 hb21
        have hown21 : OwnB w21 5 v21 (outE c) := by have h := OwnB.app (xs := []) hown21; exact h
        have hk1521 : Keep All w15 w21 := hk20.own hk21 (fun z hz _ => by obtain rfl : b20 = z := Option.some.inj hz; omega)
        have hg21 : InB (fun z => w15.heap.size ≤ z) v21 := fun z hz => by
          rcases hb21 z hz with h | h
          · have h : b20 = z := Option.some.inj h; omega
          · have := hk20.size; omega
        obtain ⟨g, c21, ex, rfl, hc21, hcm21, hBg, hclose⟩ := Own.open hown21 (by omega)
        have hgl : w15.heap.size ≤ g := hg21 g rfl
        obtain ⟨x, hx⟩ : ∃ x, x = (outE c).getD k 0 := ⟨_, rfl⟩
        have hxk : ((outE c).map c8 ++ ex)[k]? = some (c8 x) := by
          rw [List.getElem?_append_left (by rw [List.length_map]; exact hkl), List.getElem?_map, List.getElem?_eq_getElem hkl, hx, getD_lt hkl]; rfl
        refine o_ast rfl ?_
        refine ops_nil ?_
        refine W_seq ?_
        refine W_region ?_
        refine o_mvt rfl ?_
        refine o_mvt rfl ?_
        refine op_run ((r_and rfl rfl).val (congrArg (Value.int .i64) (show bitw .and .i64 at_ 65535 = ((m : Nat) : Int) from hand))) rfl ?_
        refine o_mvt rfl ?_
        refine op_run (r_len rfl rfl rfl) rfl ?_
        refine op_run ((r_rem rfl rfl (by omega)).val (congrArg (Value.int .i64) (show ((m : Nat) : Int).tmod (((outE c).length : Nat) : Int) = ((k : Nat) : Int) from by rw [hk, hlen, Int.tmod_eq_emod_of_nonneg (by omega)]; norm_cast))) rfl ?_
        refine op_run (r_idxS1 rfl rfl rfl rfl (by omega) (by omega)) rfl ?_
        refine op_run (r_load rfl rfl rfl (v := c8 x) (hBg.cell (show _[0 + ((k : Nat) : Int).toNat]? = _ by rw [Int.toNat_natCast, Nat.zero_add]; exact hxk))) rfl ?_
        refine o_mvt rfl ?_
        refine op_run ((r_xor rfl rfl).val (congrArg (Value.int .u8) (show bitw .xor .u8 ((x.toNat : Nat) : Int) ((t.toNat : Nat) : Int) = (((x ^^^ t).toNat : Nat) : Int) from (bitw_xor rfl _ _ x.toNat_lt t.toNat_lt).trans (by rw [UInt8.toNat_xor])))) rfl ?_
        refine op_run (r_idxS1 rfl rfl rfl rfl (by omega) (by omega)) rfl ?_
        refine o_store (v := c8 (x ^^^ t)) rfl rfl rfl rfl hBg (by rw [Int.toNat_natCast, List.length_append, List.length_map]; omega) rfl ?_; intro w26 hB26 hk26 hs26
        obtain ⟨X, hX⟩ : ∃ X, X = turnB (outE c) k t := ⟨_, rfl⟩
        have hXl : X.length = (outE c).length := by rw [hX, turnB_len]
        have hXne : X ≠ encC c := by rw [hX, ← ha]; exact turnB_ne hkl ht0
        have hO26 : OwnB w26 5 (.slice (some ⟨g, 0, none⟩) (outE c).length c21) X := by
          have h : Own w26 5 1 (.slice (some ⟨g, 0, none⟩) (outE c).length c21) (outE c).length (X.map c8) := hclose w26 (X.map c8) (by
            have h := hB26
            rw [Int.toNat_natCast, Nat.zero_add, List.set_append_left _ _ (by rw [List.length_map]; exact hkl)] at h
            rw [hX]; unfold turnB; rw [List.map_set, ← hx]; exact h) (by rw [List.length_map, List.length_map, hXl])
          show Own w26 5 1 _ X.length _
          rw [hXl]; exact h
        have hk1526 : Keep All w15 w26 := hk1521.new hk26 hgl
        have hbX : By w26 (.slice (some ⟨g, 0, none⟩) (outE c).length c21) X := OwnB.by_ hO26
        refine ops_nil ?_
        refine W_seq ?_
        refine W_region ?_
        refine o_mvt rfl ?_
        refine op_call rfl rfl rfl (cm_Decode w26 _ X hbX (by omega)) ?_; rintro v27 w27 ⟨vq, vr, vs', rfl, hC27, hk27⟩
        obtain ⟨D, hD⟩ : ∃ D, D = (decC X).getD Cm.zero := ⟨_, rfl⟩
        rw [← hD] at hC27 ⊢
        obtain ⟨aq, cq, rfl, _, _⟩ := hC27.1.form
        obtain ⟨ar, cr, rfl, _, _⟩ := hC27.2.2.1.form
        refine o_mvt rfl ?_
        refine op_run (r_extract rfl rfl) rfl ?_
        refine op_run (r_extract rfl rfl) rfl ?_
        refine o_alloc rfl rfl rfl ?_; intro w28 b28 e28 hB28 hk28 hs28
        refine o_storeA (cs := cmV D (.slice aq D.bins.length cq) (.slice ar D.events.length cr)) rfl rfl (by first | rfl | exact binV_one _ | exact dgR_one _ | exact refR_one _ | exact secR_one _ | exact all_c8 _ | exact cmV_one _ rfl rfl) (by first | rfl | (rw [binV_len]; rfl) | (rw [dgR_len]; rfl) | (rw [refR_len]; rfl) | (rw [secR_len]; rfl) | (rw [List.length_map, tagF_len]; rfl) | (rw [cmV_len]; rfl)) hB28 (by simp [cmV_len]) rfl ?_; intro w29 hB29 hk29 hs29
        rw [splice_all (by simp [cmV_len])] at hB29
        have hk2729 : Keep All w27 w29 := hk28.new hk29 (by omega)
        have hk1529 := hk1526.trans (hk27.trans hk2729)
        have hB1e := ((hk11.trans hk15).trans hk1529).blk' hB1 trivial
        have hne : (decC X).isSome = true → D ≠ c := fun hs e => by
          obtain ⟨D', hD'⟩ := Option.isSome_iff_exists.1 hs
          obtain rfl : D = D' := by rw [hD, hD']; rfl
          exact hXne (by rw [← (decC_iff.1 hD').2.1, e])
        obtain ⟨Z, hZ⟩ : ∃ Z : Int, Z = if (decC X).isSome then 0 else 3 := ⟨_, rfl⟩
        have hZ2 : (Z = 0 ∧ (decC X).isSome = true) ∨ Z = 3 := by rw [hZ]; split <;> simp_all
        rw [← hZ]
        refine o_ast rfl ?_
        refine ops_nil ?_
        refine W_seq ?_
        refine W_cut [63] [49, 50, 51, 52, 53, 54, 55, 56, 57, 58, 59, 60, 61, 62, 63] (fun vs w30 => vs = [.bool false] ∧ Keep All w29 w30) ?_ ?_
        · refine W_region ?_
          refine o_mvt rfl ?_
          refine op_run (r_eql rfl rfl) rfl ?_
          refine o_mvt rfl ?_
          refine g_split rfl rfl rfl (fun g31 => ?_) (fun g31 => ?_)
          · refine op_run (r_loadA (cmV D (.slice aq D.bins.length cq) (.slice ar D.events.length cr)) rfl rfl rfl (by first | rfl | (rw [binV_len]; rfl) | (rw [dgR_len]; rfl) | (rw [refR_len]; rfl) | (rw [secR_len]; rfl) | (rw [List.length_map, tagF_len]; rfl) | (rw [cmV_len]; rfl)) (hB29.all)) (g_yes rfl rfl rfl g31) ?_
            refine op_run (r_loadA (cmV c (.slice ab c.bins.length cb) (.slice ae c.events.length ce)) rfl rfl rfl (by first | rfl | (rw [binV_len]; rfl) | (rw [dgR_len]; rfl) | (rw [refR_len]; rfl) | (rw [secR_len]; rfl) | (rw [List.length_map, tagF_len]; rfl) | (rw [cmV_len]; rfl)) (hB1e.all)) (g_yes rfl rfl rfl g31) ?_
            refine op_call rfl rfl (g_yes rfl rfl rfl g31) (rf13_Same w29 D c _ _ _ _ vs' vks (hC27.k hk2729) (hc.k (hk015.trans hk1529))) ?_; rintro v34 w34 ⟨rfl, hk34⟩
            refine o_pkTt rfl g31 rfl ?_
            refine o_mvt rfl ?_
            refine g_split rfl rfl rfl (fun g35 => ?_) (fun g35 => ?_)
            · refine o_mvt (g_yes rfl rfl rfl g35) ?_
              refine op_run (r_neq rfl rfl) (g_yes rfl rfl rfl g35) ?_
              refine o_mvt (g_yes rfl rfl rfl g35) ?_
              refine g_split rfl rfl rfl (fun g36 => ?_) (fun g36 => ?_)
              · refine o_mvt (g_yes rfl rfl rfl g36) ?_
                refine op_run (r_neq rfl rfl) (g_yes rfl rfl rfl g36) ?_
                refine o_pkTt rfl g36 (g_yes rfl rfl rfl g35) ?_
                refine o_pkFt rfl g35 rfl ?_
                refine ops_nil ?_
                exact absurd (of_decide_eq_true g31) (of_decide_eq_true g36)
              · refine op_skip (g_no rfl rfl rfl g36) ?_
                refine op_skip (g_no rfl rfl rfl g36) ?_
                refine o_pkFc rfl g36 (g_yes rfl rfl rfl g35) ?_
                refine o_pkFt rfl g35 rfl ?_
                refine ops_nil ?_
                exact ⟨by (repeat (first | with_reducible exact offM_refl _ _ | refine offM_updc rfl ?_ | refine offM_upd rfl ?_ | refine offM_updo rfl ?_ | refine offM_updo_none ?_ | refine offM_head rfl rfl ?_)), rfl, hk34⟩
            · refine op_skip (g_no rfl rfl rfl g35) ?_
              refine op_skip (g_no rfl rfl rfl g35) ?_
              refine op_skip (g_no rfl rfl rfl g35) ?_
              refine op_skip (g_und rfl rfl rfl) ?_
              refine op_skip (g_und rfl rfl rfl) ?_
              refine op_skip (g_no rfl rfl rfl g35) ?_
              refine o_pkTc rfl g35 rfl ?_
              refine ops_nil ?_
              exact absurd (of_decide_eq_true g35) (by
                rcases hZ2 with h | h
                · exact hne h.2
                · have := of_decide_eq_true g31; omega)
          · refine op_skip (g_no rfl rfl rfl g31) ?_
            refine op_skip (g_no rfl rfl rfl g31) ?_
            refine op_skip (g_no rfl rfl rfl g31) ?_
            refine o_pkFc rfl g31 rfl ?_
            refine o_mvt rfl ?_
            refine o_mvt (g_yes rfl rfl rfl rfl) ?_
            refine op_run (r_neq rfl rfl) (g_yes rfl rfl rfl rfl) ?_
            refine o_mvt (g_yes rfl rfl rfl rfl) ?_
            refine g_split rfl rfl rfl (fun g40 => ?_) (fun g40 => ?_)
            · refine o_mvt (g_yes rfl rfl rfl g40) ?_
              refine op_run (r_neq rfl rfl) (g_yes rfl rfl rfl g40) ?_
              refine o_pkTt rfl g40 (g_yes rfl rfl rfl rfl) ?_
              refine o_pkFt rfl rfl rfl ?_
              refine ops_nil ?_
              exact ⟨by (repeat (first | with_reducible exact offM_refl _ _ | refine offM_updc rfl ?_ | refine offM_upd rfl ?_ | refine offM_updo rfl ?_ | refine offM_updo_none ?_ | refine offM_head rfl rfl ?_)), congrArg (fun b => [Value.bool b]) (decide_eq_false fun hh => hh (by
                rcases hZ2 with h | h
                · exact absurd h.1 (of_decide_eq_true g40)
                · exact h)), Keep.refl _⟩
            · refine op_skip (g_no rfl rfl rfl g40) ?_
              refine op_skip (g_no rfl rfl rfl g40) ?_
              refine o_pkFc rfl g40 (g_yes rfl rfl rfl rfl) ?_
              refine o_pkFt rfl rfl rfl ?_
              refine ops_nil ?_
              exact ⟨by (repeat (first | with_reducible exact offM_refl _ _ | refine offM_updc rfl ?_ | refine offM_upd rfl ?_ | refine offM_updo rfl ?_ | refine offM_updo_none ?_ | refine offM_head rfl rfl ?_)), rfl, Keep.refl _⟩
        · rintro J43 vs w43 ⟨rfl, hk43⟩ -
          refine W_no rfl (rfl) ?_
          refine W_skip ?_
          refine W_seq ?_
          refine W_region ?_
          refine o_mvt rfl ?_
          refine op_call rfl rfl rfl (cm_Digest w43 _ X ((hbX.k (hk27.trans hk2729)).k hk43) (by omega)) ?_; rintro v46 w46 ⟨rfl, hk46⟩
          refine o_mvt rfl ?_
          refine op_call rfl rfl rfl (cm_Digest w46 _ (outE c) (((hba.k hk1529).k hk43).k hk46) (by omega)) ?_; rintro v47 w47 ⟨rfl, hk47⟩
          refine op_run (r_neqC (p := tagD 3 [X] = tagD 3 [outE c]) rfl rfl rfl rfl (by kernel_rfl) (okC_dgR _) (okC_dgR _) rfl (dgR_inj)) rfl ?_
          refine o_mvt rfl ?_
          refine g_split rfl rfl rfl (fun g49 => ?_) (fun g49 => ?_)
          · refine o_mvt (g_yes rfl rfl rfl g49) ?_
            refine op_call rfl rfl (g_yes rfl rfl rfl g49) (rf07_Of w47 0 _ X ((((hbX.k (hk27.trans hk2729)).k hk43).k hk46).k hk47) (by omega)) ?_; rintro v50 w50 ⟨rfl, hk50⟩
            refine op_run (r_fieldA (dgR (tagD 3 [X])) rfl rfl rfl rfl rfl rfl ((by show ((refR (ofR 0 X)).drop 0).take 32 = _; unfold refR ofR; rw [List.drop_zero]; exact List.take_left' (dgR_len _)))) (g_yes rfl rfl rfl g49) ?_
            refine o_mvt (g_yes rfl rfl rfl g49) ?_
            refine op_call rfl rfl (g_yes rfl rfl rfl g49) (rf07_Of w50 0 _ (outE c) (((((hba.k hk1529).k hk43).k hk46).k hk47).k hk50) (by omega)) ?_; rintro v52 w52 ⟨rfl, hk52⟩
            refine op_run (r_fieldA (dgR (tagD 3 [outE c])) rfl rfl rfl rfl rfl rfl ((by show ((refR (ofR 0 (outE c))).drop 0).take 32 = _; unfold refR ofR; rw [List.drop_zero]; exact List.take_left' (dgR_len _)))) (g_yes rfl rfl rfl g49) ?_
            refine op_run (r_eqlC (p := tagD 3 [X] = tagD 3 [outE c]) rfl rfl rfl rfl (by kernel_rfl) (okC_dgR _) (okC_dgR _) rfl (dgR_inj)) (g_yes rfl rfl rfl g49) ?_
            refine o_pkFt rfl g49 rfl ?_
            refine o_ast rfl ?_
            refine ops_nil ?_
            refine W_ret ?_
            refine ret1 (.bool (decide (tagD 3 [X] = tagD 3 [outE c]))) rfl ?_ ?_; rfl
            exact ⟨congrArg Value.bool (decide_eq_true (by simpa using g49)), (((hk015.trans hk1529).trans hk43).trans hk46).trans (hk47.trans (hk50.trans hk52))⟩
          · refine op_skip (g_no rfl rfl rfl g49) ?_
            refine op_skip (g_no rfl rfl rfl g49) ?_
            refine op_skip (g_no rfl rfl rfl g49) ?_
            refine op_skip (g_no rfl rfl rfl g49) ?_
            refine op_skip (g_no rfl rfl rfl g49) ?_
            refine op_skip (g_no rfl rfl rfl g49) ?_
            refine op_skip (g_no rfl rfl rfl g49) ?_
            refine o_pkTc rfl g49 rfl ?_
            refine o_ast rfl ?_
            refine ops_nil ?_
            refine W_ret ?_
            refine ret1 (.bool true) rfl ?_ ?_; rfl
            exact ⟨rfl, (((hk015.trans hk1529).trans hk43).trans hk46).trans hk47⟩
end Go.Proofs.Ytlpkdblhaahkaaa.B
