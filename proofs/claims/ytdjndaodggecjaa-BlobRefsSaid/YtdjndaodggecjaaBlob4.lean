/-
  blob: Read.
-/
import Derived.Test.YtdjndaodggecjaaBlob3
namespace Go.Proofs.Ytdjndaodggecjaa.B
open Go
set_option linter.unusedVariables false
set_option maxHeartbeats 2000000
set_option maxRecDepth 100000
attribute [local irreducible] W OpsW OpsQ retP
theorem subSl_own {a : Option Addr} {sz l h m n c k : Nat} (hk : (subSl a sz l h m).ownBlock = some k) : (Value.slice a n c).ownBlock = some k := by
  unfold subSl at hk
  cases a with
  | none => split at hk <;> cases hk
  | some x =>
    have e : (x.add (l * sz)).block = x.block := by unfold Addr.add; split <;> rfl
    split at hk
    · exact hk
    · have hk : (x.add (l * sz)).block = k := Option.some.inj hk
      rw [e] at hk; exact congrArg some hk
theorem By.sec {w : World} {b : Nat} {s : Sec} {e : TypeId} (h : Blk w b (secR s) e) : By w (.slice (some ⟨b, 0, none⟩) 64 64) s.val := by
  have hl := s.2
  have := By.of_at (w := w) (b := b) (off := 0) (c := 64) (bs := s.val) (fun j u hj => by rw [Nat.zero_add]; exact h.cell hj) (by omega) (by unfold maxLen; omega)
  rwa [hl] at this
theorem sl_ClipB (w : World) (a : Option Addr) (c : Nat) (n : Nat) (hc : n ≤ c) : Ret Try.prog 33 [.slice a n c].toArray w fun r w' => r = subSl a 1 0 n n ∧ w' = w := by
  refine enter (fn := Try.f33) (n := 9) Try.func33 rfl rfl (by simp) ?_
  refine W_seq ?_
  refine W_region ?_
  refine o_asc rfl ?_
  refine ops_nil ?_
  refine W_seq ?_
  refine W_region ?_
  refine o_mvt rfl ?_
  refine o_mvt rfl ?_
  refine op_run (r_len rfl rfl rfl) rfl ?_
  refine o_mvt rfl ?_
  refine op_run (r_len rfl rfl rfl) rfl ?_
  refine op_run (r_sliceS_himx rfl rfl rfl rfl rfl (by omega) (by omega) (by omega)) rfl ?_
  refine o_ast rfl ?_
  refine ops_nil ?_
  refine W_ret ?_
  refine ret1 (subSl a 1 0 n n) rfl ?_ ?_; rfl
  exact ⟨rfl, rfl⟩
theorem take_flat {M : List Sec} {a k : Nat} {s : Sec} (h : M[a + k]? = some s) : flatS ((M.drop a).take (k + 1)) = flatS ((M.drop a).take k) ++ s.val := by
  have h1 : (M.drop a)[k]? = some s := by rw [List.getElem?_drop]; exact h
  obtain ⟨h2, h3⟩ := List.getElem?_eq_some_iff.1 h1
  rw [List.take_succ_eq_append_getElem h2, flatS_app, h3]
  simp [flatS]
theorem ofR_iff {r : Rf} {bs : List UInt8} (h : (bs.length : Int) = r.len) : ofR r.at_ bs = r ↔ tagD 3 [bs] = r.dig := by
  obtain ⟨d, a, l⟩ := r
  unfold ofR
  constructor
  · intro e; injection e
  · intro e
    have h : (bs.length : Int) = l := h
    have e : tagD 3 [bs] = d := e
    rw [e, h]
theorem bl_Read (w : World) (K : Nat → Prop) (b N n : Nat) (M : List Sec) (w' : World) (h : DV w K b N M n w') (r : Rf) (hn : n < 1000000) (ha : -2 ^ 63 ≤ r.at_) (ha2 : r.at_ < 2 ^ 63) :
    Ret Try.prog 11 [.pointer (some ⟨b, 0, none⟩), .agg (refR r).toArray].toArray w' fun u w2 => ∃ v, u = .tuple #[v, .int .i64 (if (rdB M r).isSome then 0 else 7)] ∧ By w2 v ((rdB M r).getD []) ∧ InB (fun k => w'.heap.size ≤ k) v ∧ Keep All w' w2 := by
  have hN := h.bound.1
  have hML := h.len
  refine enter (fn := Try.f11) (n := 59) Try.func11 rfl rfl (by simp) ?_
  refine W_seq ?_
  refine W_region ?_
  refine o_box rfl rfl rfl ?_; intro w1 b1 e1 hB1 hk1 hs1
  have hB1 : Blk w1 b1 (refR r) 26 := hB1
  have hD1 := h.keep hk1
  refine o_asc rfl ?_
  refine o_asc rfl ?_
  refine ops_nil ?_
  refine W_seq ?_
  refine W_cut [27] [10, 11, 12, 13, 14, 15, 16, 17, 18, 19, 20, 21, 22, 23, 24, 25, 26, 27] (fun vs w2 => vs = [.bool (decide (¬ rdOk N r))] ∧ Keep All w1 w2) ?_ ?_
  · refine W_quiet (Keep All w1) (by kernel_rfl) (by kernel_rfl) (Keep.drawn _) ?_
    refine q_run (fun _ _ => (r_fieldAddr rfl rfl rfl rfl rfl)) rfl ?_
    refine q_run (fun _ hk => r_load rfl rfl rfl (hk.cell (hB1.cell (refR_33 r)) trivial)) rfl ?_
    refine q_run (fun _ _ => (r_lss rfl rfl)) rfl ?_
    refine q_mvt rfl ?_
    refine q_split rfl rfl rfl (fun g5 => ?_) (fun g5 => ?_)
    · refine q_run (fun _ _ => (r_fieldAddr rfl rfl rfl rfl rfl)) (g_yes rfl rfl rfl g5) ?_
      refine q_run (fun _ hk => r_load rfl rfl rfl (hk.cell (hB1.cell (refR_33 r)) trivial)) (g_yes rfl rfl rfl g5) ?_
      refine q_run (fun _ _ => (r_gtr rfl rfl)) (g_yes rfl rfl rfl g5) ?_
      refine q_pkFt rfl g5 rfl ?_
      refine q_mvt rfl ?_
      refine q_split rfl rfl rfl (fun g7 => ?_) (fun g7 => ?_)
      · refine q_mvt (g_yes rfl rfl rfl g7) ?_
        refine q_run (fun _ _ => (r_fieldAddr rfl rfl rfl rfl rfl)) (g_yes rfl rfl rfl g7) ?_
        refine q_run (fun _ hk => r_load rfl rfl rfl (hk.cell (hB1.cell (refR_32 r)) trivial)) (g_yes rfl rfl rfl g7) ?_
        refine q_run (fun _ _ => (r_fieldAddr rfl rfl rfl rfl rfl)) (g_yes rfl rfl rfl g7) ?_
        refine q_run (fun _ hk => r_load rfl rfl rfl (hk.cell (hB1.cell (refR_33 r)) trivial)) (g_yes rfl rfl rfl g7) ?_
        have k5 := of_decide_eq_false g5
        have k7 := of_decide_eq_false g7
        refine q_call rfl rfl (g_yes rfl rfl rfl g7) (fun _ hk => (bl_Sectors _ r.len (by omega)).mono fun e w'' ⟨u, he, h1, h2⟩ => ⟨u, he, h1.trans (congrArg (Value.int .i64) (if_neg k5)), h2 ▸ hk⟩) ?_
        refine q_call rfl rfl (g_yes rfl rfl rfl g7) (fun _ hk => (bl_fits w _ b N n M _ (hD1.keep hk) r.at_ (sectorsN r.len.toNat) ha ha2).mono fun e w'' ⟨u, he, h1, h2⟩ => ⟨u, he, h1, h2 ▸ hk⟩) ?_
        refine q_run (fun _ _ => (r_not rfl)) (g_yes rfl rfl rfl g7) ?_
        refine q_pkFt rfl g7 rfl ?_
        refine q_nil ?_; intro w12 hk12
        exact ⟨by (repeat (first | with_reducible exact offM_refl _ _ | refine offM_updc rfl ?_ | refine offM_upd rfl ?_ | refine offM_updo rfl ?_ | refine offM_updo_none ?_ | refine offM_head rfl rfl ?_)), congrArg (fun b => [Value.bool b]) (by
          by_cases hf : fitsP N r.at_ (sectorsN r.len.toNat)
          · rw [decide_eq_true hf]; symm; exact decide_eq_false fun hh => hh ⟨⟨by omega, by omega⟩, hf⟩
          · rw [decide_eq_false hf]; symm; exact decide_eq_true fun hh => hf hh.2), hk12⟩
      · refine q_skip (g_no rfl rfl rfl g7) ?_
        refine q_skip (g_no rfl rfl rfl g7) ?_
        refine q_skip (g_no rfl rfl rfl g7) ?_
        refine q_skip (g_no rfl rfl rfl g7) ?_
        refine q_skip (g_no rfl rfl rfl g7) ?_
        refine q_skip (g_no rfl rfl rfl g7) ?_
        refine q_skip (g_no rfl rfl rfl g7) ?_
        refine q_skip (g_no rfl rfl rfl g7) ?_
        refine q_pkTc rfl g7 rfl ?_
        refine q_nil ?_; intro w14 hk14
        exact ⟨by (repeat (first | with_reducible exact offM_refl _ _ | refine offM_updc rfl ?_ | refine offM_upd rfl ?_ | refine offM_updo rfl ?_ | refine offM_updo_none ?_ | refine offM_head rfl rfl ?_)), congrArg (fun b => [Value.bool b]) (by have k7 := of_decide_eq_true g7; symm; exact decide_eq_true fun hh => by have := hh.1.2; omega), hk14⟩
    · refine q_skip (g_no rfl rfl rfl g5) ?_
      refine q_skip (g_no rfl rfl rfl g5) ?_
      refine q_skip (g_no rfl rfl rfl g5) ?_
      refine q_pkTc rfl g5 rfl ?_
      refine q_mvt rfl ?_
      refine q_skip (g_no rfl rfl rfl rfl) ?_
      refine q_skip (g_no rfl rfl rfl rfl) ?_
      refine q_skip (g_no rfl rfl rfl rfl) ?_
      refine q_skip (g_no rfl rfl rfl rfl) ?_
      refine q_skip (g_no rfl rfl rfl rfl) ?_
      refine q_skip (g_no rfl rfl rfl rfl) ?_
      refine q_skip (g_no rfl rfl rfl rfl) ?_
      refine q_skip (g_no rfl rfl rfl rfl) ?_
      refine q_pkTc rfl rfl rfl ?_
      refine q_nil ?_; intro w16 hk16
      exact ⟨by (repeat (first | with_reducible exact offM_refl _ _ | refine offM_updc rfl ?_ | refine offM_upd rfl ?_ | refine offM_updo rfl ?_ | refine offM_updo_none ?_ | refine offM_head rfl rfl ?_)), congrArg (fun b => [Value.bool b]) (by have k5 := of_decide_eq_true g5; symm; exact decide_eq_true fun hh => by have := hh.1.1; omega), hk16⟩
  · rintro J18 vs w18 ⟨rfl, hk18⟩ -
    refine W_cond_p rfl (fun h19 => ?_) (fun h19 => ?_)
    · refine W_seq ?_
      refine W_region ?_
      refine o_asc rfl ?_
      refine o_asc rfl ?_
      refine ops_nil ?_
      refine W_ret ?_
      refine ret2 (.slice none 0 0) (.int .i64 7) rfl ?_ ?_ ?_; rfl; rfl
      have hno : rdB M r = none := if_neg fun hh => h19 (by rw [← hML]; exact hh.1)
      rw [hno]
      exact ⟨_, rfl, (own_nil _ 0 1).sl, InB.nil, hk1.trans hk18⟩
    · refine W_skip ?_
      refine W_seq ?_
      refine W_region ?_
      refine o_asc rfl ?_
      refine ops_nil ?_
      refine W_seq ?_
      refine W_seq ?_
      refine W_region ?_
      refine op_run (r_fieldAddr rfl rfl rfl rfl rfl) rfl ?_
      have hok : rdOk N r := Decidable.not_not.1 h19
      obtain ⟨⟨hl0, hl1⟩, hf1, hf2, hf3⟩ := hok
      have hse := sectorsN_ge r.len.toNat
      have hsl := sectorsN_le r.len.toNat
      refine op_run (r_load rfl rfl rfl ((hk18.blk' hB1 trivial).cell (refR_33 r))) rfl ?_
      refine op_call rfl rfl rfl (bl_Sectors _ r.len (by omega)) ?_; rintro v22 w22 ⟨rfl, rfl⟩
      rw [if_neg (show ¬ r.len < 0 by omega)]
      have hB22 := hk18.blk' hB1 trivial
      have hD22 := hD1.keep hk18
      refine o_mvc rfl ?_
      refine ops_nil ?_
      refine W_block ?_
      refine W_loop [6, 31] [6, 7, 8, 9, 31, 32, 33, 34, 35, 36, 37, 38, 39, 40, 41, 42, 43, 44, 45, 46] (fun vs wk => ∃ (k : Nat) (u : Value), vs = [u, .int .i64 k] ∧ k ≤ sectorsN r.len.toNat ∧ OwnB wk 5 u (flatS ((M.drop r.at_.toNat).take k)) ∧ InB (fun z => w22.heap.size ≤ z) u ∧ Keep All w22 wk) (fun vs _ => match vs with | [_, .int _ k] => sectorsN r.len.toNat - k.toNat | _ => 0) ⟨0, .slice none 0 0, rfl, Nat.zero_le _, own_nil _ _ _, InB.nil, Keep.refl _⟩ ?_
      rintro J23 vs w23 ⟨k, u, rfl, hk, hO, hin, hkw⟩ -
      refine W_seq ?_
      refine W_region ?_
      refine op_run (r_lss rfl rfl) rfl ?_
      refine ops_nil ?_
      refine W_seq ?_
      refine W_cond_p rfl (fun h24 => ?_) (fun h24 => ?_)
      · refine W_skip ?_
        refine W_seq ?_
        refine W_block ?_
        refine W_seq ?_
        refine W_region ?_
        refine o_mvt rfl ?_
        refine o_ast rfl ?_
        refine ops_nil ?_
        refine W_seq ?_
        refine W_region ?_
        refine o_mvt rfl ?_
        refine op_run (r_fieldAddr rfl rfl rfl rfl rfl) rfl ?_
        refine op_run (r_load rfl rfl rfl ((hkw.blk' hB22 trivial).cell (refR_32 r))) rfl ?_
        refine o_mvt rfl ?_
        refine op_run ((r_add rfl rfl).val (congrArg (Value.int .i64) (show IntKind.i64.wrap (r.at_ + ((k : Nat) : Int)) = r.at_ + ((k : Nat) : Int) from wrap_i64 (by omega) (by omega)))) rfl ?_
        have hk' : k < sectorsN r.len.toNat := by omega
        refine op_call rfl rfl rfl ((hD22.keep hkw).read (r.at_ + (k : Int)) hn) ?_; rintro v26 w26 ⟨s, e, rfl, hs, hk26⟩
        have hsM : M[r.at_.toNat + k]? = some s := by
          rcases hs with ⟨_, _, h3⟩ | ⟨h3, _⟩
          · rwa [show (r.at_ + (k : Int)).toNat = r.at_.toNat + k by omega] at h3
          · exact absurd ⟨by omega, by omega⟩ h3
        refine o_mvt rfl ?_
        refine op_run (r_extract rfl rfl) rfl ?_
        refine op_run (r_extract rfl rfl) rfl ?_
        refine o_alloc rfl rfl rfl ?_; intro w27 b27 e27 hB27 hk27 hs27
        refine o_storeA (cs := secR s) rfl rfl (by first | rfl | exact dgR_one _ | exact refR_one _ | exact secR_one _ | exact all_c8 _) (by first | rfl | (rw [dgR_len]; rfl) | (rw [refR_len]; rfl) | (rw [secR_len]; rfl) | (rw [List.length_map, tagF_len]; rfl)) hB27 (by exact Nat.le_of_eq (by simp [secR_len])) rfl ?_; intro w28 hB28 hk28 hs28
        have hB28 : Blk w28 b27 (secR s) 33 := by
          have h := hB28
          rwa [splice_all (by simp [secR_len])] at h
        have hkA : Keep All w23 w28 := (hk26.trans hk27).new hk28 (by have := hk26.size; omega)
        have hlk : (flatS ((M.drop r.at_.toNat).take k)).length = 64 * k := by rw [flatS_len, List.length_take, List.length_drop, hML]; omega
        refine o_ast rfl ?_
        refine ops_nil ?_
        refine W_region ?_
        refine o_mvt rfl ?_
        refine op_run (r_sliceA rfl rfl rfl) rfl ?_
        refine o_appS (v := u) rfl rfl (By.sec hB28) rfl ti_u8 rfl rfl (hO.keep hkA (fun _ _ => trivial)) (all_c8 _) (by rw [hlk, s.2]; unfold maxLen; omega) (by rw [hlk, s.2]; omega) rfl ?_; intro v29 w29 hown29 hk29 hb29
        have hown29 : OwnB w29 5 v29 (flatS ((M.drop r.at_.toNat).take (k + 1))) := by rw [take_flat hsM]; exact OwnB.app hown29
        have hzz := (hk1.trans hk18).size
        have hkB := hkw.trans hkA
        have hzB := hkB.size
        refine o_ast rfl ?_
        refine ops_nil ?_
        refine W_region ?_
        refine op_run (r_add rfl rfl) rfl ?_
        refine o_mvt rfl ?_
        refine ops_nil ?_
        have hinc := inc64' k (by omega)
        refine ⟨by (repeat (first | with_reducible exact offM_refl _ _ | refine offM_updc rfl ?_ | refine offM_upd rfl ?_ | refine offM_updo rfl ?_ | refine offM_updo_none ?_ | refine offM_head rfl rfl ?_)), ⟨k + 1, v29, congrArg (fun z : Int => [v29, Value.int .i64 z]) hinc, by omega, hown29, fun z hz => ?_, ?_⟩, ?_⟩
        · rcases hb29 z hz with h | h
          · exact hin z h
          · omega
        · exact hkB.outA (B := fun z => w22.heap.size ≤ z) (hk29.mono fun z _ h e => h (hin z e.symm)) (fun z hz => hz)
        · show sectorsN r.len.toNat - (IntKind.i64.wrap ((k : Int) + 1)).toNat < sectorsN r.len.toNat - (k : Int).toNat
          rw [hinc]; omega
      · refine W_exit ?_
        refine W_seq ?_
        refine W_region ?_
        refine o_mvt rfl ?_
        refine op_run (r_fieldAddr rfl rfl rfl rfl rfl) rfl ?_
        have hke : k = sectorsN r.len.toNat := by omega
        subst hke
        have hlk : (flatS ((M.drop r.at_.toNat).take (sectorsN r.len.toNat))).length = 64 * sectorsN r.len.toNat := by rw [flatS_len, List.length_take, List.length_drop, hML]; omega
        have hbe : (flatS ((M.drop r.at_.toNat).take (sectorsN r.len.toNat))).take r.len.toNat = bytesAt M r.at_.toNat r.len.toNat := by
          unfold bytesAt; rw [flatS_take, List.take_take, Nat.min_eq_left (by omega)]
        obtain ⟨au, cu, rfl, hcu, hcmu⟩ := hO.form
        have hby1 := (OwnB.by_ hO).sub (l := 0) (h := r.len.toNat) (m := cu) (Nat.zero_le _) (by omega) (by omega) (Nat.le_refl _)
        rw [List.drop_zero, hbe] at hby1
        obtain ⟨ax, cx, ex, hcx, hcxm⟩ := hby1.form
        have hbl : (bytesAt M r.at_.toNat r.len.toNat).length = r.len.toNat := bytesAt_len (by omega)
        have hown : ∀ z, (Value.slice ax (bytesAt M r.at_.toNat r.len.toNat).length cx).ownBlock = some z → w22.heap.size ≤ z := fun z hz => hin z (subSl_own (by rw [ex]; exact hz))
        rw [ex] at hby1
        have hby2 := hby1.sub (l := 0) (h := (bytesAt M r.at_.toNat r.len.toNat).length) (m := (bytesAt M r.at_.toNat r.len.toNat).length) (Nat.zero_le _) (Nat.le_refl _) (Nat.le_refl _) hcx
        rw [List.drop_zero, List.take_length] at hby2
        refine op_run (r_load rfl rfl rfl ((hkw.blk' hB22 trivial).cell (refR_33 r))) rfl ?_
        refine op_run ((r_sliceS_hi rfl rfl rfl rfl (by omega) (by omega)).val ((show subSl au 1 0 r.len.toNat cu = .slice ax (bytesAt M r.at_.toNat r.len.toNat).length cx from ex))) rfl ?_
        refine op_call rfl rfl rfl (sl_ClipB w23 _ _ _ hcx) ?_; rintro v33 w33 ⟨rfl, rfl⟩
        have hB33 := hkw.blk' hB22 trivial
        refine o_ast rfl ?_
        refine ops_nil ?_
        refine W_seq ?_
        refine W_seq ?_
        refine W_quiet (Keep All w33) (by kernel_rfl) (by kernel_rfl) (Keep.drawn _) ?_
        refine q_run (fun _ _ => (r_fieldAddr rfl rfl rfl rfl rfl)) rfl ?_
        refine q_run (fun _ hk => r_load rfl rfl rfl (hk.cell (hB33.cell (refR_32 r)) trivial)) rfl ?_
        refine q_mvt rfl ?_
        refine q_call rfl rfl rfl (fun _ hk => (bl_Of _ r.at_ _ (bytesAt M r.at_.toNat r.len.toNat) (hby2.k hk) (by omega)).mono fun e w'' ⟨u, he, h1, h2⟩ => ⟨u, he, h1, hk.trans h2⟩) ?_
        refine q_run (fun _ hk => r_loadA (refR r) rfl rfl rfl (by first | rfl | (rw [dgR_len]; rfl) | (rw [refR_len]; rfl) | (rw [secR_len]; rfl) | (rw [List.length_map, tagF_len]; rfl)) ((hk.blk' hB33 trivial).all)) rfl ?_
        refine q_run (fun _ _ => (r_neqC (p := ofR r.at_ (bytesAt M r.at_.toNat r.len.toNat) = r) rfl rfl rfl rfl (by kernel_rfl) (okC_ref _) (okC_ref _) rfl (refR_inj))) rfl ?_
        refine q_nil ?_; intro w39 hk39
        have hiff := ofR_iff (r := r) (bs := bytesAt M r.at_.toNat r.len.toNat) (by omega)
        have hrd : rdB M r = if ofR r.at_ (bytesAt M r.at_.toNat r.len.toNat) = r then some (bytesAt M r.at_.toNat r.len.toNat) else none := by
          unfold rdB
          by_cases hd : tagD 3 [bytesAt M r.at_.toNat r.len.toNat] = r.dig
          · rw [if_pos (hiff.2 hd), if_pos ⟨by rw [hML]; exact ⟨⟨hl0, hl1⟩, hf1, hf2, hf3⟩, hd⟩]
          · rw [if_neg (fun h => hd (hiff.1 h)), if_neg (fun h => hd h.2)]
        have hkf := (hk1.trans hk18).trans (hkw.trans hk39)
        refine W_cond rfl (fun h40 => ?_) (fun h40 => ?_)
        · refine W_seq ?_
          refine W_region ?_
          refine o_asc rfl ?_
          refine o_asc rfl ?_
          refine ops_nil ?_
          refine W_ret ?_
          refine ret2 (.slice none 0 0) (.int .i64 7) rfl ?_ ?_ ?_; rfl; rfl
          have hr0 : rdB M r = none := by rw [hrd, if_neg (by simpa using h40)]
          rw [hr0]
          exact ⟨_, rfl, (own_nil _ 0 1).sl, InB.nil, hkf⟩
        · refine W_skip ?_
          refine W_seq ?_
          refine W_region ?_
          refine o_mvt rfl ?_
          refine o_ast rfl ?_
          refine o_asc rfl ?_
          refine ops_nil ?_
          refine W_ret ?_
          refine ret2 (subSl ax 1 0 (bytesAt M r.at_.toNat r.len.toNat).length (bytesAt M r.at_.toNat r.len.toNat).length) (.int .i64 0) rfl ?_ ?_ ?_; rfl; rfl
          have hr0 : rdB M r = some (bytesAt M r.at_.toNat r.len.toNat) := by rw [hrd, if_pos (by simpa using h40)]
          rw [hr0]
          exact ⟨_, rfl, hby2.k hk39, fun z hz => Nat.le_trans (hk1.trans hk18).size (hown z (subSl_own hz)), hkf⟩
end Go.Proofs.Ytdjndaodggecjaa.B
