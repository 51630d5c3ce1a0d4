/-
  blob: fits, Write.
-/
import Derived.Test.YtdjndaodggecjaaBlob2
namespace Go.Proofs.Ytdjndaodggecjaa.B
open Go
set_option linter.unusedVariables false
set_option maxHeartbeats 2000000
set_option maxRecDepth 100000
attribute [local irreducible] W OpsW OpsQ retP
section
variable {w : World} {K : Nat → Prop} {b N n : Nat} {M : List Sec} {w' : World}
theorem DV.le {m : Nat} (h : DV w K b N M n w') (hm : n ≤ m) : DV w K b N M m w' := by
  obtain ⟨L, T, h1, h2, h3, h4⟩ := h; exact ⟨L, T, h1, h2, by omega, h4⟩
theorem DV.bound (h : DV w K b N M n w') : N ≤ 65536 ∧ ∀ j, K j → j < w'.heap.size := by
  obtain ⟨L, T, ⟨A, h1, h5, h6, h7⟩, _⟩ := h
  obtain ⟨g, c, ex, vl, hB, hG, hT, hin, hgb, hAb, hAg, hNc, hcm, hL, hTn, hN1, hN2, hf⟩ := h1
  exact ⟨hN2, h6⟩
theorem DV.dlen (h : DV w K b N M n w') : Ret Try.prog 48 [.pointer (some ⟨b, 0, none⟩)].toArray w' fun r w2 => r = .int .i64 N ∧ w2 = w' := by
  obtain ⟨L, T, ⟨A, h1, _⟩, _⟩ := h
  exact dk_Len w' b A N L T 0 h1
end

theorem bl_fits (w : World) (K : Nat → Prop) (b N n : Nat) (M : List Sec) (w' : World) (h : DV w K b N M n w') (at_ : Int) (k : Nat) (ha : -2 ^ 63 ≤ at_) (ha2 : at_ < 2 ^ 63) :
    Ret Try.prog 32 [.pointer (some ⟨b, 0, none⟩), .int .i64 at_, .int .i64 k].toArray w' fun r w2 => r = .bool (decide (fitsP N at_ k)) ∧ w2 = w' := by
  have hN := h.bound.1
  refine enter (fn := Try.f32) (n := 23) Try.func32 rfl rfl (by simp) ?_
  refine W_seq ?_
  refine W_region ?_
  refine o_asc rfl ?_
  refine ops_nil ?_
  refine W_seq ?_
  refine W_region ?_
  refine o_mvt rfl ?_
  refine op_run (r_geq rfl rfl) rfl ?_
  refine o_mvt rfl ?_
  refine g_split rfl rfl rfl (fun g1 => ?_) (fun g1 => ?_)
  · refine o_mvt (g_yes rfl rfl rfl g1) ?_
    refine o_mvt (g_yes rfl rfl rfl g1) ?_
    refine op_call rfl rfl (g_yes rfl rfl rfl g1) (h.dlen) ?_; rintro v2 w2 ⟨rfl, rfl⟩
    refine op_run (r_lss rfl rfl) (g_yes rfl rfl rfl g1) ?_
    refine o_pkTt rfl g1 rfl ?_
    refine o_mvt rfl ?_
    refine g_split rfl rfl rfl (fun g3 => ?_) (fun g3 => ?_)
    · refine o_mvt (g_yes rfl rfl rfl g3) ?_
      refine o_mvt (g_yes rfl rfl rfl g3) ?_
      refine op_call rfl rfl (g_yes rfl rfl rfl g3) (h.dlen) ?_; rintro v4 w4 ⟨rfl, rfl⟩
      have k3 := of_decide_eq_true g3
      have k1 := of_decide_eq_true g1
      refine o_mvt (g_yes rfl rfl rfl g3) ?_
      refine op_run (r_sub rfl rfl) (g_yes rfl rfl rfl g3) ?_
      refine op_run (r_leq rfl rfl) (g_yes rfl rfl rfl g3) ?_
      refine o_pkTt rfl g3 rfl ?_
      refine o_ast rfl ?_
      refine ops_nil ?_
      refine W_ret ?_
      refine ret1 (.bool (decide ((k : Int) ≤ IntKind.i64.wrap ((N : Int) - at_)))) rfl ?_ ?_; rfl
      refine ⟨congrArg Value.bool ?_, rfl⟩
      rw [wrap_i64 (by omega) (by omega), decide_eq_decide]
      unfold fitsP; omega
    · refine op_skip (g_no rfl rfl rfl g3) ?_
      refine op_skip (g_no rfl rfl rfl g3) ?_
      refine op_skip (g_no rfl rfl rfl g3) ?_
      refine op_skip (g_no rfl rfl rfl g3) ?_
      refine op_skip (g_no rfl rfl rfl g3) ?_
      refine op_skip (g_no rfl rfl rfl g3) ?_
      refine o_pkFc rfl g3 rfl ?_
      refine o_ast rfl ?_
      refine ops_nil ?_
      refine W_ret ?_
      refine ret1 (.bool false) rfl ?_ ?_; rfl
      exact ⟨congrArg Value.bool (decide_eq_false fun hh => of_decide_eq_false g3 hh.2.1).symm, rfl⟩
  · refine op_skip (g_no rfl rfl rfl g1) ?_
    refine op_skip (g_no rfl rfl rfl g1) ?_
    refine op_skip (g_no rfl rfl rfl g1) ?_
    refine op_skip (g_no rfl rfl rfl g1) ?_
    refine o_pkFc rfl g1 rfl ?_
    refine o_mvt rfl ?_
    refine op_skip (g_no rfl rfl rfl rfl) ?_
    refine op_skip (g_no rfl rfl rfl rfl) ?_
    refine op_skip (g_no rfl rfl rfl rfl) ?_
    refine op_skip (g_no rfl rfl rfl rfl) ?_
    refine op_skip (g_no rfl rfl rfl rfl) ?_
    refine op_skip (g_no rfl rfl rfl rfl) ?_
    refine o_pkFc rfl rfl rfl ?_
    refine o_ast rfl ?_
    refine ops_nil ?_
    refine W_ret ?_
    refine ret1 (.bool false) rfl ?_ ?_; rfl
    exact ⟨congrArg Value.bool (decide_eq_false fun hh => of_decide_eq_false g1 hh.1).symm, rfl⟩
theorem copy_pad (l : List UInt8) : splice (List.replicate 64 (c8 0)) 0 ((l.map c8).take (min l.length 64)) = secR (padS l) := by
  have e : (l.map c8).take (min l.length 64) = (l.map c8).take 64 := by
    rcases Nat.le_total l.length 64 with h | h
    · rw [Nat.min_eq_left h, List.take_of_length_le (by rw [List.length_map]; exact Nat.le_refl _), List.take_of_length_le (by rw [List.length_map]; exact h)]
    · rw [Nat.min_eq_right h]
  rw [e]
  unfold splice secR padS
  simp only [List.take_zero, List.nil_append, Nat.zero_add, List.map_append, List.map_take, List.map_replicate, List.drop_replicate, List.length_take, List.length_map]
theorem drop_min (xs : List UInt8) : (xs.take xs.length).drop (min xs.length 64) = xs.drop 64 := by
  rw [List.take_length]
  rcases Nat.le_total xs.length 64 with h | h
  · rw [Nat.min_eq_left h, List.drop_length, List.drop_eq_nil_of_le h]
  · rw [Nat.min_eq_right h]
/-- Bytes that stay, whatever is written to the disk. -/
def Stays (w : World) (K : Nat → Prop) (w' : World) (v : Value) (bs : List UInt8) : Prop := ∀ w2, Keep All w w2 → Keep K w' w2 → By w2 v bs
theorem Stays.of {w w' : World} {K : Nat → Prop} {v : Value} {bs : List UInt8} (h : By w v bs) : Stays w K w' v bs := fun w2 hk _ => h.k hk
theorem Stays.to {w w' w3 : World} {K K' : Nat → Prop} {v : Value} {bs : List UInt8} (h : Stays w K w' v bs) (hk : Keep K w' w3) (hK : ∀ j, K j → K' j) : Stays w K' w3 v bs := fun w2 h1 h2 => h w2 h1 (hk.trans (h2.mono fun j _ hj => hK j hj))

theorem bl_Write (w : World) (K : Nat → Prop) (b N n : Nat) (M : List Sec) (w' : World) (h : DV w K b N M n w') (at_ : Int) (v : Value) (bs : List UInt8) (hv : Stays w K w' v bs) (hl : bs.length ≤ 65536) (hn : n ≤ 900000) (ha : -2 ^ 63 ≤ at_) (ha2 : at_ < 2 ^ 63) :
    Ret Try.prog 17 [.pointer (some ⟨b, 0, none⟩), .int .i64 at_, v].toArray w' fun r w2 =>
      r = .tuple #[.agg (refR (if fitsP N at_ (sectorsN bs.length) then ofR at_ bs else Rf.zero)).toArray, .int .i64 (if fitsP N at_ (sectorsN bs.length) then 0 else 2)] ∧
      DV w K b N (if fitsP N at_ (sectorsN bs.length) then putAt M at_.toNat (laidL bs) else M) (n + sectorsN bs.length) w2 ∧ Keep K w' w2 := by
  have hby := hv w' h.kw (Keep.refl _)
  obtain ⟨a0, c0, rfl, hc0, hcm0⟩ := hby.form
  have hN := h.bound.1
  have hse : ∀ z : Nat, (if (z : Int) < 0 then (0 : Int) else (sectorsN ((z : Int)).toNat : Int)) = (sectorsN z : Int) := fun z => by rw [if_neg (by omega), Int.toNat_natCast]
  have hsl := sectorsN_le bs.length
  refine enter (fn := Try.f17) (n := 47) Try.func17 rfl rfl (by simp) ?_
  refine W_seq ?_
  refine W_region ?_
  refine o_alloc rfl rfl rfl ?_; intro w1 b1 e1 hB1 hk1 hs1
  have hB1 : Blk w1 b1 (refR Rf.zero) 26 := by rw [refR_zero]; exact hB1
  have hD1 := h.fresh hk1 (Nat.le_of_eq e1.symm) (Keep.refl (A := (· ≠ b1)) w1) (by omega)
  have hkK1 : Keep K w' w1 := hk1.all
  have hv1 := hv.to (K' := fun j => K j ∨ j = b1) hkK1 (fun j hj => .inl hj)
  have hbw : w.heap.size ≤ b1 := by have := h.kw.size; omega
  refine o_asc rfl ?_
  refine ops_nil ?_
  refine W_seq ?_
  refine W_block ?_
  refine W_seq ?_
  refine W_region ?_
  refine o_mvt rfl ?_
  refine op_run (r_len rfl rfl rfl) rfl ?_
  refine op_run (r_gtr rfl rfl) rfl ?_
  refine o_ast rfl ?_
  refine ops_nil ?_
  refine W_no rfl ((decide_eq_false (by omega))) ?_
  refine W_seq ?_
  refine W_region ?_
  refine o_mvt rfl ?_
  refine o_mvt rfl ?_
  refine o_mvt rfl ?_
  refine op_run (r_len rfl rfl rfl) rfl ?_
  refine op_call rfl rfl rfl (bl_Sectors w1 (bs.length : Int) (by omega)) ?_; rintro v6 w6 ⟨rfl, rfl⟩
  rw [hse]
  refine op_call rfl rfl rfl (bl_fits w _ b N n M _ hD1 at_ (sectorsN bs.length) ha ha2) ?_; rintro v7 w7 ⟨rfl, rfl⟩
  refine op_run (r_not rfl) rfl ?_
  refine o_ast rfl ?_
  refine ops_nil ?_
  refine W_cond rfl (fun h8 => ?_) (fun h8 => ?_)
  · refine W_seq ?_
    refine W_region ?_
    have hf : ¬ fitsP N at_ (sectorsN bs.length) := of_decide_eq_false (by simpa using h8)
    simp only [if_neg hf]
    refine op_run (r_build ((refR Rf.zero)) (_) ([]) rfl rfl rfl rfl rfl (by rw [refR_zero]; rfl)) rfl ?_
    refine o_storeA (cs := refR Rf.zero) rfl rfl (by first | rfl | exact dgR_one _ | exact refR_one _ | exact secR_one _ | exact all_c8 _) (by first | rfl | (rw [dgR_len]; rfl) | (rw [refR_len]; rfl) | (rw [secR_len]; rfl) | (rw [List.length_map, tagF_len]; rfl)) hB1 (by exact Nat.le_refl _) rfl ?_; intro w10 hB10 hk10 hs10
    rw [splice_all (by simp [refR_len])] at hB10
    refine o_asc rfl ?_
    refine ops_nil ?_
    refine W_ret ?_
    refine retAT (refR Rf.zero) (.int .i64 2) rfl rfl rfl rfl rfl (by first | rfl | (rw [dgR_len]; rfl) | (rw [refR_len]; rfl) | (rw [secR_len]; rfl) | (rw [List.length_map, tagF_len]; rfl)) (hB10.all) ?_
    exact ⟨rfl, ((hD1.other (.inr rfl) hbw hk10).mono (fun j hj => .inl hj)).le (by omega), hkK1.new hk10 (by omega)⟩
  · refine W_skip ?_
    refine W_seq ?_
    refine W_region ?_
    refine o_mvt rfl ?_
    refine o_ast rfl ?_
    refine ops_nil ?_
    refine W_seq ?_
    refine W_seq ?_
    refine W_region ?_
    refine o_mvt rfl ?_
    refine op_run (r_len rfl rfl rfl) rfl ?_
    have hf : fitsP N at_ (sectorsN bs.length) := of_decide_eq_true (by simpa using h8)
    simp only [if_pos hf]
    obtain ⟨a, rfl⟩ := Int.eq_ofNat_of_zero_le hf.1
    have hf2 : a < N := by have := hf.2.1; omega
    have hf3 : a + sectorsN bs.length ≤ N := by have := hf.2.2; omega
    have hML := h.len
    have hll := laidL_len bs
    rw [Int.toNat_natCast]
    refine op_call rfl rfl rfl (bl_Sectors _ (bs.length : Int) (by omega)) ?_; rintro v12 w12 ⟨rfl, rfl⟩
    rw [hse]
    refine o_mvc rfl ?_
    refine ops_nil ?_
    refine W_block ?_
    refine W_loop [8, 29] [8, 9, 10, 29, 30, 31, 32, 33, 34, 35, 36, 37, 38, 39, 40, 41, 42, 43] (fun vs wk => ∃ (k : Nat) (ak : Option Addr) (ck : Nat), vs = [.slice ak (bs.drop (64 * k)).length ck, .int .i64 k] ∧ k ≤ sectorsN bs.length ∧ Stays w (fun j => K j ∨ j = b1) wk (.slice ak (bs.drop (64 * k)).length ck) (bs.drop (64 * k)) ∧ DV w (fun j => K j ∨ j = b1) b N (putAt M a ((laidL bs).take k)) (n + k) wk ∧ Blk wk b1 (refR Rf.zero) 26 ∧ Keep K w' wk) (fun vs _ => match vs with | [_, .int _ k] => sectorsN bs.length - k.toNat | _ => 0) ⟨0, a0, c0, rfl, Nat.zero_le _, hv1, by rw [List.take_zero, putAt_0]; exact hD1, hB1, hkK1⟩ ?_
    rintro J13 vs w13 ⟨k, ak, ck, rfl, hk, hvk, hD, hBr, hkK⟩ -
    refine W_seq ?_
    refine W_region ?_
    refine op_run (r_lss rfl rfl) rfl ?_
    refine ops_nil ?_
    refine W_seq ?_
    refine W_cond_p rfl (fun h14 => ?_) (fun h14 => ?_)
    · refine W_skip ?_
      refine W_seq ?_
      refine W_block ?_
      refine W_seq ?_
      refine W_region ?_
      refine o_mvt rfl ?_
      refine o_ast rfl ?_
      refine ops_nil ?_
      refine W_seq ?_
      refine W_region ?_
      have hk' : k < sectorsN bs.length := by omega
      have hby13 := hvk w13 hD.kw (Keep.refl _)
      refine o_alloc rfl rfl rfl ?_; intro w15 b15 e15 hB15 hk15 hs15
      have hby15 := hby13.k hk15
      refine ops_nil ?_
      refine W_seq ?_
      refine W_region ?_
      refine o_mvt rfl ?_
      refine op_run (r_sliceA rfl rfl rfl) rfl ?_
      refine o_mvt rfl ?_
      refine o_copy (cs := (bs.drop (64 * k)).map c8) rfl rfl (hby15) rfl rfl (hB15) (by exact Nat.le_refl _) (all_c8 _) rfl ?_; intro w16 hB16 hk16 hs16
      have hB16 : Blk w16 b15 (secR (padS (bs.drop (64 * k)))) 33 := by rw [← copy_pad]; exact hB16
      have hD16 := (hD.fresh hk15 (Nat.le_of_eq e15.symm) hk16 (by omega)).mono (K' := fun j => K j ∨ j = b1) (fun j hj => .inl hj)
      have hkK16 : Keep (fun j => K j ∨ j = b1) w13 w16 := hk15.all.new hk16 (by omega)
      refine op_run (r_sliceS_lo rfl rfl rfl rfl (by omega) (by omega)) rfl ?_
      refine o_ast rfl ?_
      refine ops_nil ?_
      refine W_region ?_
      refine o_mvt rfl ?_
      refine o_mvt rfl ?_
      refine o_mvt rfl ?_
      refine op_run ((r_add rfl rfl).val (congrArg (Value.int .i64) (show IntKind.i64.wrap ((a : Int) + ((k : Nat) : Int)) = ((a + k : Nat) : Int) from (wrap_i64 (by omega) (by omega)).trans (by omega)))) rfl ?_
      refine op_run (r_loadA (secR (padS (bs.drop (64 * k)))) rfl rfl rfl (by first | rfl | (rw [dgR_len]; rfl) | (rw [refR_len]; rfl) | (rw [secR_len]; rfl) | (rw [List.length_map, tagF_len]; rfl)) (hB16.all)) rfl ?_
      refine op_call rfl rfl rfl (hD16.write (((a + k : Nat) : Int)) (padS (bs.drop (64 * k))) (by omega)) ?_; rintro v19 w19 ⟨rfl, hD19, hk19⟩
      rw [if_pos (show (0 : Int) ≤ ((a + k : Nat) : Int) ∧ ((a + k : Nat) : Int) < N by omega), Int.toNat_natCast, putAt_set (by omega) (laidL_get hk')] at hD19
      have hkK19 := hkK16.trans hk19
      have hinc := inc64' k (by omega)
      have hvn : Stays w (fun j => K j ∨ j = b1) w19 (subSl ak 1 (((min (bs.drop (64 * k)).length 64 : Nat) : Int)).toNat (bs.drop (64 * k)).length ck) (bs.drop (64 * (k + 1))) := fun w2 h1 h2 => by
        have h3 := hvk w2 h1 (hkK19.trans h2)
        obtain ⟨_, _, e, hc, _⟩ := h3.form
        injection e with _ _ e; subst e
        have h4 := h3.sub (l := min (bs.drop (64 * k)).length 64) (h := (bs.drop (64 * k)).length) (m := ck) (Nat.min_le_left _ _) (Nat.le_refl _) hc (Nat.le_refl _)
        rw [drop_min, List.drop_drop, show 64 * k + 64 = 64 * (k + 1) by omega] at h4
        rw [Int.toNat_natCast]; exact h4
      obtain ⟨ax, cx, ex, _, _⟩ := (hvn w19 hD19.kw (Keep.refl _)).form
      refine ops_nil ?_
      refine W_region ?_
      refine op_run (r_add rfl rfl) rfl ?_
      refine o_mvt rfl ?_
      refine ops_nil ?_
      refine ⟨by (repeat (first | with_reducible exact offM_refl _ _ | refine offM_updc rfl ?_ | refine offM_upd rfl ?_ | refine offM_updo rfl ?_ | refine offM_updo_none ?_ | refine offM_head rfl rfl ?_)), ⟨k + 1, ax, cx, ?_, by omega, ex ▸ hvn, hD19.le (by omega), (hk19.blk' (hk16.blk' (hk15.blk' hBr trivial) (by have := hBr.lt; omega)) (.inr rfl)), hkK.trans (hkK19.mono fun j _ hj => .inl hj)⟩, ?_⟩
      · exact congr (congrArg (fun (z : Value) (y : Int) => [z, Value.int .i64 y]) ex) hinc
      · show sectorsN bs.length - (IntKind.i64.wrap ((k : Int) + 1)).toNat < sectorsN bs.length - (k : Int).toNat
        rw [hinc]; omega
    · refine W_exit ?_
      refine W_seq ?_
      refine W_region ?_
      refine o_mvt rfl ?_
      refine o_mvt rfl ?_
      have hke : k = sectorsN bs.length := by omega
      subst hke
      rw [List.take_of_length_le (by omega)] at hD
      have hbyw : By w13 (.slice a0 bs.length c0) bs := hv w13 hD.kw hkK
      refine op_call rfl rfl rfl (bl_Of w13 (a : Int) _ bs hbyw (by omega)) ?_; rintro v21 w21 ⟨rfl, hk21⟩
      refine o_storeA (cs := refR (ofR (a : Int) bs)) rfl rfl (by first | rfl | exact dgR_one _ | exact refR_one _ | exact secR_one _ | exact all_c8 _) (by first | rfl | (rw [dgR_len]; rfl) | (rw [refR_len]; rfl) | (rw [secR_len]; rfl) | (rw [List.length_map, tagF_len]; rfl)) (hk21.blk' hBr trivial) (by exact Nat.le_of_eq (by simp [refR_len])) rfl ?_; intro w22 hB22 hk22 hs22
      rw [splice_all (by simp [refR_len])] at hB22
      refine o_asc rfl ?_
      refine ops_nil ?_
      refine W_ret ?_
      refine retAT (refR (ofR (a : Int) bs)) (.int .i64 0) rfl rfl rfl rfl rfl (by first | rfl | (rw [dgR_len]; rfl) | (rw [refR_len]; rfl) | (rw [secR_len]; rfl) | (rw [List.length_map, tagF_len]; rfl)) (hB22.all) ?_
      exact ⟨rfl, (((hD.keep hk21).other (.inr rfl) hbw hk22).mono (fun j hj => .inl hj)), (hkK.trans hk21.all).new hk22 (by omega)⟩
end Go.Proofs.Ytdjndaodggecjaa.B
