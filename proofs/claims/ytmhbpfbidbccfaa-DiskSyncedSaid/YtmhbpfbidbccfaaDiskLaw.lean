/-
  The statements on disks: rows of sectors compared; the document's example.
-/
import Derived.Test.YtmhbpfbidbccfaaDisk6
namespace Go.Proofs.Ytmhbpfbidbccfaa.B
open Go
set_option linter.unusedVariables false
set_option maxHeartbeats 2000000
set_option maxRecDepth 100000
attribute [local irreducible] W OpsW OpsQ retP
theorem secR_inj {s t : Sec} : secR s = secR t ↔ s = t := by
  refine ⟨fun h => Subtype.ext ?_, fun h => by rw [h]⟩
  have hi : Function.Injective c8 := fun a b h => by
    unfold c8 at h
    injection h with h1 h2
    exact UInt8.toNat_inj.1 (by omega)
  unfold secR at h
  exact List.map_inj_right hi |>.1 h
theorem okC_sec (s : Sec) : okC Try.prog 2 30 (secR s) := okC_bytes rfl rfl rfl s.val s.2

theorem ti_secR (s : Sec) : tinfo Try.prog 30 = some (some (.agg (List.replicate 64 (c8 0)).toArray), (secR s).length, 64) := by rw [secR_len]; exact ti_sec

theorem w04_same (w : World) (va vb : Value) (La Lb : List Sec) (ha : Sl w va La.length 64 (rows secR La)) (hb : Sl w vb Lb.length 64 (rows secR Lb)) (hla : La.length ≤ 65536) :
    Ret Try.prog 11 [va, vb].toArray w fun r w' => r = .bool (decide (La = Lb)) ∧ Keep All w w' := by
  obtain ⟨aa, ca, rfl, _, _⟩ := ha.form
  obtain ⟨ab, cb, rfl, _, _⟩ := hb.form
  refine enter (fn := Try.f11) (n := 26) Try.func11 rfl rfl (by simp) ?_
  refine W_seq ?_
  refine W_region ?_
  refine o_asc rfl ?_
  refine ops_nil ?_
  refine W_seq ?_
  refine W_seq ?_
  refine W_region ?_
  refine o_mvt rfl ?_
  refine op_run (r_len rfl rfl rfl) rfl ?_
  refine o_mvt rfl ?_
  refine op_run (r_len rfl rfl rfl) rfl ?_
  refine op_run (r_neq rfl rfl) rfl ?_
  refine ops_nil ?_
  refine W_cond_p rfl (fun h1 => ?_) (fun h1 => ?_)
  · refine W_seq ?_
    refine W_region ?_
    refine o_asc rfl ?_
    refine ops_nil ?_
    refine W_ret ?_
    refine ret1 (.bool false) rfl ?_ ?_; rfl
    exact ⟨congrArg Value.bool (decide_eq_false (fun e => h1 (by rw [e]))).symm, Keep.refl _⟩
  · refine W_skip ?_
    refine W_seq ?_
    refine W_seq ?_
    refine W_region ?_
    refine o_mvt rfl ?_
    refine op_run (r_len rfl rfl rfl) rfl ?_
    refine o_mvc rfl ?_
    refine ops_nil ?_
    refine W_block ?_
    refine W_loop [13] [4, 5, 13, 14, 15, 16, 17, 18, 19, 20, 21, 22, 23, 24, 25] (fun vs w' => ∃ i : Nat, vs = [.int .i64 i] ∧ i ≤ La.length ∧ (∀ j, j < i → La[j]? = Lb[j]?) ∧ Keep All w w') (fun vs _ => match vs with | [.int _ i] => La.length - i.toNat | _ => 0) ⟨0, rfl, by omega, (fun j h => by omega), Keep.refl _⟩ ?_
    rintro J vs w4 ⟨i, rfl, hi, hj, hk4⟩ -
    refine W_seq ?_
    refine W_region ?_
    refine op_run (r_lss rfl rfl) rfl ?_
    refine ops_nil ?_
    refine W_seq ?_
    refine W_cond_p rfl (fun h4 => ?_) (fun h4 => ?_)
    · refine W_skip ?_
      refine W_seq ?_
      refine W_block ?_
      refine W_seq ?_
      refine W_region ?_
      refine o_mvt rfl ?_
      refine o_ast rfl ?_
      refine ops_nil ?_
      refine W_seq ?_
      have hia : i < La.length := by omega
      have hib : i < Lb.length := by omega
      have hinc := inc64' i (by omega)
      obtain ⟨b1, o1, rfl, hc1⟩ := rows_at' secR_len ha hia (by omega)
      obtain ⟨b2, o2, rfl, hc2⟩ := rows_at' secR_len hb hib (by omega)
      refine W_quiet (Keep All w4) (by kernel_rfl) (by kernel_rfl) (Keep.drawn _) ?_
      have hc1' : ∀ w', Keep All w4 w' → ∀ (j : Nat) (v : Value), (secR La[i])[j]? = some v → w'.cell? ((⟨b1, o1 + (i : Int).toNat * 64, none⟩ : Addr).add j) = some v := fun w' hk j v hv => by
        rw [Int.toNat_natCast]; exact (hk4.trans hk).cell (hc1 j v hv) trivial
      have hc2' : ∀ w', Keep All w4 w' → ∀ (j : Nat) (v : Value), (secR Lb[i])[j]? = some v → w'.cell? ((⟨b2, o2 + (i : Int).toNat * 64, none⟩ : Addr).add j) = some v := fun w' hk j v hv => by
        rw [Int.toNat_natCast]; exact (hk4.trans hk).cell (hc2 j v hv) trivial
      refine q_mvt rfl ?_
      refine q_mvt rfl ?_
      refine q_run (fun _ _ => r_idxS rfl rfl rfl ti_sec (by omega) (by omega)) rfl ?_
      refine q_run (fun _ hk => r_loadA (secR La[i]) rfl rfl rfl (ti_secR _) (hc1' _ hk)) rfl ?_
      refine q_mvt rfl ?_
      refine q_mvt rfl ?_
      refine q_run (fun _ _ => r_idxS rfl rfl rfl ti_sec (by omega) (by omega)) rfl ?_
      refine q_run (fun _ hk => r_loadA (secR Lb[i]) rfl rfl rfl (ti_secR _) (hc2' _ hk)) rfl ?_
      refine q_run (fun _ _ => (r_neqC (p := La[i] = Lb[i]) rfl rfl rfl rfl rfl (okC_sec _) (okC_sec _) rfl (secR_inj))) rfl ?_
      refine q_nil ?_; intro w11 hk11
      refine W_cond rfl (fun h12 => ?_) (fun h12 => ?_)
      · refine W_seq ?_
        refine W_region ?_
        refine o_asc rfl ?_
        refine ops_nil ?_
        refine W_ret ?_
        refine ret1 (.bool false) rfl ?_ ?_; rfl
        refine ⟨congrArg Value.bool (decide_eq_false (fun e => ?_)).symm, hk4.trans hk11⟩
        subst e
        simp at h12
      · refine W_skip ?_
        refine W_region ?_
        refine op_run (r_add rfl rfl) rfl ?_
        refine o_mvt rfl ?_
        refine ops_nil ?_
        have h12 : La[i] = Lb[i] := by simpa using h12
        refine ⟨by (repeat (first | with_reducible exact offM_refl _ _ | refine offM_updc rfl ?_ | refine offM_upd rfl ?_ | refine offM_updo rfl ?_ | refine offM_updo_none ?_ | refine offM_head rfl rfl ?_)), ⟨i + 1, ?_, by omega, fun j hji => ?_, hk4.trans hk11⟩, ?_⟩
        · rw [← hinc]; rfl
        · by_cases e : j = i
          · subst e; rw [List.getElem?_eq_getElem hia, List.getElem?_eq_getElem hib, h12]
          · exact hj j (by omega)
        · show La.length - (IntKind.i64.wrap ((i : Int) + 1)).toNat < La.length - (i : Int).toNat
          rw [hinc]; omega
    · refine W_exit ?_
      refine W_seq ?_
      refine W_region ?_
      refine o_asc rfl ?_
      refine ops_nil ?_
      refine W_ret ?_
      refine ret1 (.bool true) rfl ?_ ?_; rfl
      refine ⟨congrArg Value.bool (decide_eq_true ?_).symm, hk4⟩
      have e : i = La.length := by omega
      apply List.ext_getElem?
      intro j
      by_cases hji : j < i
      · exact hj j hji
      · rw [List.getElem?_eq_none (by omega), List.getElem?_eq_none (by omega)]
def sec7 : Sec := ⟨7 :: List.replicate 63 0, by simp⟩

theorem speaks04 (w : World) : Ret Try.prog 5 [].toArray w fun r w' => r = .bool true ∧ Keep All w w' := by
  refine enter (fn := Try.f5) (n := 44) Try.func5 rfl rfl (by simp) ?_
  refine W_seq ?_
  refine W_region ?_
  refine o_asc rfl ?_
  refine ops_nil ?_
  refine W_seq ?_
  refine W_region ?_
  refine op_call rfl rfl rfl (dk_New w 3) ?_; rintro v1 w1 ⟨a1, e1, rfl, h1⟩
  obtain ⟨_, b, rfl, rfl, hb, hD1, hk1⟩ := h1.resolve_left (fun h => by omega)
  obtain ⟨A1, hD1', hA1⟩ := hD1.shrink
  have hA1' : ∀ k, A1 k → k < w1.heap.size := fun k hk => (hA1 k hk).2
  have hA1w : ∀ k, A1 k → w.heap.size ≤ k := fun k hk => (hA1 k hk).1
  refine o_mvt rfl ?_
  refine op_run (r_extract rfl rfl) rfl ?_
  refine op_run (r_extract rfl rfl) rfl ?_
  refine o_ast rfl ?_
  refine o_ast rfl ?_
  refine ops_nil ?_
  refine W_seq ?_
  refine W_cut [22] [11, 12, 13, 14, 15, 16, 17, 18, 19, 20, 21, 22] (fun vs w2 => vs = [.bool false] ∧ DkC w2 b (fun k => w.heap.size ≤ k) 3 (List.replicate 3 Sec.zero) [(1, sec7)] 0 ∧ Keep All w w2) ?_ ?_
  · refine W_region ?_
    refine o_mvt rfl ?_
    refine op_run (r_neq rfl rfl) rfl ?_
    refine o_mvt rfl ?_
    refine g_split rfl rfl rfl (fun g3 => ?_) (fun g3 => ?_)
    · refine o_mvt (g_yes rfl rfl rfl g3) ?_
      refine op_run (r_isNilP rfl rfl) (g_yes rfl rfl rfl g3) ?_
      refine o_pkFt rfl g3 rfl ?_
      refine o_mvt rfl ?_
      refine g_split rfl rfl rfl (fun g4 => ?_) (fun g4 => ?_)
      · refine o_mvt (g_yes rfl rfl rfl g4) ?_
        refine op_run (r_buildA (secR sec7) (List.replicate 64 (c8 0)) ([(0, .int .u8 7)]) rfl rfl rfl rfl rfl (rfl)) (g_yes rfl rfl rfl g4) ?_
        refine op_call rfl rfl (g_yes rfl rfl rfl g4) (dk_Write w1 b A1 3 (List.replicate 3 Sec.zero) [] 0 1 sec7 hD1' hA1' (by decide)) ?_; rintro v6 w6 ⟨rfl, hD6, hk6⟩
        refine op_run (r_neq rfl rfl) (g_yes rfl rfl rfl g4) ?_
        refine o_pkFt rfl g4 rfl ?_
        refine ops_nil ?_
        exact ⟨by (repeat (first | with_reducible exact offM_refl _ _ | refine offM_updc rfl ?_ | refine offM_upd rfl ?_ | refine offM_updo rfl ?_ | refine offM_updo_none ?_ | refine offM_head rfl rfl ?_)), rfl, hD6.mono (fun k hk => hk.elim (hA1w k) (fun h => Nat.le_trans hk1.size h)), hk1.outA hk6 hA1w⟩
      · refine op_skip (g_no rfl rfl rfl g4) ?_
        refine op_skip (g_no rfl rfl rfl g4) ?_
        refine op_skip (g_no rfl rfl rfl g4) ?_
        refine op_skip (g_no rfl rfl rfl g4) ?_
        refine o_pkTc rfl g4 rfl ?_
        refine ops_nil ?_
        exact absurd g4 (by simp)
    · refine op_skip (g_no rfl rfl rfl g3) ?_
      refine op_skip (g_no rfl rfl rfl g3) ?_
      refine o_pkTc rfl g3 rfl ?_
      refine o_mvt rfl ?_
      refine op_skip (g_no rfl rfl rfl rfl) ?_
      refine op_skip (g_no rfl rfl rfl rfl) ?_
      refine op_skip (g_no rfl rfl rfl rfl) ?_
      refine op_skip (g_no rfl rfl rfl rfl) ?_
      refine o_pkTc rfl rfl rfl ?_
      refine ops_nil ?_
      exact absurd (of_decide_eq_true g3) (by simp)
  · rintro J10 vs w10 ⟨rfl, hD10, hk10⟩ -
    refine W_no rfl (rfl) ?_
    refine W_skip ?_
    refine W_seq ?_
    refine W_region ?_
    refine o_mvt rfl ?_
    refine op_call rfl rfl rfl (dk_Read w10 b _ 3 _ _ 0 1 hD10 (by decide)) ?_; rintro v13 w13 ⟨s, e, rfl, hcase, hk13⟩
    obtain ⟨_, rfl, hs⟩ := hcase.resolve_right (fun h => h.1 (by decide))
    obtain rfl : sec7 = s := by injection hs
    obtain ⟨A2, hD13, hA2⟩ := (hD10.keep hk13 (fun _ _ => trivial)).shrink
    refine o_mvt rfl ?_
    refine op_run (r_extract rfl rfl) rfl ?_
    refine op_run (r_extract rfl rfl) rfl ?_
    refine o_alloc ti_sec rfl rfl ?_; intro w14 b14 e14 hB14 hk14 hs14
    refine o_storeA (cs := secR sec7) rfl rfl (secR_one _) (by rw [secR_len]; rfl) hB14 (by rw [secR_len]; exact Nat.le_refl _) rfl ?_; intro w15 hB15 hk15 hs15
    rw [splice_all (by rw [secR_len]; rfl)] at hB15
    have hz13 := hk10.size
    have hz13' := hk13.size
    have hD15 := (hD13.keep hk14 (fun _ _ => trivial)).keep hk15 (fun k hk => by have := (hA2 k hk).2; omega)
    have hkw15 : Keep All w w15 := ((hk10.trans hk13).trans hk14).new hk15 (by omega)
    refine o_ast rfl ?_
    refine ops_nil ?_
    refine W_seq ?_
    refine W_region ?_
    refine o_mvt rfl ?_
    refine o_bs1 (v := (.int .u8 0)) rfl rfl rfl rfl rfl rfl ?_; intro w16 b16 e16 hB16 hk16 hs16
    have hD16 := hD15.keep hk16 (fun _ _ => trivial)
    have hv16 : By w16 (.slice (some ⟨b16, 0, none⟩) 1 1) [0] := hB16.sl rfl (by unfold maxLen; omega) (fun j hj => by rw [Nat.zero_add]; rfl)
    refine op_call rfl rfl rfl (dk_Crash w16 b A2 3 _ _ 0 _ [0] hD16 (fun k hk => by have := (hA2 k hk).2; omega) (by decide) hv16 (fun _ j hj => by obtain rfl : b16 = j := (by injection hj); exact fun h => by have := (hA2 _ h).2; omega)) ?_; rintro v17 w17 ⟨hD17, hk17⟩
    have eL : landL (fate (picks [0])) (List.replicate 3 Sec.zero) [(1, sec7)] 1 = List.replicate 3 Sec.zero := by
      rw [landL_s (by decide)]
      show (List.replicate 3 Sec.zero).set 1 (mix (fate (picks [0]) 0) sec7 Sec.zero) = _
      rw [show fate (picks [0]) 0 = 0 from rfl, mix_0]; rfl
    have hD17 : DkC w17 b A2 3 (List.replicate 3 Sec.zero) [] 0 := by rw [← eL]; exact hD17
    have hkw17 : Keep All w w17 := (hkw15.trans hk16).outA hk17 (fun k hk => (hA2 k hk).1)
    have hB17 := hk17.blk' (hk16.blk' hB15 trivial) (fun h => by have := (hA2 _ h).2; omega)
    refine ops_nil ?_
    refine W_seq ?_
    refine W_region ?_
    refine o_mvt rfl ?_
    refine op_call rfl rfl rfl (dk_Read w17 b _ 3 _ _ 0 1 hD17 (by decide)) ?_; rintro v18 w18 ⟨s2, e2, rfl, hcase2, hk18⟩
    obtain ⟨_, rfl, hs2⟩ := hcase2.resolve_right (fun h => h.1 (by decide))
    obtain rfl : Sec.zero = s2 := by injection hs2
    refine o_mvt rfl ?_
    refine op_run (r_extract rfl rfl) rfl ?_
    refine op_run (r_extract rfl rfl) rfl ?_
    refine o_alloc ti_sec rfl rfl ?_; intro w19 b19 e19 hB19 hk19 hs19
    refine o_storeA (cs := secR Sec.zero) rfl rfl (secR_one _) (by rw [secR_len]; rfl) hB19 (by rw [secR_len]; exact Nat.le_refl _) rfl ?_; intro w20 hB20 hk20 hs20
    rw [splice_all (by rw [secR_len]; rfl)] at hB20
    have hz19 := hkw17.size
    have hz19' := hk18.size
    have hlt15 := hB17.lt
    have hB20' := hk20.blk' (hk19.blk' (hk18.blk' hB17 trivial) trivial) (show b14 ≠ b19 by omega)
    have hkw20 : Keep All w w20 := ((hkw17.trans hk18).trans hk19).new hk20 (by omega)
    refine o_ast rfl ?_
    refine ops_nil ?_
    refine W_seq ?_
    refine W_region ?_
    refine op_run (r_loadA (secR sec7) rfl rfl rfl (by rw [secR_len]; rfl) hB20'.all) rfl ?_
    refine op_run (r_buildA (secR sec7) (List.replicate 64 (c8 0)) ([(0, .int .u8 7)]) rfl rfl rfl rfl rfl (rfl)) rfl ?_
    refine op_run (r_eqlC (p := True) rfl rfl rfl rfl rfl (okC_sec _) (okC_sec _) rfl (by simp)) rfl ?_
    refine o_mvt rfl ?_
    refine g_split rfl rfl rfl (fun g24 => ?_) (fun g24 => ?_)
    · refine op_run (r_loadA (secR Sec.zero) rfl rfl rfl (by rw [secR_len]; rfl) hB20.all) (g_yes rfl rfl rfl g24) ?_
      refine op_run (r_buildA (secR Sec.zero) (List.replicate 64 (c8 0)) ([]) rfl rfl rfl rfl rfl (rfl)) (g_yes rfl rfl rfl g24) ?_
      refine op_run (r_eqlC (p := True) rfl rfl rfl rfl rfl (okC_sec _) (okC_sec _) rfl (by simp)) (g_yes rfl rfl rfl g24) ?_
      refine o_pkTt rfl g24 rfl ?_
      refine o_ast rfl ?_
      refine ops_nil ?_
      refine W_ret ?_
      refine ret1 (.bool true) rfl ?_ ?_; rfl
      exact ⟨rfl, hkw20⟩
    · refine op_skip (g_no rfl rfl rfl g24) ?_
      refine op_skip (g_no rfl rfl rfl g24) ?_
      refine op_skip (g_no rfl rfl rfl g24) ?_
      refine o_pkFc rfl g24 rfl ?_
      refine o_ast rfl ?_
      refine ops_nil ?_
      refine W_ret ?_
      exact absurd g24 (by simp)
end Go.Proofs.Ytmhbpfbidbccfaa.B
