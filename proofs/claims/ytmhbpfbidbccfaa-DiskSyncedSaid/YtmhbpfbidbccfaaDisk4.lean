/-
  A disk: land, Sync, Crash.
-/
import Derived.Test.YtmhbpfbidbccfaaDisk3
namespace Go.Proofs.Ytmhbpfbidbccfaa.B
open Go
set_option linter.unusedVariables false
set_option maxHeartbeats 2000000
set_option maxRecDepth 100000
attribute [local irreducible] W OpsW OpsQ retP
/-- The first k bytes of s, and what stood there behind them. -/
def mix (k : Nat) (s o : Sec) : Sec := ⟨s.val.take k ++ o.val.drop k, by have := s.2; have := o.2; simp; omega⟩
theorem mix_64 (s o : Sec) : mix 64 s o = s := by
  apply Subtype.ext
  have h1 := s.2; have h2 := o.2
  show s.val.take 64 ++ o.val.drop 64 = s.val
  rw [List.take_of_length_le (by omega), List.drop_eq_nil_of_le (by omega), List.append_nil]
theorem mix_0 (s o : Sec) : mix 0 s o = o := by
  apply Subtype.ext
  show s.val.take 0 ++ o.val.drop 0 = o.val
  simp
/-- What lasts when of the i-th write k i bytes landed. -/
def landL (k : Nat → Nat) (L : List Sec) (T : List (Nat × Sec)) : Nat → List Sec
  | 0 => L
  | i + 1 => match T[i]? with
    | some x => (landL k L T i).set x.1 (mix (k i) x.2 ((landL k L T i).getD x.1 Sec.zero))
    | none => landL k L T i
theorem landL_s {k : Nat → Nat} {L : List Sec} {T : List (Nat × Sec)} {i : Nat} (hi : i < T.length) : landL k L T (i + 1) = (landL k L T i).set T[i].1 (mix (k i) T[i].2 ((landL k L T i).getD T[i].1 Sec.zero)) := by
  rw [landL, List.getElem?_eq_getElem hi]
theorem landL_len (k : Nat → Nat) (L : List Sec) (T : List (Nat × Sec)) : ∀ i, (landL k L T i).length = L.length
  | 0 => rfl
  | i + 1 => by
    rw [landL]
    split
    · rw [List.length_set, landL_len k L T i]
    · exact landL_len k L T i

theorem dk_land (w : World) (b : Nat) (A : Nat → Prop) (N : Nat) (L : List Sec) (T : List (Nat × Sec)) (f : Nat) (fid : FuncId) (first captured : Array Value) (kk : Nat → Nat) (hk64 : ∀ i, kk i ≤ 64) (hfn : isFn Try.prog fid = true) (h : DkC w b A N L T f) (hA : ∀ k, A k → k < w.heap.size) (hTl : T.length < 1000000)
    (hhow : ∀ (i : Nat) (hi : i < T.length) (w' : World), Keep (fun j => ¬ A j) w w' → Ret Try.prog fid (first ++ #[.int .i64 i, .agg (wrR T[i]).toArray] ++ captured) w' fun r w'' => r = .int .i64 (kk i) ∧ Keep All w' w'') :
    Ret Try.prog 17 [.pointer (some ⟨b, 0, none⟩), .func (.func fid) first captured].toArray w fun _ w' => DkC w' b A N (landL kk L T T.length) [] f ∧ Keep (fun k => ¬ A k) w w' := by
  obtain ⟨g, c, ex, vl, hB, hG, hT, hin, hgb, hAb, hAg, hNc, hcm, hL, hTn, hN1, hN2, hf⟩ := h
  obtain ⟨z, hz, hzs⟩ := ti_wr
  obtain ⟨at_, ct, rfl, hct, hctm⟩ := hT.form
  refine enter (fn := Try.f17) (n := 35) Try.func17 rfl rfl (by simp) ?_
  refine W_seq ?_
  refine W_seq ?_
  refine W_region ?_
  refine o_mvt rfl ?_
  refine op_run (r_nilCheck rfl) rfl ?_
  refine op_run (r_fieldAddr rfl rfl rfl rfl rfl) rfl ?_
  refine op_run (r_load rfl rfl rfl (hB.cell rfl)) rfl ?_
  refine op_run (r_len rfl rfl rfl) rfl ?_
  refine o_mvc rfl ?_
  refine ops_nil ?_
  refine W_block ?_
  refine W_loop [11] [4, 5, 11, 12, 13, 14, 15, 16, 17, 18, 19, 20, 21, 22, 23, 24, 25, 26, 27, 28, 29, 30, 31] (fun vs w' => ∃ k : Nat, vs = [.int .i64 k] ∧ k ≤ T.length ∧ Blk w' b [.slice (some ⟨g, 0, none⟩) N c, .slice at_ T.length ct, .int .i64 f] 46 ∧ Blk w' g (rows secR (landL kk L T k) ++ ex) 30 ∧ Own w' 49 65 (.slice at_ T.length ct) T.length (rows wrR T) ∧ Keep (fun k => ¬ A k) w w') (fun vs _ => match vs with | [.int _ k] => T.length - k.toNat | _ => 0) ⟨0, rfl, by omega, hB, hG, hT, Keep.refl _⟩ ?_
  rintro J vs w3 ⟨k, rfl, hk, hB3, hG3, hT3, hkw3⟩ -
  refine W_seq ?_
  refine W_region ?_
  refine op_run (r_lss rfl rfl) rfl ?_
  refine ops_nil ?_
  refine W_seq ?_
  refine W_cond_p rfl (fun h3 => ?_) (fun h3 => ?_)
  · refine W_skip ?_
    refine W_seq ?_
    refine W_block ?_
    refine W_seq ?_
    refine W_region ?_
    refine o_mvt rfl ?_
    have hkT : k < T.length := by omega
    have hinc := inc64' k (by omega)
    obtain ⟨b9, off9, rfl, hc9⟩ := rows_at' wrR_len hT3.sl hkT (by omega)
    have hxN := hTn T[k] (by simp)
    refine op_run (r_idxS rfl rfl rfl hz (by omega) (by omega)) rfl ?_
    refine op_run (r_loadA (wrR T[k]) rfl rfl rfl (by rw [wrR_len]; exact hz) (by rw [Int.toNat_natCast]; exact hc9)) rfl ?_
    refine o_alloc rfl rfl rfl ?_; intro w6 b6 e6 hB6 hk6 hs6
    refine o_ast rfl ?_
    refine o_storeA (cs := wrR T[k]) rfl rfl (wrR_one _) (by rw [wrR_len]; exact hz) hB6 (by rw [wrR_len]; exact Nat.le_refl _) rfl ?_; intro w7 hB7 hk7 hs7
    rw [splice_all (by rw [wrR_len]; rfl)] at hB7
    have hsz6 := hk6.size
    have hb9 : b9 ≠ b6 := by have := hT3.lt b9 rfl; omega
    have hB7' := hk7.blk' (hk6.blk' hB3 trivial) (show b ≠ b6 by have := hB3.lt; omega)
    have hG7 := hk7.blk' (hk6.blk' hG3 trivial) (show g ≠ b6 by have := hG3.lt; omega)
    have hT7 := (hT3.keep hk6 (fun _ _ => trivial)).keep hk7 (fun j hj e => by have := hT3.lt j hj; omega)
    have hkw7 : Keep (fun k => ¬ A k) w w7 := (hkw3.trans hk6.all).new hk7 (by have := hkw3.size; omega)
    have hA6 : ¬ A b6 := fun h => by have := hA _ h; have := hkw3.size; omega
    refine ops_nil ?_
    refine W_gate 14 (fun w' => Blk w' b [.slice (some ⟨g, 0, none⟩) N c, .slice (some ⟨b9, off9, none⟩) T.length ct, .int .i64 f] 46 ∧ Blk w' b6 (wrR T[k]) 49) (by kernel_rfl) (⟨hB7', hB7⟩) (fun hS => ?_)
    refine gt_mvt 0 rfl (by kernel_rfl) (by kernel_rfl) (by kernel_rfl) (by kernel_rfl) rfl hS ?_
    refine gt_run 1 (fun w' hS' => (r_nilCheck rfl)) rfl (by kernel_rfl) (by kernel_rfl) (by kernel_rfl) (by kernel_rfl) rfl hS ?_
    refine gt_run 2 (fun w' hS' => (r_fieldAddr rfl rfl rfl rfl rfl)) rfl (by kernel_rfl) (by kernel_rfl) (by kernel_rfl) (by kernel_rfl) rfl hS ?_
    refine gt_run 3 (fun w' hS' => (r_load rfl rfl rfl (hS'.1.cell rfl))) rfl (by kernel_rfl) (by kernel_rfl) (by kernel_rfl) (by kernel_rfl) rfl hS ?_
    refine gt_run 4 (fun w' hS' => (r_fieldAddr rfl rfl rfl rfl rfl)) rfl (by kernel_rfl) (by kernel_rfl) (by kernel_rfl) (by kernel_rfl) rfl hS ?_
    refine gt_run 5 (fun w' hS' => (r_load rfl rfl rfl (hS'.2.cell rfl))) rfl (by kernel_rfl) (by kernel_rfl) (by kernel_rfl) (by kernel_rfl) rfl hS ?_
    refine gt_run 6 (fun w' hS' => (r_idxS rfl rfl rfl ti_sec (by omega) (by omega))) rfl (by kernel_rfl) (by kernel_rfl) (by kernel_rfl) (by kernel_rfl) rfl hS ?_
    refine gt_run 7 (fun w' hS' => (r_sliceA rfl rfl rfl)) rfl (by kernel_rfl) (by kernel_rfl) (by kernel_rfl) (by kernel_rfl) rfl hS ?_
    refine gt_run 8 (fun w' hS' => (r_fieldAddr rfl rfl rfl rfl rfl)) rfl (by kernel_rfl) (by kernel_rfl) (by kernel_rfl) (by kernel_rfl) rfl hS ?_
    refine gt_mvt 9 rfl (by kernel_rfl) (by kernel_rfl) (by kernel_rfl) (by kernel_rfl) rfl hS ?_
    refine gt_mvt 10 rfl (by kernel_rfl) (by kernel_rfl) (by kernel_rfl) (by kernel_rfl) rfl hS ?_
    refine gt_run 11 (fun w' hS' => (r_loadA (wrR T[k]) rfl rfl rfl (by rw [wrR_len]; exact hz) hS'.2.all)) rfl (by kernel_rfl) (by kernel_rfl) (by kernel_rfl) (by kernel_rfl) rfl hS ?_
    refine gt_one 12 (by kernel_rfl) (one_of rfl ?_)
    refine op_call rfl hfn rfl (hhow k hkT _ (hkw7.trans (Keep.drawn w7).all)) ?_; rintro v13 w13 ⟨rfl, hk13⟩
    have h64 := hk64 k
    refine ops_nil ⟨⟨hk13.blk' hS.1 trivial, hk13.blk' hS.2 trivial⟩, fun hS => ?_⟩
    refine gt_run 13 (fun w' hS' => (r_sliceA_hi rfl rfl rfl rfl (by omega) (by omega))) rfl (by kernel_rfl) (by kernel_rfl) (by kernel_rfl) (by kernel_rfl) rfl hS ?_
    have hk7d := Keep.drawn w7
    have hC13 := hS.2
    have hG13 := hk13.blk' (hk7d.blk' hG7 trivial) trivial
    have hsl13 : Sl w13 (.slice (some ⟨b6, 1, none⟩) (kk k) 64) (kk k) 1 ((secR T[k].2).take (kk k)) := by
      refine ⟨_, 64, rfl, h64, by unfold maxLen; omega, by rw [List.length_take, secR_len]; omega, (fun e => by cases e), fun x hx i u hu => ?_⟩
      injection hx with hx; subst hx
      refine ⟨rfl, hC13.cell ?_⟩
      rw [List.getElem?_take] at hu
      split at hu
      · show (wrR T[k])[1 + i]? = some u
        rw [Nat.add_comm]; exact hu
      · cases hu
    refine gt_past 14 (by kernel_rfl) (by kernel_rfl) (one_of rfl ?_)
    refine o_copy (cs := (secR T[k].2).take (kk k)) rfl rfl hsl13 rfl ti_u8 hG13 ?_ (by rw [List.all_eq_true]; exact fun x hx => List.all_eq_true.1 (secR_one T[k].2) x (List.mem_of_mem_take hx)) rfl ?_; rotate_left; intro w16 hB16 hk16 hs16
    refine ops_nil ?_
    refine gt_done (by kernel_rfl) ?_
    refine W_region ?_
    refine op_run (r_add rfl rfl) rfl ?_
    refine o_mvt rfl ?_
    refine ops_nil ?_
    have hlen : (landL kk L T k).length = N := by rw [landL_len, hL]
    have hcl : ((secR T[k].2).take (kk k)).length = kk k := by rw [List.length_take, secR_len]; omega
    rw [Int.toNat_natCast, Nat.zero_add, Nat.min_eq_left h64, List.take_of_length_le (by omega), splice_app (by rw [hcl, rows_len secR_len, hlen]; omega), rows_part secR_len (by rw [hlen]; exact hxN) (mix (kk k) T[k].2 ((landL kk L T k).getD T[k].1 Sec.zero)) _ (by omega) (by
      rw [hcl]
      have e1 : (landL kk L T k).getD T[k].1 Sec.zero = (landL kk L T k)[T[k].1]'(by rw [hlen]; exact hxN) := by simp [hlen, hxN]
      rw [e1]
      show (List.map c8 (_ ++ _)) = _
      rw [List.map_append, List.map_take, List.map_drop]; rfl), ← landL_s hkT] at hB16
    refine ⟨by (repeat (first | with_reducible exact offM_refl _ _ | refine offM_updc rfl ?_ | refine offM_upd rfl ?_ | refine offM_updo rfl ?_ | refine offM_updo_none ?_ | refine offM_head rfl rfl ?_)), ⟨k + 1, ?_, by omega, hk16.blk' hS.1 (Ne.symm hgb), hB16, ((hT7.keep hk7d (fun _ _ => trivial)).keep hk13 (fun _ _ => trivial)).keep hk16 (fun j hj => (hin j hj).2.2), ((hkw7.trans hk7d.all).trans hk13.all).trans (hk16.mono fun j _ hj e => hj (e ▸ hAg))⟩, ?_⟩
    · rw [← hinc]; rfl
    · show T.length - (IntKind.i64.wrap ((k : Int) + 1)).toNat < T.length - (k : Int).toNat
      rw [hinc]; omega
    rw [List.length_append, rows_len secR_len, landL_len, hL, Int.toNat_natCast]; omega
  · refine W_exit ?_
    refine W_region ?_
    refine o_mvt rfl ?_
    refine op_run (r_nilCheck rfl) rfl ?_
    refine op_run (r_fieldAddr rfl rfl rfl rfl rfl) rfl ?_
    refine o_store (v := (.slice none 0 0)) rfl rfl rfl rfl hB3 (by exact Nat.lt_of_sub_eq_succ rfl) rfl ?_; intro w18 hB18 hk18 hs18
    refine ops_nil ?_
    refine ret0 rfl ?_
    have e : k = T.length := by omega
    subst e
    exact ⟨⟨g, c, ex, .slice none 0 0, hB18, hk18.blk' hG3 hgb, own_nil _ _ _, InB.nil, hgb, hAb, hAg, hNc, hcm, by rw [landL_len, hL], (fun x hx => absurd hx (by simp)), hN1, hN2, hf⟩, hkw3.trans (hk18.mono fun j _ hj e => hj (e ▸ hAb))⟩
end Go.Proofs.Ytmhbpfbidbccfaa.B
