/-
  Bins on the disk: Write.
-/
import Derived.Test.YtigehkfdfecfoaaBn2
namespace Go.Proofs.Ytigehkfdfecfoaa.B
open Go
set_option linter.unusedVariables false
set_option maxHeartbeats 2000000
set_option maxRecDepth 100000
attribute [local irreducible] W OpsW OpsQ retP
theorem fill_bin {pl : List (Nat × Nat)} {zl : List Value} {a b c : Int} {d : Dig} (hp : pl = [(0, 1), (1, 1), (2, 1), (3, 32)]) (hz : zl.length = 35) :
    fillV (fun i => pl[i]?) zl [(0, .int .i64 a), (1, .int .i64 b), (2, .int .i64 c), (3, .agg (dgR d).toArray)] = some (binV ⟨a, b, c, d⟩) := by
  subst hp
  obtain ⟨p, q, r, A, rfl⟩ : ∃ p q r A, zl = p :: q :: r :: A := by
    match zl, hz with
    | p :: q :: r :: A, _ => exact ⟨p, q, r, A, rfl⟩
  have hA : A.length = 32 := by simpa using hz
  have hd := dgR_len d
  have s0 : ∀ z : Int, (Value.int .i64 z).cells.size = 1 := fun _ => rfl
  have h0 : ∀ z : Int, (Value.int .i64 z).cells.toList = [.int .i64 z] := fun _ => rfl
  have s1 : (Value.agg (dgR d).toArray).cells.size = 32 := by show (dgR d).toArray.size = 32; simp [hd]
  have h1 : (Value.agg (dgR d).toArray).cells.toList = dgR d := rfl
  have e0 : splice (p :: q :: r :: A) 0 [.int .i64 a] = .int .i64 a :: q :: r :: A := rfl
  have e1 : splice (.int .i64 a :: q :: r :: A) 1 [.int .i64 b] = .int .i64 a :: .int .i64 b :: r :: A := rfl
  have e2 : splice (.int .i64 a :: .int .i64 b :: r :: A) 2 [.int .i64 c] = .int .i64 a :: .int .i64 b :: .int .i64 c :: A := rfl
  have e3 : splice (.int .i64 a :: .int .i64 b :: .int .i64 c :: A) 3 (dgR d) = binV ⟨a, b, c, d⟩ := by
    unfold splice binV
    rw [hd, List.drop_eq_nil_of_le (by simp [hA]), List.append_nil]
    rfl
  simp only [fillV, List.getElem?_cons_zero, List.getElem?_cons_succ, h0, s0, h1, s1, e0]
  rw [if_pos ⟨trivial, by simp⟩]
  simp only [e1]
  rw [if_pos ⟨trivial, by simp⟩]
  simp only [e2]
  rw [if_pos ⟨trivial, by simp⟩]
  simp only [e3]
  rw [if_pos ⟨trivial, by simp [hA]⟩]
/-- Blocks that stay, whatever is written to the disk. -/
def StaysL (w : World) (K : Nat → Prop) (w' : World) (v : Value) (L : List Bk) : Prop := ∀ w2, Keep All w w2 → Keep K w' w2 → Sl w2 v L.length 48 (rows blkR L)
theorem StaysL.of {w w' : World} {K : Nat → Prop} {v : Value} {L : List Bk} (h : Sl w v L.length 48 (rows blkR L)) : StaysL w K w' v L := fun w2 hk _ => h.keepE hk fun _ _ => trivial
theorem StaysL.to {w w' w3 : World} {K K' : Nat → Prop} {v : Value} {L : List Bk} (h : StaysL w K w' v L) (hk : Keep K w' w3) (hK : ∀ j, K j → K' j) : StaysL w K' w3 v L := fun w2 h1 h2 => h w2 h1 (hk.trans (h2.mono fun j _ hj => hK j hj))
/-- What Write tells: its code, its bin, and what stands on the disk then. -/
def wrE (N : Nat) (number at_ : Int) (L : List Bk) : Int := if number < 0 ∨ L = [] then 1 else if fitsB N at_ L.length then 0 else 2
def wrB (N : Nat) (number at_ : Int) (L : List Bk) : Bn := if wrE N number at_ L = 0 then ⟨number, at_, L.length, rootB L⟩ else Bn.zero
def wrM (N : Nat) (M : List Sec) (number at_ : Int) (L : List Bk) : List Sec := if wrE N number at_ L = 0 then putAt M at_.toNat (L.map padB) else M
theorem bn_Write (w : World) (K : Nat → Prop) (b N n : Nat) (M : List Sec) (w' : World) (h : DV w K b N M n w') (number at_ : Int) (v : Value) (L : List Bk) (hv : StaysL w K w' v L) (hl : L.length ≤ 60) (hn : n ≤ 900000) (ha : -2 ^ 63 ≤ at_) (ha2 : at_ < 2 ^ 63) :
    Ret Try.prog 10 [.pointer (some ⟨b, 0, none⟩), .int .i64 number, .int .i64 at_, v].toArray w' fun r w2 =>
      r = .tuple #[.agg (binV (wrB N number at_ L)).toArray, .int .i64 (wrE N number at_ L)] ∧ DV w K b N (wrM N M number at_ L) (n + L.length) w2 ∧ Keep K w' w2 := by
  have hs0 := hv w' h.kw (Keep.refl _)
  obtain ⟨a0, c0, rfl, hc0, hcm0⟩ := hs0.form
  have hN := h.bound.1
  refine enter (fn := Try.f10) (n := 54) Try.func10 rfl rfl (by simp) ?_
  refine W_seq ?_
  refine W_region ?_
  refine o_alloc rfl rfl rfl ?_; intro w1 b1 e1 hB1 hk1 hs1
  have hB1 : Blk w1 b1 (binV Bn.zero) 31 := hB1
  have hD1 := h.fresh hk1 (Nat.le_of_eq e1.symm) (Keep.refl (A := (· ≠ b1)) w1) (by omega)
  have hkK1 : Keep K w' w1 := hk1.all
  have hv1 := hv.to (K' := fun j => K j ∨ j = b1) hkK1 (fun j hj => .inl hj)
  have hbw : w.heap.size ≤ b1 := by have := h.kw.size; omega
  refine o_asc rfl ?_
  refine ops_nil ?_
  refine W_seq ?_
  refine W_block ?_
  refine W_cut [13] [13, 14, 15, 16, 17, 18, 19, 20] (fun vs w2 => vs = [.bool (decide (number < 0 ∨ L = []))] ∧ w2 = w1) ?_ ?_
  · refine W_region ?_
    refine o_mvt rfl ?_
    refine op_run (r_lss rfl rfl) rfl ?_
    refine o_mvt rfl ?_
    refine g_split rfl rfl rfl (fun g3 => ?_) (fun g3 => ?_)
    · refine o_mvt (g_yes rfl rfl rfl g3) ?_
      refine op_run (r_len rfl rfl rfl) (g_yes rfl rfl rfl g3) ?_
      refine op_run (r_eql rfl rfl) (g_yes rfl rfl rfl g3) ?_
      refine o_pkFt rfl g3 rfl ?_
      refine o_ast rfl ?_
      refine ops_nil ?_
      exact ⟨by (repeat (first | with_reducible exact offM_refl _ _ | refine offM_updc rfl ?_ | refine offM_upd rfl ?_ | refine offM_updo rfl ?_ | refine offM_updo_none ?_ | refine offM_head rfl rfl ?_)), congrArg (fun b => [Value.bool b]) (by have := of_decide_eq_false g3; rw [decide_eq_decide, ← List.length_eq_zero_iff (l := L)]; omega), rfl⟩
    · refine op_skip (g_no rfl rfl rfl g3) ?_
      refine op_skip (g_no rfl rfl rfl g3) ?_
      refine op_skip (g_no rfl rfl rfl g3) ?_
      refine o_pkTc rfl g3 rfl ?_
      refine o_ast rfl ?_
      refine ops_nil ?_
      exact ⟨by (repeat (first | with_reducible exact offM_refl _ _ | refine offM_updc rfl ?_ | refine offM_upd rfl ?_ | refine offM_updo rfl ?_ | refine offM_updo_none ?_ | refine offM_head rfl rfl ?_)), congrArg (fun b => [Value.bool b]) (decide_eq_true (Or.inl (of_decide_eq_true g3))).symm, rfl⟩
  · rintro J6 vs w6 ⟨rfl, rfl⟩ -
    refine W_cond_p rfl (fun h7 => ?_) (fun h7 => ?_)
    · refine W_seq ?_
      refine W_region ?_
      have hE : wrE N number at_ L = 1 := if_pos h7
      have hE2 : wrB N number at_ L = Bn.zero := if_neg (by rw [hE]; decide)
      have hE3 : wrM N M number at_ L = M := if_neg (by rw [hE]; decide)
      refine op_run (r_build ((binV Bn.zero)) (_) ([]) rfl rfl rfl rfl rfl (rfl)) rfl ?_
      refine o_storeA (cs := binV Bn.zero) rfl rfl (by first | rfl | exact binV_one _ | exact dgR_one _ | exact refR_one _ | exact secR_one _ | exact all_c8 _ | exact blkR_one _) (by first | rfl | (rw [binV_len]; rfl) | (rw [dgR_len]; rfl) | (rw [refR_len]; rfl) | (rw [secR_len]; rfl) | (rw [List.length_map, tagF_len]; rfl) | (rw [blkR_len]; rfl)) hB1 (by simp [binV_len]) rfl ?_; intro w9 hB9 hk9 hs9
      rw [splice_all (by simp [binV_len])] at hB9
      refine o_asc rfl ?_
      refine ops_nil ?_
      refine W_ret ?_
      refine retAT ((binV Bn.zero)) (.int .i64 1) rfl rfl rfl rfl rfl (by first | rfl | (rw [binV_len]; rfl) | (rw [dgR_len]; rfl) | (rw [refR_len]; rfl) | (rw [secR_len]; rfl) | (rw [List.length_map, tagF_len]; rfl) | (rw [blkR_len]; rfl)) (hB9.all) ?_
      rw [hE, hE2, hE3]
      exact ⟨rfl, ((hD1.other (.inr rfl) hbw hk9).mono (fun j hj => .inl hj)).le (by omega), hkK1.new hk9 (by omega)⟩
    · refine W_seq ?_
      refine W_region ?_
      refine o_mvt rfl ?_
      refine o_mvt rfl ?_
      refine o_mvt rfl ?_
      refine op_run (r_len rfl rfl rfl) rfl ?_
      refine op_call rfl rfl rfl (bn_fits w _ b N n M _ hD1 at_ (L.length : Int) ha ha2) ?_; rintro v11 w11 ⟨rfl, rfl⟩
      refine op_run (r_not rfl) rfl ?_
      refine o_ast rfl ?_
      refine ops_nil ?_
      refine W_cond rfl (fun h12 => ?_) (fun h12 => ?_)
      · refine W_seq ?_
        refine W_region ?_
        have h7' : ¬ (number < 0 ∨ L = []) := h7
        have hf : ¬ fitsB N at_ L.length := of_decide_eq_false (by simpa using h12)
        have hE : wrE N number at_ L = 2 := (if_neg h7').trans (if_neg hf)
        have hE2 : wrB N number at_ L = Bn.zero := if_neg (by rw [hE]; decide)
        have hE3 : wrM N M number at_ L = M := if_neg (by rw [hE]; decide)
        refine op_run (r_build ((binV Bn.zero)) (_) ([]) rfl rfl rfl rfl rfl (rfl)) rfl ?_
        refine o_storeA (cs := binV Bn.zero) rfl rfl (by first | rfl | exact binV_one _ | exact dgR_one _ | exact refR_one _ | exact secR_one _ | exact all_c8 _ | exact blkR_one _) (by first | rfl | (rw [binV_len]; rfl) | (rw [dgR_len]; rfl) | (rw [refR_len]; rfl) | (rw [secR_len]; rfl) | (rw [List.length_map, tagF_len]; rfl) | (rw [blkR_len]; rfl)) hB1 (by simp [binV_len]) rfl ?_; intro w14 hB14 hk14 hs14
        rw [splice_all (by simp [binV_len])] at hB14
        refine o_asc rfl ?_
        refine ops_nil ?_
        refine W_ret ?_
        refine retAT ((binV Bn.zero)) (.int .i64 2) rfl rfl rfl rfl rfl (by first | rfl | (rw [binV_len]; rfl) | (rw [dgR_len]; rfl) | (rw [refR_len]; rfl) | (rw [secR_len]; rfl) | (rw [List.length_map, tagF_len]; rfl) | (rw [blkR_len]; rfl)) (hB14.all) ?_
        rw [hE, hE2, hE3]
        exact ⟨rfl, ((hD1.other (.inr rfl) hbw hk14).mono (fun j hj => .inl hj)).le (by omega), hkK1.new hk14 (by omega)⟩
      · refine W_skip ?_
        refine W_seq ?_
        refine W_seq ?_
        refine W_region ?_
        refine o_mvt rfl ?_
        refine op_run (r_len rfl rfl rfl) rfl ?_
        refine o_mvc rfl ?_
        refine ops_nil ?_
        refine W_block ?_
        have h7' : ¬ (number < 0 ∨ L = []) := h7
        have hf : fitsB N at_ L.length := of_decide_eq_true (by simpa using h12)
        have hE : wrE N number at_ L = 0 := (if_neg h7').trans (if_pos hf)
        have hE2 : wrB N number at_ L = ⟨number, at_, L.length, rootB L⟩ := if_pos hE
        have hE3 : wrM N M number at_ L = putAt M at_.toNat (L.map padB) := if_pos hE
        rw [hE, hE2, hE3]
        obtain ⟨a, rfl⟩ := Int.eq_ofNat_of_zero_le hf.1
        have hf3 : a + L.length ≤ N := by have := hf.2.2; omega
        have hML := h.len
        have hLp : (L.map padB).length = L.length := List.length_map _
        rw [Int.toNat_natCast]
        refine W_loop [32] [10, 11, 12, 32, 33, 34, 35, 36, 37, 38, 39, 40, 41, 42, 43, 44, 45, 46] (fun vs wk => ∃ (k : Nat), vs = [.int .i64 k] ∧ k ≤ L.length ∧ DV w (fun j => K j ∨ j = b1) b N (putAt M a ((L.map padB).take k)) (n + k) wk ∧ Blk wk b1 (binV Bn.zero) 31 ∧ Keep K w' wk) (fun vs _ => match vs with | [.int _ k] => L.length - k.toNat | _ => 0) ⟨0, rfl, Nat.zero_le _, by rw [List.take_zero, putAt_0]; exact hD1, hB1, hkK1⟩ ?_
        rintro J16 vs w16 ⟨k, rfl, hk, hD, hBr, hkK⟩ -
        have hS16 := hv w16 hD.kw hkK
        refine W_seq ?_
        refine W_region ?_
        refine op_run (r_lss rfl rfl) rfl ?_
        refine ops_nil ?_
        refine W_seq ?_
        refine W_cond_p rfl (fun h17 => ?_) (fun h17 => ?_)
        · refine W_skip ?_
          refine W_seq ?_
          refine W_block ?_
          refine W_seq ?_
          refine W_region ?_
          refine o_mvt rfl ?_
          have hkl : k < L.length := by omega
          obtain ⟨bp, op, rfl, hcell⟩ := rows_at' (i := k) blkR_len hS16 hkl (by decide)
          obtain ⟨x, hx⟩ : ∃ x, x = L[k] := ⟨_, rfl⟩
          rw [← hx] at hcell
          refine op_run (r_idxS rfl rfl rfl ti_bk (by omega) (by omega)) rfl ?_
          refine op_run (r_loadA (blkR x) rfl rfl rfl (by first | rfl | (rw [binV_len]; rfl) | (rw [dgR_len]; rfl) | (rw [refR_len]; rfl) | (rw [secR_len]; rfl) | (rw [List.length_map, tagF_len]; rfl) | (rw [blkR_len]; rfl)) (hcell)) rfl ?_
          refine o_alloc rfl rfl rfl ?_; intro w20 b20 e20 hB20 hk20 hs20
          refine o_ast rfl ?_
          refine o_storeA (cs := blkR x) rfl rfl (by first | rfl | exact binV_one _ | exact dgR_one _ | exact refR_one _ | exact secR_one _ | exact all_c8 _ | exact blkR_one _) (by first | rfl | (rw [binV_len]; rfl) | (rw [dgR_len]; rfl) | (rw [refR_len]; rfl) | (rw [secR_len]; rfl) | (rw [List.length_map, tagF_len]; rfl) | (rw [blkR_len]; rfl)) hB20 (by exact Nat.le_of_eq (by simp [blkR_len])) rfl ?_; intro w21 hB21 hk21 hs21
          have hB21 : Blk w21 b20 (blkR x) 40 := by
            have h := hB21
            rwa [splice_all (by simp [blkR_len])] at h
          refine ops_nil ?_
          refine W_seq ?_
          refine W_region ?_
          refine o_alloc rfl rfl rfl ?_; intro w22 b22 e22 hB22 hk22 hs22
          refine ops_nil ?_
          refine W_seq ?_
          refine W_tail 2 (by kernel_rfl) (by kernel_rfl) ?_; intro w23 hk23 hs23
          refine q_run (still1 (r_sliceA rfl rfl rfl)) rfl ?_
          refine q_run (still1 (r_sliceA rfl rfl rfl)) rfl ?_
          refine q_nil ?_
          refine o_copy (cs := x.val.map c8) rfl rfl ((By.bk (hk23.blk' (hk22.blk' hB21 trivial) trivial))) rfl rfl ((hk23.blk' hB22 trivial)) (by exact Nat.le_refl _) (all_c8 _) rfl ?_; intro w24 hB24 hk24 hs24
          have hB24 : Blk w24 b22 (secR (padB x)) 37 := by
            show Blk w24 b22 (secR (padS x.val)) 37
            rw [← copy_pad]; exact hB24
          have hz20 := hk20.size
          have hz22 := hk22.size
          have hz23 := hk23.size
          have hD21 := (hD.fresh hk20 (Nat.le_of_eq e20.symm) hk21 (by omega)).mono (K' := fun j => K j ∨ j = b1) (fun j hj => .inl hj)
          have hD24 := (hD21.fresh (hk22.trans hk23) (Nat.le_of_eq e22.symm) hk24 (by omega)).mono (K' := fun j => K j ∨ j = b1) (fun j hj => .inl hj)
          have hkK24 : Keep (fun j => K j ∨ j = b1) w16 w24 := (((hk20.all.new hk21 (by omega)).trans hk22.all).trans hk23.all).new hk24 (by omega)
          refine ops_nil ?_
          refine W_region ?_
          refine o_mvt rfl ?_
          refine o_mvt rfl ?_
          refine o_mvt rfl ?_
          refine op_run ((r_add rfl rfl).val (congrArg (Value.int .i64) (show IntKind.i64.wrap ((a : Int) + ((k : Nat) : Int)) = ((a + k : Nat) : Int) from (wrap_i64 (by omega) (by omega)).trans (by omega)))) rfl ?_
          refine op_run (r_loadA (secR (padB x)) rfl rfl rfl (by first | rfl | (rw [binV_len]; rfl) | (rw [dgR_len]; rfl) | (rw [refR_len]; rfl) | (rw [secR_len]; rfl) | (rw [List.length_map, tagF_len]; rfl) | (rw [blkR_len]; rfl)) (hB24.all)) rfl ?_
          refine op_call rfl rfl rfl (hD24.write (((a + k : Nat) : Int)) (padB x) (by omega)) ?_; rintro v26 w26 ⟨rfl, hD26, hk26⟩
          have hxk : (L.map padB)[k]? = some (padB x) := by rw [List.getElem?_map, List.getElem?_eq_getElem hkl, ← hx]; rfl
          rw [if_pos (show (0 : Int) ≤ ((a + k : Nat) : Int) ∧ ((a + k : Nat) : Int) < N by omega), Int.toNat_natCast, putAt_set (by omega) hxk] at hD26
          have hkK26 := hkK24.trans hk26
          have hinc := inc64' k (by omega)
          refine ops_nil ?_
          refine W_region ?_
          refine op_run (r_add rfl rfl) rfl ?_
          refine o_mvt rfl ?_
          refine ops_nil ?_
          refine ⟨by (repeat (first | with_reducible exact offM_refl _ _ | refine offM_updc rfl ?_ | refine offM_upd rfl ?_ | refine offM_updo rfl ?_ | refine offM_updo_none ?_ | refine offM_head rfl rfl ?_)), ⟨k + 1, congrArg (fun y : Int => [Value.int .i64 y]) hinc, by omega, hD26.le (by omega), hkK26.blk' hBr (.inr rfl), hkK.trans (hkK26.mono fun j _ hj => .inl hj)⟩, ?_⟩
          show L.length - (IntKind.i64.wrap ((k : Int) + 1)).toNat < L.length - (k : Int).toNat
          rw [hinc]; omega
        · refine W_exit ?_
          refine W_seq ?_
          refine W_region ?_
          refine o_mvt rfl ?_
          refine o_mvt rfl ?_
          refine o_mvt rfl ?_
          refine op_run (r_len rfl rfl rfl) rfl ?_
          refine o_mvt rfl ?_
          have hke : k = L.length := by omega
          subst hke
          rw [List.take_of_length_le (by omega)] at hD
          refine op_call rfl rfl rfl (bn_root w16 _ L hS16 (by omega)) ?_; rintro v28 w28 ⟨rfl, hk28⟩
          refine op_run (r_build ((binV ⟨number, a, L.length, rootB L⟩)) (_) ([(0, .int .i64 number), (1, .int .i64 a), (2, .int .i64 L.length), (3, .agg (dgR (rootB L)).toArray)]) rfl rfl rfl rfl rfl (fill_bin (by kernel_rfl) rfl)) rfl ?_
          refine o_storeA (cs := binV ⟨number, a, L.length, rootB L⟩) rfl rfl (by first | rfl | exact binV_one _ | exact dgR_one _ | exact refR_one _ | exact secR_one _ | exact all_c8 _ | exact blkR_one _) (by first | rfl | (rw [binV_len]; rfl) | (rw [dgR_len]; rfl) | (rw [refR_len]; rfl) | (rw [secR_len]; rfl) | (rw [List.length_map, tagF_len]; rfl) | (rw [blkR_len]; rfl)) (hk28.blk' hBr trivial) (by simp [binV_len]) rfl ?_; intro w30 hB30 hk30 hs30
          rw [splice_all (by simp [binV_len])] at hB30
          refine o_asc rfl ?_
          refine ops_nil ?_
          refine W_ret ?_
          refine retAT ((binV ⟨number, a, L.length, rootB L⟩)) (.int .i64 0) rfl rfl rfl rfl rfl (by first | rfl | (rw [binV_len]; rfl) | (rw [dgR_len]; rfl) | (rw [refR_len]; rfl) | (rw [secR_len]; rfl) | (rw [List.length_map, tagF_len]; rfl) | (rw [blkR_len]; rfl)) (hB30.all) ?_
          exact ⟨rfl, (((hD.keep hk28).other (.inr rfl) hbw hk30).mono (fun j hj => .inl hj)), (hkK.trans hk28.all).new hk30 (by omega)⟩
end Go.Proofs.Ytigehkfdfecfoaa.B
