/-
  The document's digest: the walk.
-/
import Derived.Test.YtkmciohghhffnaaGreatRefSha1
namespace Go.Proofs.YtkmciohghhffnaaGreat.B
open Go
set_option linter.unusedVariables false
set_option maxHeartbeats 2000000
set_option maxRecDepth 100000
attribute [local irreducible] W OpsW OpsQ retP

theorem rf_Sum (w : World) (v : Value) (bs : List UInt8) (hv : By w v bs) (hl : bs.length ≤ 1000000) :
    Ret Tryz.prog 58 [v].toArray w fun r w' => r = .agg ((sumF bs).map c8).toArray ∧ Keep All w w' := by
  obtain ⟨a0, c0, rfl, hc0, hcm0⟩ := hv.form
  have hz64 := zc_lt bs.length
  have hpl := padL_len bs
  have hzs := zc_sum bs.length
  have hll := lenB_len bs.length
  refine enter (fn := Tryz.f58) (n := 293) Tryz.func58 rfl rfl (by simp) ?_
  refine W_seq ?_
  refine W_region ?_
  refine o_alloc rfl rfl rfl ?_; intro w1 b1 e1 hB1 hk1 hs1
  have hB1 : Blk w1 b1 ((dgT initV 0).map c8) 29 := by rw [dgT_0]; exact hB1
  refine ops_nil ?_
  refine W_seq ?_
  refine W_region ?_
  refine op_call rfl rfl rfl (rf_beginning w1) ?_; rintro v2 w2 ⟨bh, hbh, rfl, hH2, hk2⟩
  refine o_ast rfl ?_
  refine ops_nil ?_
  refine W_seq ?_
  refine W_region ?_
  refine op_call rfl rfl rfl (rf_rounds w2) ?_; rintro v3 w3 ⟨bk, hbk, rfl, hK3, hk3⟩
  have hH3 := hk3.blk' hH2 trivial
  have hD3 := hk3.blk' (hk2.blk' hB1 trivial) trivial
  have hhl := hH2.lt
  have hkl := hK3.lt
  have hdl := hB1.lt
  have hz1 := hk2.size
  have hz2 := hk3.size
  have hkw3 : Keep All w w3 := (hk1.trans hk2).trans hk3
  refine o_ast rfl ?_
  refine ops_nil ?_
  refine W_seq ?_
  refine W_region ?_
  refine o_bs0 rfl rfl rfl ?_; intro w4 b4 e4 hB4 hk4 hs4
  refine o_mvt rfl ?_
  refine o_appS (v := .slice (some ⟨b4, 0, none⟩) 0 0) rfl rfl (hv.keep (hkw3.trans hk4) (fun _ _ => trivial)) rfl ti_u8 rfl rfl (Own.blk hB4 rfl (by unfold maxLen; omega)) (all_c8 _) (by unfold maxLen; omega) (by omega) rfl ?_; intro v5 w5 hown5 hk5 hb5
  have hown5 : OwnB w5 5 v5 bs := by unfold OwnB; simpa using hown5
  have hin5 : InB (fun b => w3.heap.size ≤ b) v5 := fun b hb => by
    rcases hb5 b hb with h | h
    · cases h; show w3.heap.size ≤ b4; omega
    · omega
  have hk35 : Keep (· < w3.heap.size) w3 w5 := hk4.all.trans (hk5.mono fun k _ hk e => by cases e; exact absurd hk (show ¬ b4 < w3.heap.size by omega))
  refine o_bs1 (v := (c8 128)) rfl rfl rfl rfl rfl rfl ?_; intro w6 b6 e6 hB6 hk6 hs6
  refine o_app1 (u := c8 128) rfl rfl hB6 rfl rfl ti_u8 rfl (hown5.keep hk6 (fun _ _ => trivial)) (by unfold maxLen; omega) (by omega) rfl ?_; intro v7 w7 hown7 hk7 hb7
  have hown7 : OwnB w7 5 v7 (padP bs 0) := OwnB.snoc hown7
  have hin7 : InB (fun b => w3.heap.size ≤ b) v7 := fun b hb => by
    rcases hb7 b hb with h | h
    · exact hin5 b h
    · have := hk35.size; omega
  have hk37 : Keep (· < w3.heap.size) w3 w7 := (hk35.trans hk6.all).trans (hk7.mono fun k _ hk e => by have := hin5 k e.symm; omega)
  refine o_ast rfl ?_
  refine ops_nil ?_
  refine W_seq ?_
  refine W_block ?_
  refine W_loop [5] [5, 33, 34, 35, 36, 37, 38, 39] (fun vs w' => ∃ (vf : Value) (z : Nat), vs = [vf] ∧ z ≤ zc bs.length ∧ OwnB w' 5 vf (padP bs z) ∧ InB (fun b => w3.heap.size ≤ b) vf ∧ Keep (· < w3.heap.size) w3 w') (fun vs _ => match vs with | [.slice _ n _] => bs.length + 200 - n | _ => 0) ⟨v7, 0, rfl, by omega, hown7, hin7, hk37⟩ ?_
  rintro J8 vs w8 ⟨vf, z, rfl, hz, hown, hin, hk8⟩ -
  obtain ⟨af, cf, rfl, _, _⟩ := hown.form
  have hpz := padP_len bs z
  refine W_seq ?_
  refine W_seq ?_
  refine W_region ?_
  refine o_mvt rfl ?_
  refine op_run (r_len rfl rfl rfl) rfl ?_
  refine op_run ((r_rem rfl rfl (by decide)).val (congrArg (Value.int .i64) (Int.ofNat_tmod (padP bs z).length 64).symm)) rfl ?_
  refine op_run (r_neq rfl rfl) rfl ?_
  refine ops_nil ?_
  refine W_cond_p rfl (fun h9 => ?_) (fun h9 => ?_)
  · refine W_skip ?_
    refine W_block ?_
    refine W_region ?_
    refine o_mvt rfl ?_
    refine o_bs1 (v := (c8 0)) rfl rfl rfl rfl rfl rfl ?_; intro w10 b10 e10 hB10 hk10 hs10
    refine o_app1 (u := c8 0) rfl rfl hB10 rfl rfl ti_u8 rfl (hown.keep hk10 (fun _ _ => trivial)) (by unfold maxLen; omega) (by omega) rfl ?_; intro v11 w11 hown11 hk11 hb11
    refine o_ast rfl ?_
    refine ops_nil ?_
    have hown11 : OwnB w11 5 v11 (padP bs (z + 1)) := by rw [← padP_s]; exact OwnB.snoc hown11
    obtain ⟨a11, c11, rfl, _, _⟩ := hown11.form
    have hpz1 := padP_len bs (z + 1)
    have h68 := hk8.size
    refine ⟨by (repeat (first | with_reducible exact offM_refl _ _ | refine offM_updc rfl ?_ | refine offM_upd rfl ?_ | refine offM_updo rfl ?_ | refine offM_updo_none ?_ | refine offM_head rfl rfl ?_)), ⟨_, z + 1, rfl, zc_more hz (by omega), hown11, fun b hb => ?_, (hk8.trans hk10.all).trans (hk11.mono fun k _ hk e => by have := hin k e.symm; omega)⟩, ?_⟩
    · rcases hb11 b hb with h | h
      · exact hin b h
      · have := hk10.size; omega
    · show bs.length + 200 - (padP bs (z + 1)).length < bs.length + 200 - (padP bs z).length
      omega
  · refine W_exit ?_
    refine W_seq ?_
    refine W_region ?_
    refine o_mvt rfl ?_
    refine op_run (r_len rfl rfl rfl) rfl ?_
    refine op_run ((r_conv rfl rfl rfl).val (congrArg (Value.int .u64) (show IntKind.u64.wrap (bs.length : Int) = (bs.length : Int) by rw [wrap_u64]; omega))) rfl ?_
    refine op_run ((r_mul rfl rfl).val (congrArg (Value.int .u64) (show IntKind.u64.wrap ((bs.length : Int) * 8) = ((bs.length * 8 : Nat) : Int) by rw [wrap_u64]; omega))) rfl ?_
    refine o_ast rfl ?_
    refine ops_nil ?_
    refine W_seq ?_
    refine W_seq ?_
    refine W_region ?_
    refine o_asc rfl ?_
    refine ops_nil ?_
    refine W_block ?_
    obtain rfl := zc_end hz (by omega)
    refine W_loop [5, 7] [5, 7, 8, 9, 44, 45, 46, 47, 48, 49, 50, 51, 52, 53, 54, 55, 56, 57, 58, 59, 60, 61] (fun vs w' => ∃ (vf : Value) (j : Nat), vs = [vf, .int .i64 (7 - (j : Int))] ∧ j ≤ 8 ∧ OwnB w' 5 vf (padP bs (zc bs.length) ++ (lenB bs.length).take j) ∧ InB (fun b => w3.heap.size ≤ b) vf ∧ Keep (· < w3.heap.size) w3 w') (fun vs _ => match vs with | [_, .int _ s] => (s + 1).toNat | _ => 0) ⟨_, 0, rfl, by omega, by rw [List.take_zero, List.append_nil]; exact hown, hin, hk8⟩ ?_
    clear hin hown hk8
    rintro J13 vs w13 ⟨vf, j, rfl, hj, hown, hin, hk13⟩ -
    obtain ⟨af2, cf2, rfl, _, _⟩ := hown.form
    refine W_seq ?_
    refine W_seq ?_
    refine W_region ?_
    refine o_mvt rfl ?_
    refine op_run (r_geq rfl rfl) rfl ?_
    refine ops_nil ?_
    refine W_cond_p rfl (fun h14 => ?_) (fun h14 => ?_)
    · refine W_skip ?_
      refine W_seq ?_
      refine W_block ?_
      refine W_seq ?_
      refine W_region ?_
      refine o_mvt rfl ?_
      refine o_ast rfl ?_
      refine ops_nil ?_
      refine W_seq ?_
      refine W_seq ?_
      refine W_region ?_
      refine o_asc rfl ?_
      refine ops_nil ?_
      refine W_block ?_
      have hj8 : j < 8 := by omega
      refine W_loop [8, 9] [8, 9, 49, 50, 51, 52, 53, 54, 55] (fun vs w' => ∃ q : Nat, vs = [.int .u64 ((bs.length * 8 / 256 ^ q : Nat) : Int), .int .i64 q] ∧ q ≤ 7 - j ∧ w' = w13) (fun vs _ => match vs with | [_, .int _ q] => 7 - j - q.toNat | _ => 0) ⟨0, by rw [Nat.pow_zero, Nat.div_one]; rfl, by omega, rfl⟩ ?_
      rintro J15 vs w15 ⟨q, rfl, hq, rfl⟩ -
      refine W_seq ?_
      refine W_seq ?_
      refine W_region ?_
      refine o_mvt rfl ?_
      refine o_mvt rfl ?_
      refine op_run (r_lss rfl rfl) rfl ?_
      refine ops_nil ?_
      refine W_cond_p rfl (fun h16 => ?_) (fun h16 => ?_)
      · refine W_skip ?_
        refine W_seq ?_
        refine W_block ?_
        refine W_region ?_
        refine o_mvt rfl ?_
        refine op_run ((r_quo rfl rfl (by decide)).val (congrArg (Value.int .u64) (show IntKind.u64.wrap (Int.tdiv ((bs.length * 8 / 256 ^ q : Nat) : Int) 256) = ((bs.length * 8 / 256 ^ (q + 1) : Nat) : Int) from (u64_quo (Nat.lt_of_le_of_lt (Nat.div_le_self _ _) (by omega))).trans (by rw [Nat.div_div_eq_div_mul, Nat.pow_succ])))) rfl ?_
        refine o_ast rfl ?_
        refine ops_nil ?_
        refine W_region ?_
        refine o_mvt rfl ?_
        refine op_run ((r_add rfl rfl).val (congrArg (Value.int .i64) (show IntKind.i64.wrap ((q : Int) + 1) = ((q + 1 : Nat) : Int) from inc64' q (by omega)))) rfl ?_
        refine o_ast rfl ?_
        refine ops_nil ?_
        refine ⟨by (repeat (first | with_reducible exact offM_refl _ _ | refine offM_updc rfl ?_ | refine offM_upd rfl ?_ | refine offM_updo rfl ?_ | refine offM_updo_none ?_ | refine offM_head rfl rfl ?_)), ⟨q + 1, rfl, by omega, rfl⟩, ?_⟩
        show 7 - j - ((q + 1 : Nat) : Int).toNat < 7 - j - (q : Int).toNat
        omega
      · refine W_exit ?_
        refine W_region ?_
        refine o_mvt rfl ?_
        refine o_mvt rfl ?_
        refine op_run (r_rem rfl rfl (by decide)) rfl ?_
        refine op_run ((r_conv rfl rfl rfl).val (congrArg (Value.int .u8) (u8_rem (bs.length * 8 / 256 ^ q)))) rfl ?_
        refine o_bs1 (v := (c8 (UInt8.ofNat (bs.length * 8 / 256 ^ q)))) rfl rfl rfl rfl rfl rfl ?_; intro w18 b18 e18 hB18 hk18 hs18
        refine o_app1 (u := c8 (UInt8.ofNat (bs.length * 8 / 256 ^ q))) rfl rfl hB18 rfl rfl ti_u8 rfl (hown.keep hk18 (fun _ _ => trivial)) (by rw [List.length_append, List.length_take]; unfold maxLen; omega) (by rw [List.length_append, List.length_take]; omega) rfl ?_; intro v19 w19 hown19 hk19 hb19
        refine o_ast rfl ?_
        refine ops_nil ?_
        refine W_region ?_
        refine o_mvt rfl ?_
        refine op_run ((r_sub rfl rfl).val (congrArg (Value.int .i64) (show IntKind.i64.wrap (7 - (j : Int) - 1) = 7 - ((j + 1 : Nat) : Int) from (wrap_i64 (by omega) (by omega)).trans (by omega)))) rfl ?_
        refine o_ast rfl ?_
        refine ops_nil ?_
        have hq7 : q = 7 - j := by omega
        have e : padP bs (zc bs.length) ++ (lenB bs.length).take (j + 1) = padP bs (zc bs.length) ++ (lenB bs.length).take j ++ [UInt8.ofNat (bs.length * 8 / 256 ^ q)] := by
          rw [List.take_succ_eq_append_getElem (by rw [hll]; exact hj8), List.append_assoc]
          have : (lenB bs.length)[j]'(by rw [hll]; exact hj8) = UInt8.ofNat (bs.length * 8 / 2 ^ (56 - 8 * j)) := by simp [lenB]
          rw [this, pow256, hq7, show 8 * (7 - j) = 56 - 8 * j by omega]
        have hown19 : OwnB w19 5 v19 (padP bs (zc bs.length) ++ (lenB bs.length).take (j + 1)) := by rw [e]; exact OwnB.snoc hown19
        have h615 := hk13.size
        refine ⟨by (repeat (first | with_reducible exact offM_refl _ _ | refine offM_updc rfl ?_ | refine offM_upd rfl ?_ | refine offM_updo rfl ?_ | refine offM_updo_none ?_ | refine offM_head rfl rfl ?_)), ⟨v19, j + 1, rfl, by omega, hown19, fun b hb => ?_, (hk13.trans hk18.all).trans (hk19.mono fun k _ hk e => by have := hin k e.symm; omega)⟩, ?_⟩
        · rcases hb19 b hb with h | h
          · exact hin b h
          · have := hk18.size; omega
        · show (7 - ((j + 1 : Nat) : Int) + 1).toNat < (7 - (j : Int) + 1).toNat
          omega
    · refine W_exit ?_
      refine W_seq ?_
      refine W_seq ?_
      refine W_region ?_
      refine o_asc rfl ?_
      refine ops_nil ?_
      refine W_block ?_
      have hj8 : j = 8 := by omega
      subst hj8
      obtain ⟨N, hN⟩ : ∃ N, (padL bs).length = 64 * N := ⟨(padL bs).length / 64, by omega⟩
      have e8 : (padP bs (zc bs.length) ++ (lenB bs.length).take 8).length = 64 * N := by rw [List.take_of_length_le (by rw [hll]; exact Nat.le_refl _)]; exact hN
      rw [e8] at hown hin ⊢
      rw [List.take_of_length_le (by rw [hll]; exact Nat.le_refl _)] at hown
      have hown : OwnB w13 5 (.slice af2 (64 * N) cf2) (padL bs) := hown
      have hin : InB (fun b => w3.heap.size ≤ b) (.slice af2 (64 * N) cf2) := hin
      unfold OwnB at hown
      rw [hN] at hown
      obtain ⟨g, c, ex, eg, hNc, hcm, hG, _⟩ := hown.open (by omega)
      cases eg
      have hg3 : w3.heap.size ≤ g := hin g rfl
      have hgl := hG.lt
      have hH13 := hk13.blk' hH3 (by omega)
      have hK13 := hk13.blk' hK3 (by omega)
      have hD13 := hk13.blk' hD3 (by omega)
      have hz13 := hk13.size
      have hkw13 : Keep All w w13 := hkw3.outA (B := fun k => ¬ k < w3.heap.size) (hk13.mono fun k _ h => Decidable.not_not.1 h) (fun k hk => by have := hkw3.size; omega)
      obtain ⟨full, hfull⟩ : ∃ full, full = padL bs := ⟨_, rfl⟩
      have hN0 := hN
      rw [← hfull] at hG hN
      obtain ⟨ks, hks⟩ : ∃ ks, ks = tabK 64 := ⟨_, rfl⟩
      rw [← hks] at hK13
      have hksl : ks.length = 64 := by rw [hks]; exact tabK_len
      have hNb : N ≤ 20000 := by rw [hpl] at hN0; omega
      clear hown hin hpl hN0
      refine W_loop [10] [10, 11, 12, 13, 14, 15, 16, 17, 18, 19, 20, 21, 62, 63, 64, 65, 66, 67, 68, 69, 70, 71, 72, 73, 74, 75, 76, 77, 78, 79, 80, 81, 82, 83, 84, 85, 86, 87, 88, 89, 90, 91, 92, 93, 94, 95, 96, 97, 98, 99, 100, 101, 102, 103, 104, 105, 106, 107, 108, 109, 110, 111, 112, 113, 114, 115, 116, 117, 118, 119, 120, 121, 122, 123, 124, 125, 126, 127, 128, 129, 130, 131, 132, 133, 134, 135, 136, 137, 138, 139, 140, 141, 142, 143, 144, 145, 146, 147, 148, 149, 150, 151, 152, 153, 154, 155, 156, 157, 158, 159, 160, 161, 162, 163, 164, 165, 166, 167, 168, 169, 170, 171, 172, 173, 174, 175, 176, 177, 178, 179, 180, 181, 182, 183, 184, 185, 186, 187, 188, 189, 190, 191, 192, 193, 194, 195, 196, 197, 198, 199, 200, 201, 202, 203, 204, 205, 206, 207, 208, 209, 210, 211, 212, 213, 214, 215, 216, 217, 218, 219, 220, 221, 222, 223, 224, 225, 226, 227, 228, 229, 230, 231, 232, 233, 234, 235, 236, 237, 238, 239, 240, 241, 242, 243, 244, 245, 246, 247, 248, 249, 250, 251, 252, 253, 254, 255, 256, 257, 258, 259, 260, 261, 262, 263, 264, 265, 266, 267, 268] (fun vs w' => ∃ (k : Nat) (s : V8), vs = [.int .i64 ((64 * k : Nat) : Int)] ∧ k ≤ N ∧ s = sumSt full k ∧ Blk w' bh s.cells 112 ∧ Keep (· ≠ bh) w13 w') (fun vs _ => match vs with | [.int _ x] => 64 * N - x.toNat | _ => 0) ⟨0, _, rfl, by omega, (sumSt_0 full).symm, hH13, Keep.refl _⟩ ?_
      rintro J21 vs w21 ⟨k, s, rfl, hk, hs, hH21, hk21⟩ -
      refine W_seq ?_
      refine W_seq ?_
      refine W_region ?_
      refine o_mvt rfl ?_
      refine o_mvt rfl ?_
      refine op_run (r_len rfl rfl rfl) rfl ?_
      refine op_run (r_lss rfl rfl) rfl ?_
      refine ops_nil ?_
      refine W_cond_p rfl (fun h22 => ?_) (fun h22 => ?_)
      · refine W_skip ?_
        refine W_seq ?_
        refine W_block ?_
        refine W_seq ?_
        refine W_region ?_
        have hkN : k < N := by omega
        have hbb : (blk full k).length = 64 := by unfold blk; rw [List.length_take, List.length_drop]; omega
        have hbg : ∀ i, i < 64 → (blk full k)[i]? = full[64 * k + i]? := fun i hi => by unfold blk; rw [List.getElem?_take, if_pos hi, List.getElem?_drop]
        obtain ⟨bb, hbbe⟩ : ∃ bb, bb = blk full k := ⟨_, rfl⟩
        rw [← hbbe] at hbb hbg
        obtain ⟨m, hm⟩ : ∃ m, m = load16 bb := ⟨_, rfl⟩
        have hml : m.length = 16 := by rw [hm]; exact load16_len bb
        have hz21 := hk21.size
        have hhl21 := hH21.lt
        refine o_bs0 rfl rfl rfl ?_; intro w23 b23 e23 hB23 hk23 hs23
        refine o_ast rfl ?_
        refine ops_nil ?_
        refine W_seq ?_
        refine W_seq ?_
        refine W_region ?_
        refine o_asc rfl ?_
        refine ops_nil ?_
        refine W_block ?_
        refine W_loop [11, 12] [11, 12, 13, 14, 15, 16, 69, 70, 71, 72, 73, 74, 75, 76, 77, 78, 79, 80, 81, 82, 83, 84, 85, 86, 87, 88, 89, 90, 91, 92, 93, 94, 95, 96, 97, 98, 99, 100, 101, 102, 103, 104, 105, 106, 107, 108, 109, 110, 111, 112, 113, 114, 115, 116, 117, 118, 119, 120, 121, 122, 123, 124, 125, 126, 127, 128, 129, 130, 131, 132, 133, 134, 135, 136, 137] (fun vs w' => ∃ (vw : Value) (t : Nat), vs = [vw, .int .i64 t] ∧ t ≤ 64 ∧ Own w' 112 1 vw t ((wl t (msg m)).map c32) ∧ InB (fun b => w21.heap.size ≤ b) vw ∧ Keep (· < w21.heap.size) w21 w') (fun vs _ => match vs with | [_, .int _ t] => 64 - t.toNat | _ => 0) ⟨_, 0, rfl, by omega, Own.blk hB23 rfl (by unfold maxLen; omega), (fun b hb => by cases hb; show w21.heap.size ≤ b23; omega), hk23.all⟩ ?_
        rintro J24 vs w24 ⟨vw, t, rfl, ht, hownw, hinw, hk24⟩ -
        obtain ⟨aw, cw, rfl, _, _⟩ := hownw.form
        have hz24 := hk24.size
        refine W_seq ?_
        refine W_seq ?_
        refine W_region ?_
        refine o_mvt rfl ?_
        refine op_run (r_lss rfl rfl) rfl ?_
        refine ops_nil ?_
        refine W_cond_p rfl (fun h25 => ?_) (fun h25 => ?_)
        · refine W_skip ?_
          refine W_seq ?_
          refine W_block ?_
          refine W_seq ?_
          refine W_seq ?_
          refine W_region ?_
          refine o_mvt rfl ?_
          refine op_run (r_lss rfl rfl) rfl ?_
          refine ops_nil ?_
          refine W_cond_p rfl (fun h26 => ?_) (fun h26 => ?_)
          · refine W_seq ?_
            refine W_region ?_
            refine o_asc rfl ?_
            refine ops_nil ?_
            refine W_seq ?_
            refine W_seq ?_
            refine W_region ?_
            refine o_asc rfl ?_
            refine ops_nil ?_
            refine W_block ?_
            refine W_loop [13, 14] [13, 14, 75, 76, 77, 78, 79, 80, 81, 82, 83, 84, 85, 86, 87, 88, 89, 90, 91] (fun vs w' => ∃ q : Nat, vs = [c32 (ldW ((ldB bb t).take q)), .int .i64 q] ∧ q ≤ 4 ∧ w' = w24) (fun vs _ => match vs with | [_, .int _ q] => 4 - q.toNat | _ => 0) ⟨0, rfl, by omega, rfl⟩ ?_
            rintro J27 vs w27 ⟨q, rfl, hq, rfl⟩ -
            refine W_seq ?_
            refine W_seq ?_
            refine W_region ?_
            refine o_mvt rfl ?_
            refine op_run (r_lss rfl rfl) rfl ?_
            refine ops_nil ?_
            refine W_cond_p rfl (fun h28 => ?_) (fun h28 => ?_)
            · refine W_skip ?_
              refine W_seq ?_
              refine W_block ?_
              refine W_region ?_
              refine o_mvt rfl ?_
              refine op_run ((r_mul rfl rfl).val (congrArg (Value.int .u32) (wd_mulb _))) rfl ?_
              refine o_mvt rfl ?_
              refine o_mvt rfl ?_
              refine o_mvt rfl ?_
              refine op_run ((r_mul rfl rfl).val (congrArg (Value.int .i64) (show IntKind.i64.wrap (4 * (t : Int)) = ((4 * t : Nat) : Int) from (wrap_i64 (by omega) (by omega)).trans (by omega)))) rfl ?_
              refine op_run ((r_add rfl rfl).val (congrArg (Value.int .i64) (show IntKind.i64.wrap (((64 * k : Nat) : Int) + ((4 * t : Nat) : Int)) = ((64 * k + 4 * t : Nat) : Int) from (wrap_i64 (by omega) (by omega)).trans (by omega)))) rfl ?_
              refine o_mvt rfl ?_
              refine op_run ((r_add rfl rfl).val (congrArg (Value.int .i64) (show IntKind.i64.wrap (((64 * k + 4 * t : Nat) : Int) + (q : Int)) = ((64 * k + 4 * t + q : Nat) : Int) from (wrap_i64 (by omega) (by omega)).trans (by omega)))) rfl ?_
              have ht16 : t < 16 := by omega
              have hq4 : q < 4 := by omega
              have hincq := inc64' q (by omega)
              have hij := ldB_get hbb ht16 hq4
              obtain ⟨x, hx⟩ : ∃ x, (ldB bb t)[q]? = some x := ⟨_, by rw [hij.2]; exact List.getElem?_eq_getElem hij.1⟩
              have hfx : full[64 * k + 4 * t + q]? = some x := by rw [Nat.add_assoc, ← hbg _ (by omega), ← hij.2]; exact hx
              have hgx : w27.cell? ⟨g, 64 * k + 4 * t + q, none⟩ = some (c8 x) := hk24.cell (hk21.cell (hG.cell (by rw [List.getElem?_append_left (by rw [List.length_map]; exact (List.getElem?_eq_some_iff.1 hfx).1), List.getElem?_map, hfx]; rfl)) (show g ≠ bh by omega)) (show g < w21.heap.size by omega)
              refine op_run (r_idxS1 rfl rfl rfl rfl (by omega) (by omega)) rfl ?_
              refine op_run (r_load rfl rfl rfl (by rw [Int.toNat_natCast, Nat.zero_add]; exact hgx)) rfl ?_
              refine op_run (r_convW8 rfl rfl rfl) rfl ?_
              refine op_run (r_addW rfl rfl) rfl ?_
              refine o_ast rfl ?_
              refine ops_nil ?_
              refine W_region ?_
              refine o_mvt rfl ?_
              refine op_run (r_add rfl rfl) rfl ?_
              refine o_ast rfl ?_
              refine ops_nil ?_
              refine ⟨by (repeat (first | with_reducible exact offM_refl _ _ | refine offM_updc rfl ?_ | refine offM_upd rfl ?_ | refine offM_updo rfl ?_ | refine offM_updo_none ?_ | refine offM_head rfl rfl ?_)), ⟨q + 1, ?_, by omega, rfl⟩, ?_⟩
              · rw [take_s hx, ldW_snoc, ← wd_orb, ← hincq]; rfl
              · show 4 - (IntKind.i64.wrap ((q : Int) + 1)).toNat < 4 - (q : Int).toNat
                rw [hincq]; omega
            · refine W_exit ?_
              refine W_seq ?_
              refine W_region ?_
              refine o_mvt rfl ?_
              refine o_mvt rfl ?_
              refine o_bs1 (v := (c32 (ldW ((ldB bb t).take q)))) rfl rfl rfl rfl rfl rfl ?_; intro w32 b32 e32 hB32 hk32 hs32
              refine o_app1 (u := c32 (ldW ((ldB bb t).take q))) rfl rfl hB32 rfl rfl ti_u32 rfl (hownw.keep hk32 (fun _ _ => trivial)) (by unfold maxLen; omega) (by omega) rfl ?_; intro v33 w33 hown33 hk33 hb33
              refine o_ast rfl ?_
              refine ops_nil ?_
              refine W_exit ?_
              refine W_region ?_
              refine o_mvt rfl ?_
              refine op_run (r_add rfl rfl) rfl ?_
              refine o_ast rfl ?_
              refine ops_nil ?_
              have ht16 : t < 16 := by omega
              have hinct := inc64' t (by omega)
              have e : ldW ((ldB bb t).take q) = msg m t := by rw [msg_lo ht16, hm, load16_get ht16, List.take_of_length_le (by rw [ldB_len hbb ht16]; omega)]
              have hown33 : Own w33 112 1 v33 (t + 1) ((wl (t + 1) (msg m)).map c32) := by rw [wl_s, List.map_append, ← e]; exact hown33
              refine ⟨by (repeat (first | with_reducible exact offM_refl _ _ | refine offM_updc rfl ?_ | refine offM_upd rfl ?_ | refine offM_updo rfl ?_ | refine offM_updo_none ?_ | refine offM_head rfl rfl ?_)), ⟨v33, t + 1, ?_, by omega, hown33, fun b hb => ?_, (hk24.trans hk32.all).trans (hk33.mono fun k _ hk e => by have := hinw k e.symm; omega)⟩, ?_⟩
              · rw [← hinct]; rfl
              · rcases hb33 b hb with h | h
                · exact hinw b h
                · have := hk32.size; omega
              · show 64 - (IntKind.i64.wrap ((t : Int) + 1)).toNat < 64 - (t : Int).toNat
                rw [hinct]; omega
          · refine W_skip ?_
            refine W_seq ?_
            have ht16 : 16 ≤ t := by omega
            have hinct := inc64' t (by omega)
            obtain ⟨gw, cw', exw, eqw, _, _, hW, _⟩ := hownw.open (by omega)
            cases eqw
            have hWg : ∀ i, i < t → ((wl t (msg m)).map c32 ++ exw)[i]? = some (c32 (msg m i)) := fun i hi => by rw [List.getElem?_append_left (by rw [List.length_map, wl_len]; exact hi), get32 (by rw [wl_len]; exact hi), wl_get hi]
            refine W_quiet (Keep All w24) (by kernel_rfl) (by kernel_rfl) (Keep.drawn _) ?_
            refine q_mvt rfl ?_
            refine q_mvt rfl ?_
            refine q_run (fun _ _ => ((r_sub rfl rfl).val (congrArg (Value.int .i64) (show IntKind.i64.wrap ((t : Int) - 2) = ((t - 2 : Nat) : Int) from (wrap_i64 (by omega) (by omega)).trans (by omega))))) rfl ?_
            refine q_run (fun _ _ => r_idxS1 rfl rfl rfl rfl (by omega) (by omega)) rfl ?_
            refine q_run (fun _ hk => r_load rfl rfl rfl (hk.cell (hW.cell (by rw [Int.toNat_natCast, Nat.zero_add]; exact hWg (t - 2) (by omega))) trivial)) rfl ?_
            refine q_mvt rfl ?_
            refine q_mvt rfl ?_
            refine q_run (fun _ _ => ((r_sub rfl rfl).val (congrArg (Value.int .i64) (show IntKind.i64.wrap ((t : Int) - 15) = ((t - 15 : Nat) : Int) from (wrap_i64 (by omega) (by omega)).trans (by omega))))) rfl ?_
            refine q_run (fun _ _ => r_idxS1 rfl rfl rfl rfl (by omega) (by omega)) rfl ?_
            refine q_run (fun _ hk => r_load rfl rfl rfl (hk.cell (hW.cell (by rw [Int.toNat_natCast, Nat.zero_add]; exact hWg (t - 15) (by omega))) trivial)) rfl ?_
            refine q_ast rfl ?_
            refine q_ast rfl ?_
            refine q_nil ?_; intro w40 hk40
            refine W_gate 31 (fun w' => Keep All w40 w') (by kernel_rfl) (Keep.drawn _) (fun hS => ?_)
            have hW40 := hk40.blk' hW trivial
            refine gt_mvt 0 rfl (by kernel_rfl) (by kernel_rfl) (by kernel_rfl) (by kernel_rfl) rfl hS ?_
            refine gt_mvt 1 rfl (by kernel_rfl) (by kernel_rfl) (by kernel_rfl) (by kernel_rfl) rfl hS ?_
            refine gt_mvt 3 rfl (by kernel_rfl) (by kernel_rfl) (by kernel_rfl) (by kernel_rfl) rfl hS ?_
            refine gt_mvt 6 rfl (by kernel_rfl) (by kernel_rfl) (by kernel_rfl) (by kernel_rfl) rfl hS ?_
            refine gt_mvt 9 rfl (by kernel_rfl) (by kernel_rfl) (by kernel_rfl) (by kernel_rfl) rfl hS ?_
            refine gt_mvt 10 rfl (by kernel_rfl) (by kernel_rfl) (by kernel_rfl) (by kernel_rfl) rfl hS ?_
            refine gt_run 11 (fun w' hS' => ((r_sub rfl rfl).val (congrArg (Value.int .i64) (show IntKind.i64.wrap ((t : Int) - 7) = ((t - 7 : Nat) : Int) from (wrap_i64 (by omega) (by omega)).trans (by omega))))) rfl (by kernel_rfl) (by kernel_rfl) (by kernel_rfl) (by kernel_rfl) rfl hS ?_
            refine gt_run 12 (fun w' hS' => (r_idxS1 rfl rfl rfl rfl (by omega) (by omega))) rfl (by kernel_rfl) (by kernel_rfl) (by kernel_rfl) (by kernel_rfl) rfl hS ?_
            refine gt_run 13 (fun w' hS' => (r_load rfl rfl rfl ((hS'.blk' hW40 trivial).cell (by rw [Int.toNat_natCast, Nat.zero_add]; exact hWg (t - 7) (by omega))))) rfl (by kernel_rfl) (by kernel_rfl) (by kernel_rfl) (by kernel_rfl) rfl hS ?_
            refine gt_mvt 15 rfl (by kernel_rfl) (by kernel_rfl) (by kernel_rfl) (by kernel_rfl) rfl hS ?_
            refine gt_mvt 17 rfl (by kernel_rfl) (by kernel_rfl) (by kernel_rfl) (by kernel_rfl) rfl hS ?_
            refine gt_mvt 20 rfl (by kernel_rfl) (by kernel_rfl) (by kernel_rfl) (by kernel_rfl) rfl hS ?_
            refine gt_mvt 24 rfl (by kernel_rfl) (by kernel_rfl) (by kernel_rfl) (by kernel_rfl) rfl hS ?_
            refine gt_mvt 25 rfl (by kernel_rfl) (by kernel_rfl) (by kernel_rfl) (by kernel_rfl) rfl hS ?_
            refine gt_run 26 (fun w' hS' => ((r_sub rfl rfl).val (congrArg (Value.int .i64) (show IntKind.i64.wrap ((t : Int) - 16) = ((t - 16 : Nat) : Int) from (wrap_i64 (by omega) (by omega)).trans (by omega))))) rfl (by kernel_rfl) (by kernel_rfl) (by kernel_rfl) (by kernel_rfl) rfl hS ?_
            refine gt_run 27 (fun w' hS' => (r_idxS1 rfl rfl rfl rfl (by omega) (by omega))) rfl (by kernel_rfl) (by kernel_rfl) (by kernel_rfl) (by kernel_rfl) rfl hS ?_
            refine gt_run 28 (fun w' hS' => (r_load rfl rfl rfl ((hS'.blk' hW40 trivial).cell (by rw [Int.toNat_natCast, Nat.zero_add]; exact hWg (t - 16) (by omega))))) rfl (by kernel_rfl) (by kernel_rfl) (by kernel_rfl) (by kernel_rfl) rfl hS ?_
            refine gt_one 2 (by kernel_rfl) (one_of rfl ?_)
            refine op_call rfl rfl rfl (rf_rot _ (msg m (t - 2)) 17 (by decide) (by decide)) ?_; rintro v46 w46 ⟨rfl, rfl⟩
            refine ops_nil ⟨hS, fun hS => ?_⟩
            refine gt_one 4 (by kernel_rfl) (one_of rfl ?_)
            refine op_call rfl rfl rfl (rf_rot _ (msg m (t - 2)) 19 (by decide) (by decide)) ?_; rintro v48 w48 ⟨rfl, rfl⟩
            refine ops_nil ⟨hS, fun hS => ?_⟩
            refine gt_run 5 (fun w' hS' => (r_xorW rfl rfl)) rfl (by kernel_rfl) (by kernel_rfl) (by kernel_rfl) (by kernel_rfl) rfl hS ?_
            refine gt_one 7 (by kernel_rfl) (one_of rfl ?_)
            refine op_call rfl rfl rfl (rf_shr _ (msg m (t - 2)) 10 (by decide)) ?_; rintro v50 w50 ⟨rfl, rfl⟩
            refine ops_nil ⟨hS, fun hS => ?_⟩
            refine gt_run 8 (fun w' hS' => (r_xorW rfl rfl)) rfl (by kernel_rfl) (by kernel_rfl) (by kernel_rfl) (by kernel_rfl) rfl hS ?_
            refine gt_run 14 (fun w' hS' => (r_addW rfl rfl)) rfl (by kernel_rfl) (by kernel_rfl) (by kernel_rfl) (by kernel_rfl) rfl hS ?_
            refine gt_one 16 (by kernel_rfl) (one_of rfl ?_)
            refine op_call rfl rfl rfl (rf_rot _ (msg m (t - 15)) 7 (by decide) (by decide)) ?_; rintro v52 w52 ⟨rfl, rfl⟩
            refine ops_nil ⟨hS, fun hS => ?_⟩
            refine gt_one 18 (by kernel_rfl) (one_of rfl ?_)
            refine op_call rfl rfl rfl (rf_rot _ (msg m (t - 15)) 18 (by decide) (by decide)) ?_; rintro v54 w54 ⟨rfl, rfl⟩
            refine ops_nil ⟨hS, fun hS => ?_⟩
            refine gt_run 19 (fun w' hS' => (r_xorW rfl rfl)) rfl (by kernel_rfl) (by kernel_rfl) (by kernel_rfl) (by kernel_rfl) rfl hS ?_
            refine gt_one 21 (by kernel_rfl) (one_of rfl ?_)
            refine op_call rfl rfl rfl (rf_shr _ (msg m (t - 15)) 3 (by decide)) ?_; rintro v56 w56 ⟨rfl, rfl⟩
            refine ops_nil ⟨hS, fun hS => ?_⟩
            refine gt_run 22 (fun w' hS' => (r_xorW rfl rfl)) rfl (by kernel_rfl) (by kernel_rfl) (by kernel_rfl) (by kernel_rfl) rfl hS ?_
            refine gt_run 23 (fun w' hS' => (r_addW rfl rfl)) rfl (by kernel_rfl) (by kernel_rfl) (by kernel_rfl) (by kernel_rfl) rfl hS ?_
            refine gt_run 29 (fun w' hS' => (r_addW rfl rfl)) rfl (by kernel_rfl) (by kernel_rfl) (by kernel_rfl) (by kernel_rfl) rfl hS ?_
            refine gt_one 30 (by kernel_rfl) (one_of rfl ?_)
            refine o_bs1 (v := (c32 (sig1 (msg m (t - 2)) + msg m (t - 7) + sig0 (msg m (t - 15)) + msg m (t - 16)))) rfl rfl rfl rfl rfl rfl ?_; intro w58 b58 e58 hB58 hk58 hs58
            refine ops_nil ⟨hS.trans hk58, fun hS => ?_⟩
            refine gt_past 31 (by kernel_rfl) (by kernel_rfl) (one_of rfl ?_)
            refine o_app1 (u := c32 (sig1 (msg m (t - 2)) + msg m (t - 7) + sig0 (msg m (t - 15)) + msg m (t - 16))) rfl rfl hB58 rfl rfl ti_u32 rfl ((hownw.keep hk40 (fun _ _ => trivial)).keep hS (fun _ _ => trivial)) (by unfold maxLen; omega) (by omega) rfl ?_; intro v60 w60 hown60 hk60 hb60
            refine ops_nil ?_
            refine gt_past 32 (by kernel_rfl) (by kernel_rfl) (one_of rfl ?_)
            refine o_ast rfl ?_
            refine ops_nil ?_
            refine gt_done (by kernel_rfl) ?_
            refine W_region ?_
            refine o_mvt rfl ?_
            refine op_run (r_add rfl rfl) rfl ?_
            refine o_ast rfl ?_
            refine ops_nil ?_
            have hown60 : Own w60 112 1 v60 (t + 1) ((wl (t + 1) (msg m)).map c32) := by rw [wl_s, List.map_append, ← msg_hi' ht16]; exact hown60
            refine ⟨by (repeat (first | with_reducible exact offM_refl _ _ | refine offM_updc rfl ?_ | refine offM_upd rfl ?_ | refine offM_updo rfl ?_ | refine offM_updo_none ?_ | refine offM_head rfl rfl ?_)), ⟨v60, t + 1, ?_, by omega, hown60, fun b hb => ?_, ((hk24.trans hk40.all).trans hS.all).trans (hk60.mono fun k _ hk e => by have := hinw k e.symm; omega)⟩, ?_⟩
            · rw [← hinct]; rfl
            · rcases hb60 b hb with h | h
              · exact hinw b h
              · have := hk40.size; have := hS.size; omega
            · show 64 - (IntKind.i64.wrap ((t : Int) + 1)).toNat < 64 - (t : Int).toNat
              rw [hinct]; omega
        · refine W_exit ?_
          refine W_seq ?_
          refine W_region ?_
          have ht64 : t = 64 := by omega
          subst ht64
          obtain ⟨gw, cw', exw, eqw, _, _, hW, _⟩ := hownw.open (by omega)
          cases eqw
          have hWg : ∀ i, i < 64 → ((wl 64 (msg m)).map c32 ++ exw)[i]? = some (c32 (msg m i)) := fun i hi => by rw [List.getElem?_append_left (by rw [List.length_map, wl_len]; exact hi), get32 (by rw [wl_len]; exact hi), wl_get hi]
          have hH24 := hk24.blk' hH21 hhl21
          have hK24 := hk24.blk' (hk21.blk' hK13 (show bk ≠ bh by omega)) (show bk < w21.heap.size by omega)
          have hgwl := hW.lt
          refine o_bs0 rfl rfl rfl ?_; intro w62 b62 e62 hB62 hk62 hs62
          refine o_mvt rfl ?_
          refine o_appS (v := .slice (some ⟨b62, 0, none⟩) 0 0) rfl rfl (Blk.sl (off := 0) (n := 8) (cs := s.cells) (hk62.blk' hH24 trivial) rfl (by unfold maxLen; omega) (fun j _ => by rw [Nat.zero_add])) rfl ti_u32 rfl rfl (Own.blk hB62 rfl (by unfold maxLen; omega)) (all_c32 s.ws) (by unfold maxLen; omega) (by omega) rfl ?_; intro v63 w63 hown63 hk63 hb63
          have hown63 : Own w63 112 1 v63 8 (rounds ks (s, m) 0).1.cells := hown63
          refine o_ast rfl ?_
          refine ops_nil ?_
          refine W_seq ?_
          refine W_seq ?_
          refine W_region ?_
          refine o_asc rfl ?_
          refine ops_nil ?_
          refine W_block ?_
          refine W_loop [17, 18] [17, 18, 19, 20, 141, 142, 143, 144, 145, 146, 147, 148, 149, 150, 151, 152, 153, 154, 155, 156, 157, 158, 159, 160, 161, 162, 163, 164, 165, 166, 167, 168, 169, 170, 171, 172, 173, 174, 175, 176, 177, 178, 179, 180, 181, 182, 183, 184, 185, 186, 187, 188, 189, 190, 191, 192, 193, 194, 195, 196, 197, 198, 199, 200, 201, 202, 203, 204, 205, 206, 207, 208, 209, 210, 211, 212, 213, 214, 215, 216, 217, 218, 219, 220, 221, 222, 223, 224, 225, 226, 227, 228, 229, 230, 231, 232, 233, 234, 235, 236, 237, 238, 239, 240, 241, 242, 243, 244, 245, 246, 247, 248, 249, 250, 251, 252, 253, 254] (fun vs w' => ∃ (vv : Value) (u : Nat), vs = [vv, .int .i64 u] ∧ u ≤ 64 ∧ Own w' 112 1 vv 8 (rounds ks (s, m) u).1.cells ∧ InB (fun b => w24.heap.size ≤ b) vv ∧ Keep (· < w24.heap.size) w24 w') (fun vs _ => match vs with | [_, .int _ u] => 64 - u.toNat | _ => 0) ⟨v63, 0, rfl, by omega, hown63, (fun b hb => by
            rcases hb63 b hb with h | h
            · cases h; show w24.heap.size ≤ b62; omega
            · omega), hk62.all.trans (hk63.mono fun k _ hk e => by cases e; exact absurd hk (show ¬ b62 < w24.heap.size by omega))⟩ ?_
          rintro J64 vs w64 ⟨vv, u, rfl, hu, hownv, hinv, hk64⟩ -
          obtain ⟨v, hvv⟩ : ∃ v, v = (rounds ks (s, m) u).1 := ⟨_, rfl⟩
          rw [← hvv] at hownv
          obtain ⟨gv, cv, exv, eqv, _, _, hV, _⟩ := hownv.open (by omega)
          cases eqv
          have hK64 := hk64.blk' hK24 (show bk < w24.heap.size by omega)
          have hW64 := hk64.blk' hW hgwl
          refine W_seq ?_
          refine W_seq ?_
          refine W_region ?_
          refine o_mvt rfl ?_
          refine op_run (r_lss rfl rfl) rfl ?_
          refine ops_nil ?_
          refine W_cond_p rfl (fun h65 => ?_) (fun h65 => ?_)
          · refine W_skip ?_
            refine W_seq ?_
            refine W_block ?_
            refine W_seq ?_
            have hu64 : u < 64 := by omega
            have hincu := inc64' u (by omega)
            refine W_quiet (Keep All w64) (by kernel_rfl) (by kernel_rfl) (Keep.drawn _) ?_
            refine q_mvt rfl ?_
            refine q_run (fun _ _ => r_idxS1 rfl rfl rfl rfl (by omega) (by omega)) rfl ?_
            refine q_run (fun _ hk => r_load rfl rfl rfl (hk.cell (hV.cell rfl) trivial)) rfl ?_
            refine q_mvt rfl ?_
            refine q_run (fun _ _ => r_idxS1 rfl rfl rfl rfl (by omega) (by omega)) rfl ?_
            refine q_run (fun _ hk => r_load rfl rfl rfl (hk.cell (hV.cell rfl) trivial)) rfl ?_
            refine q_call rfl rfl rfl (fun _ hk => rf_rotQ v.e 6 (by decide) (by decide) hk) ?_
            refine q_mvt rfl ?_
            refine q_run (fun _ _ => r_idxS1 rfl rfl rfl rfl (by omega) (by omega)) rfl ?_
            refine q_run (fun _ hk => r_load rfl rfl rfl (hk.cell (hV.cell rfl) trivial)) rfl ?_
            refine q_call rfl rfl rfl (fun _ hk => rf_rotQ v.e 11 (by decide) (by decide) hk) ?_
            refine q_run (fun _ _ => (r_xorW rfl rfl)) rfl ?_
            refine q_mvt rfl ?_
            refine q_run (fun _ _ => r_idxS1 rfl rfl rfl rfl (by omega) (by omega)) rfl ?_
            refine q_run (fun _ hk => r_load rfl rfl rfl (hk.cell (hV.cell rfl) trivial)) rfl ?_
            refine q_call rfl rfl rfl (fun _ hk => rf_rotQ v.e 25 (by decide) (by decide) hk) ?_
            refine q_run (fun _ _ => (r_xorW rfl rfl)) rfl ?_
            refine q_run (fun _ _ => (r_addW rfl rfl)) rfl ?_
            refine q_mvt rfl ?_
            refine q_run (fun _ _ => r_idxS1 rfl rfl rfl rfl (by omega) (by omega)) rfl ?_
            refine q_run (fun _ hk => r_load rfl rfl rfl (hk.cell (hV.cell rfl) trivial)) rfl ?_
            refine q_mvt rfl ?_
            refine q_run (fun _ _ => r_idxS1 rfl rfl rfl rfl (by omega) (by omega)) rfl ?_
            refine q_run (fun _ hk => r_load rfl rfl rfl (hk.cell (hV.cell rfl) trivial)) rfl ?_
            refine q_run (fun _ _ => (r_andW rfl rfl)) rfl ?_
            refine q_mvt rfl ?_
            refine q_run (fun _ _ => r_idxS1 rfl rfl rfl rfl (by omega) (by omega)) rfl ?_
            refine q_run (fun _ hk => r_load rfl rfl rfl (hk.cell (hV.cell rfl) trivial)) rfl ?_
            refine q_run (fun _ _ => ((r_sub rfl rfl).val (congrArg (Value.int .u32) (wd_notm v.e)))) rfl ?_
            refine q_mvt rfl ?_
            refine q_run (fun _ _ => r_idxS1 rfl rfl rfl rfl (by omega) (by omega)) rfl ?_
            refine q_run (fun _ hk => r_load rfl rfl rfl (hk.cell (hV.cell rfl) trivial)) rfl ?_
            refine q_run (fun _ _ => (r_andW rfl rfl)) rfl ?_
            refine q_run (fun _ _ => ((r_xor rfl rfl).val (congrArg (Value.int .u32) ((wd_xor (v.e &&& v.f) (~~~v.e &&& v.g)).trans (congrArg (fun z : Wd => (z.toNat : Int)) (ch_eq v.e v.f v.g)))))) rfl ?_
            refine q_run (fun _ _ => (r_addW rfl rfl)) rfl ?_
            refine q_mvt rfl ?_
            refine q_mvt rfl ?_
            refine q_run (fun _ _ => r_idxS1 rfl rfl rfl rfl (by omega) (by omega)) rfl ?_
            refine q_run (fun _ hk => r_load rfl rfl rfl (hk.cell (hK64.cell (by rw [Int.toNat_natCast, Nat.zero_add]; exact get32 (by rw [hksl]; exact hu64))) trivial)) rfl ?_
            refine q_run (fun _ _ => (r_addW rfl rfl)) rfl ?_
            refine q_mvt rfl ?_
            refine q_mvt rfl ?_
            refine q_run (fun _ _ => r_idxS1 rfl rfl rfl rfl (by omega) (by omega)) rfl ?_
            refine q_run (fun _ hk => r_load rfl rfl rfl (hk.cell (hW64.cell (by rw [Int.toNat_natCast, Nat.zero_add]; exact hWg u hu64)) trivial)) rfl ?_
            refine q_run (fun _ _ => (r_addW rfl rfl)) rfl ?_
            refine q_ast rfl ?_
            refine q_nil ?_; intro w90 hk90
            have hV90 := hk90.blk' hV trivial
            refine W_seq ?_
            refine W_quiet (Keep All w90) (by kernel_rfl) (by kernel_rfl) (Keep.drawn _) ?_
            refine q_mvt rfl ?_
            refine q_run (fun _ _ => r_idxS1 rfl rfl rfl rfl (by omega) (by omega)) rfl ?_
            refine q_run (fun _ hk => r_load rfl rfl rfl (hk.cell (hV90.cell rfl) trivial)) rfl ?_
            refine q_call rfl rfl rfl (fun _ hk => rf_rotQ v.a 2 (by decide) (by decide) hk) ?_
            refine q_mvt rfl ?_
            refine q_run (fun _ _ => r_idxS1 rfl rfl rfl rfl (by omega) (by omega)) rfl ?_
            refine q_run (fun _ hk => r_load rfl rfl rfl (hk.cell (hV90.cell rfl) trivial)) rfl ?_
            refine q_call rfl rfl rfl (fun _ hk => rf_rotQ v.a 13 (by decide) (by decide) hk) ?_
            refine q_run (fun _ _ => (r_xorW rfl rfl)) rfl ?_
            refine q_mvt rfl ?_
            refine q_run (fun _ _ => r_idxS1 rfl rfl rfl rfl (by omega) (by omega)) rfl ?_
            refine q_run (fun _ hk => r_load rfl rfl rfl (hk.cell (hV90.cell rfl) trivial)) rfl ?_
            refine q_call rfl rfl rfl (fun _ hk => rf_rotQ v.a 22 (by decide) (by decide) hk) ?_
            refine q_run (fun _ _ => (r_xorW rfl rfl)) rfl ?_
            refine q_mvt rfl ?_
            refine q_run (fun _ _ => r_idxS1 rfl rfl rfl rfl (by omega) (by omega)) rfl ?_
            refine q_run (fun _ hk => r_load rfl rfl rfl (hk.cell (hV90.cell rfl) trivial)) rfl ?_
            refine q_mvt rfl ?_
            refine q_run (fun _ _ => r_idxS1 rfl rfl rfl rfl (by omega) (by omega)) rfl ?_
            refine q_run (fun _ hk => r_load rfl rfl rfl (hk.cell (hV90.cell rfl) trivial)) rfl ?_
            refine q_run (fun _ _ => (r_andW rfl rfl)) rfl ?_
            refine q_mvt rfl ?_
            refine q_run (fun _ _ => r_idxS1 rfl rfl rfl rfl (by omega) (by omega)) rfl ?_
            refine q_run (fun _ hk => r_load rfl rfl rfl (hk.cell (hV90.cell rfl) trivial)) rfl ?_
            refine q_mvt rfl ?_
            refine q_run (fun _ _ => r_idxS1 rfl rfl rfl rfl (by omega) (by omega)) rfl ?_
            refine q_run (fun _ hk => r_load rfl rfl rfl (hk.cell (hV90.cell rfl) trivial)) rfl ?_
            refine q_run (fun _ _ => (r_andW rfl rfl)) rfl ?_
            refine q_run (fun _ _ => (r_xorW rfl rfl)) rfl ?_
            refine q_mvt rfl ?_
            refine q_run (fun _ _ => r_idxS1 rfl rfl rfl rfl (by omega) (by omega)) rfl ?_
            refine q_run (fun _ hk => r_load rfl rfl rfl (hk.cell (hV90.cell rfl) trivial)) rfl ?_
            refine q_mvt rfl ?_
            refine q_run (fun _ _ => r_idxS1 rfl rfl rfl rfl (by omega) (by omega)) rfl ?_
            refine q_run (fun _ hk => r_load rfl rfl rfl (hk.cell (hV90.cell rfl) trivial)) rfl ?_
            refine q_run (fun _ _ => (r_andW rfl rfl)) rfl ?_
            refine q_run (fun _ _ => ((r_xor rfl rfl).val (congrArg (Value.int .u32) ((wd_xor ((v.a &&& v.b) ^^^ (v.a &&& v.c)) (v.b &&& v.c)).trans (congrArg (fun z : Wd => (z.toNat : Int)) (maj_eq v.a v.b v.c)))))) rfl ?_
            refine q_run (fun _ _ => (r_addW rfl rfl)) rfl ?_
            refine q_ast rfl ?_
            refine q_nil ?_; intro w113 hk113
            have hV113 := hk113.blk' hV90 trivial
            refine W_tail 26 (by kernel_rfl) (by kernel_rfl) ?_; intro w114 hk114 hs114
            have hV114 := hk114.blk' hV113 trivial
            refine q_mvt rfl ?_
            refine q_mvt rfl ?_
            refine q_run (still1 (r_addW rfl rfl)) rfl ?_
            refine q_mvt rfl ?_
            refine q_run (still1 (r_idxS1 rfl rfl rfl rfl (by omega) (by omega))) rfl ?_
            refine q_run (still1 (r_load rfl rfl rfl ((hV114.cell rfl)))) rfl ?_
            refine q_mvt rfl ?_
            refine q_run (still1 (r_idxS1 rfl rfl rfl rfl (by omega) (by omega))) rfl ?_
            refine q_run (still1 (r_load rfl rfl rfl ((hV114.cell rfl)))) rfl ?_
            refine q_mvt rfl ?_
            refine q_run (still1 (r_idxS1 rfl rfl rfl rfl (by omega) (by omega))) rfl ?_
            refine q_run (still1 (r_load rfl rfl rfl ((hV114.cell rfl)))) rfl ?_
            refine q_mvt rfl ?_
            refine q_run (still1 (r_idxS1 rfl rfl rfl rfl (by omega) (by omega))) rfl ?_
            refine q_run (still1 (r_load rfl rfl rfl ((hV114.cell rfl)))) rfl ?_
            refine q_mvt rfl ?_
            refine q_run (still1 (r_addW rfl rfl)) rfl ?_
            refine q_mvt rfl ?_
            refine q_run (still1 (r_idxS1 rfl rfl rfl rfl (by omega) (by omega))) rfl ?_
            refine q_run (still1 (r_load rfl rfl rfl ((hV114.cell rfl)))) rfl ?_
            refine q_mvt rfl ?_
            refine q_run (still1 (r_idxS1 rfl rfl rfl rfl (by omega) (by omega))) rfl ?_
            refine q_run (still1 (r_load rfl rfl rfl ((hV114.cell rfl)))) rfl ?_
            refine q_mvt rfl ?_
            refine q_run (still1 (r_idxS1 rfl rfl rfl rfl (by omega) (by omega))) rfl ?_
            refine q_run (still1 (r_load rfl rfl rfl ((hV114.cell rfl)))) rfl ?_
            refine q_nil ?_
            refine o_bsL (((nextV v (ks.getD u 0) (msg m u)).cells)) rfl rfl rfl rfl rfl rfl rfl rfl rfl ?_; intro w129 b129 e129 hB129 hk129 hs129
            refine o_ast rfl ?_
            refine ops_nil ?_
            refine W_region ?_
            refine o_mvt rfl ?_
            refine op_run (r_add rfl rfl) rfl ?_
            refine o_ast rfl ?_
            refine ops_nil ?_
            refine ⟨by (repeat (first | with_reducible exact offM_refl _ _ | refine offM_updc rfl ?_ | refine offM_upd rfl ?_ | refine offM_updo rfl ?_ | refine offM_updo_none ?_ | refine offM_head rfl rfl ?_)), ⟨_, u + 1, ?_, by omega, Own.blk (n := 8) (by rw [rounds_msg hml, ← hvv]; exact hB129) rfl (by unfold maxLen; omega), fun b hb => ?_, (((hk64.trans hk90.all).trans hk113.all).trans hk114.all).trans hk129.all⟩, ?_⟩
            · rw [← hincu]; rfl
            · cases hb; have := hk64.size; have := hk90.size; have := hk113.size; have := hk114.size; show w24.heap.size ≤ b129; omega
            · show 64 - (IntKind.i64.wrap ((u : Int) + 1)).toNat < 64 - (u : Int).toNat
              rw [hincu]; omega
          · refine W_exit ?_
            refine W_seq ?_
            refine W_region ?_
            refine o_asc rfl ?_
            refine ops_nil ?_
            refine W_block ?_
            have hu64 : u = 64 := by omega
            subst hu64
            have hH64 := hk64.blk' hH24 (show bh < w24.heap.size by omega)
            have hgvb : bh ≠ gv := by have := hinv gv rfl; omega
            refine W_loop [21] [21, 255, 256, 257, 258, 259, 260, 261, 262, 263, 264, 265, 266, 267, 268] (fun vs w' => ∃ i : Nat, vs = [.int .i64 i] ∧ i ≤ 8 ∧ Blk w' bh ((mix8 s v i).map c32) 112 ∧ Keep (· ≠ bh) w64 w') (fun vs _ => match vs with | [.int _ i] => 8 - i.toNat | _ => 0) ⟨0, rfl, by omega, hH64, Keep.refl _⟩ ?_
            rintro J131 vs w131 ⟨i, rfl, hi, hH131, hk131⟩ -
            refine W_seq ?_
            refine W_seq ?_
            refine W_region ?_
            refine o_mvt rfl ?_
            refine op_run (r_lss rfl rfl) rfl ?_
            refine ops_nil ?_
            refine W_cond_p rfl (fun h132 => ?_) (fun h132 => ?_)
            · refine W_skip ?_
              refine W_seq ?_
              refine W_block ?_
              have hi8 : i < 8 := by omega
              have hinci := inc64' i (by omega)
              refine W_tail 10 (by kernel_rfl) (by kernel_rfl) ?_; intro w133 hk133 hs133
              have hH133 := hk133.blk' hH131 trivial
              have hV133 := hk133.blk' (hk131.blk' hV hgvb.symm) trivial
              refine q_mvt rfl ?_
              refine q_mvt rfl ?_
              refine q_run (still1 (r_idxS1 rfl rfl rfl rfl (by omega) (by omega))) rfl ?_
              refine q_run (still1 (r_load rfl rfl rfl ((hH133.cell (v := c32 (s.ws.getD i 0)) (by rw [Int.toNat_natCast, Nat.zero_add, get32 (by rw [mix8, wl_len]; exact hi8), mix8_get hi8]))))) rfl ?_
              refine q_mvt rfl ?_
              refine q_mvt rfl ?_
              refine q_run (still1 (r_idxS1 rfl rfl rfl rfl (by omega) (by omega))) rfl ?_
              refine q_run (still1 (r_load rfl rfl rfl ((hV133.cell (v := c32 (v.ws.getD i 0)) (by rw [Int.toNat_natCast, Nat.zero_add, List.getElem?_append_left (by exact hi8)]; exact get32 (xs := v.ws) hi8))))) rfl ?_
              refine q_run (still1 (r_addW rfl rfl)) rfl ?_
              refine q_run (still1 (r_idxS1 rfl rfl rfl rfl (by omega) (by omega))) rfl ?_
              refine q_nil ?_
              refine o_store (v := c32 (s.ws.getD i 0 + v.ws.getD i 0)) rfl rfl rfl rfl hH133 (by rw [List.length_map, mix8, wl_len]; omega) rfl ?_; intro w139 hB139 hk139 hs139
              refine ops_nil ?_
              refine W_region ?_
              refine o_mvt rfl ?_
              refine op_run (r_add rfl rfl) rfl ?_
              refine o_ast rfl ?_
              refine ops_nil ?_
              rw [Int.toNat_natCast, Nat.zero_add, map_set32, mix8_set hi8] at hB139
              refine ⟨by (repeat (first | with_reducible exact offM_refl _ _ | refine offM_updc rfl ?_ | refine offM_upd rfl ?_ | refine offM_updo rfl ?_ | refine offM_updo_none ?_ | refine offM_head rfl rfl ?_)), ⟨i + 1, ?_, by omega, hB139, (hk131.trans hk133.all).trans hk139⟩, ?_⟩
              · rw [← hinci]; rfl
              · show 8 - (IntKind.i64.wrap ((i : Int) + 1)).toNat < 8 - (i : Int).toNat
                rw [hinci]; omega
            · refine W_exit ?_
              refine W_region ?_
              refine o_mvt rfl ?_
              refine op_run (r_add rfl rfl) rfl ?_
              refine o_ast rfl ?_
              refine ops_nil ?_
              have hi8 : i = 8 := by omega
              subst hi8
              rw [mix8_8] at hH131
              have hinck : IntKind.i64.wrap (((64 * k : Nat) : Int) + 64) = ((64 * (k + 1) : Nat) : Int) := (wrap_i64 (by omega) (by omega)).trans (by omega)
              have hstep : s.add v = sumSt full (k + 1) := by rw [sumSt_s, ← hs, ← hbbe, ← hks]; unfold blockF; rw [← hm, ← hvv]
              refine ⟨by (repeat (first | with_reducible exact offM_refl _ _ | refine offM_updc rfl ?_ | refine offM_upd rfl ?_ | refine offM_updo rfl ?_ | refine offM_updo_none ?_ | refine offM_head rfl rfl ?_)), ⟨k + 1, s.add v, ?_, by omega, hstep, hH131, ((hk21.trans (hk24.mono fun k hk _ => hk)).trans (hk64.mono fun k hk _ => hk)).trans hk131⟩, ?_⟩
              · rw [← hinck]; rfl
              · show 64 * N - (IntKind.i64.wrap (((64 * k : Nat) : Int) + 64)).toNat < 64 * N - ((64 * k : Nat) : Int).toNat
                rw [hinck]; omega
      · refine W_exit ?_
        refine W_seq ?_
        refine W_region ?_
        refine op_run (r_buildA ((List.replicate 32 (c8 0))) ((List.replicate 32 (c8 0))) ([]) rfl rfl rfl rfl rfl (rfl)) rfl ?_
        refine o_alloc rfl rfl rfl ?_; intro w143 b143 e143 hB143 hk143 hs143
        refine o_storeA (cs := List.replicate 32 (c8 0)) rfl rfl (by first | rfl | exact binV_one _ | exact dgR_one _ | exact refR_one _ | exact secR_one _ | exact all_c8 _) (by first | rfl | (rw [binV_len]; rfl) | (rw [dgR_len]; rfl) | (rw [refR_len]; rfl) | (rw [secR_len]; rfl) | (rw [List.length_map, tagF_len]; rfl)) hB143 (by exact Nat.le_refl _) rfl ?_; intro w144 hB144 hk144 hs144
        rw [splice_all (by rfl)] at hB144
        have hB144 : Blk w144 b143 ((dgT s 0).map c8) 29 := by rw [dgT_0]; exact hB144
        have hkN : k = N := by omega
        subst hkN
        have hz21 := hk21.size
        have hhl21 := hH21.lt
        have hH144 := hk144.blk' (hk143.blk' hH21 trivial) (show bh ≠ b143 by omega)
        have hD144 := hk144.blk' (hk143.blk' (hk21.blk' hD13 (show b1 ≠ bh by omega)) trivial) (show b1 ≠ b143 by omega)
        refine ops_nil ?_
        refine W_seq ?_
        refine W_seq ?_
        refine W_region ?_
        refine o_asc rfl ?_
        refine ops_nil ?_
        refine W_block ?_
        refine W_loop [23] [23, 24, 25, 270, 271, 272, 273, 274, 275, 276, 277, 278, 279, 280, 281, 282, 283, 284, 285, 286, 287, 288, 289, 290, 291] (fun vs w' => ∃ i : Nat, vs = [.int .i64 i] ∧ i ≤ 32 ∧ Blk w' b143 ((dgT s i).map c8) 29 ∧ Keep (· ≠ b143) w144 w') (fun vs _ => match vs with | [.int _ i] => 32 - i.toNat | _ => 0) ⟨0, rfl, by omega, hB144, Keep.refl _⟩ ?_
        rintro J145 vs w145 ⟨i, rfl, hi, hB145, hk145⟩ -
        refine W_seq ?_
        refine W_seq ?_
        refine W_region ?_
        refine o_mvt rfl ?_
        refine op_run (r_lss rfl rfl) rfl ?_
        refine ops_nil ?_
        refine W_cond_p rfl (fun h146 => ?_) (fun h146 => ?_)
        · refine W_skip ?_
          refine W_seq ?_
          refine W_block ?_
          refine W_seq ?_
          refine W_region ?_
          refine o_mvt rfl ?_
          refine o_mvt rfl ?_
          refine op_run ((r_quo rfl rfl (by decide)).val (congrArg (Value.int .i64) (show IntKind.i64.wrap (Int.tdiv (i : Int) 4) = ((i / 4 : Nat) : Int) from (congrArg IntKind.i64.wrap (Int.ofNat_tdiv i 4).symm).trans (wrap_i64 (by omega) (by omega))))) rfl ?_
          have hi32 : i < 32 := by omega
          have hinci := inc64' i (by omega)
          obtain ⟨x, hxe⟩ : ∃ x, x = s.ws.getD (i / 4) 0 := ⟨_, rfl⟩
          refine op_run (r_idxS1 rfl rfl rfl rfl (by omega) (by omega)) rfl ?_
          refine op_run (r_load rfl rfl rfl ((hk145.blk' hH144 (show bh ≠ b143 by omega)).cell (v := c32 x) (by rw [Int.toNat_natCast, Nat.zero_add, hxe]; exact get_ws (show i / 4 < 8 by omega)))) rfl ?_
          refine o_ast rfl ?_
          refine ops_nil ?_
          refine W_seq ?_
          refine W_seq ?_
          refine W_region ?_
          refine o_mvt rfl ?_
          refine op_run ((r_rem rfl rfl (by decide)).val (congrArg (Value.int .i64) (show Int.tmod (i : Int) 4 = ((i % 4 : Nat) : Int) from (Int.ofNat_tmod i 4).symm))) rfl ?_
          refine o_ast rfl ?_
          refine ops_nil ?_
          refine W_block ?_
          refine W_loop [24, 25] [24, 25, 281, 282, 283, 284, 285, 286] (fun vs w' => ∃ q : Nat, vs = [c32 (x >>> (8 * q)), .int .i64 ((i % 4 + q : Nat) : Int)] ∧ q ≤ 3 - i % 4 ∧ w' = w145) (fun vs _ => match vs with | [_, .int _ y] => 4 - y.toNat | _ => 0) ⟨0, by rw [Nat.mul_zero, BitVec.ushiftRight_zero]; rfl, by omega, rfl⟩ ?_
          rintro J149 vs w149 ⟨q, rfl, hq, rfl⟩ -
          refine W_seq ?_
          refine W_seq ?_
          refine W_region ?_
          refine o_mvt rfl ?_
          refine op_run (r_lss rfl rfl) rfl ?_
          refine ops_nil ?_
          refine W_cond_p rfl (fun h150 => ?_) (fun h150 => ?_)
          · refine W_skip ?_
            refine W_seq ?_
            refine W_block ?_
            refine W_region ?_
            refine o_mvt rfl ?_
            refine op_run ((r_quo rfl rfl (by decide)).val (congrArg (Value.int .u32) ((u32_quo (x >>> (8 * q))).trans (congrArg (fun z : Wd => (z.toNat : Int)) (shr8 x q))))) rfl ?_
            refine o_ast rfl ?_
            refine ops_nil ?_
            refine W_region ?_
            refine o_mvt rfl ?_
            refine op_run ((r_add rfl rfl).val (congrArg (Value.int .i64) (show IntKind.i64.wrap (((i % 4 + q : Nat) : Int) + 1) = ((i % 4 + (q + 1) : Nat) : Int) from (wrap_i64 (by omega) (by omega)).trans (by omega)))) rfl ?_
            refine o_ast rfl ?_
            refine ops_nil ?_
            refine ⟨by (repeat (first | with_reducible exact offM_refl _ _ | refine offM_updc rfl ?_ | refine offM_upd rfl ?_ | refine offM_updo rfl ?_ | refine offM_updo_none ?_ | refine offM_head rfl rfl ?_)), ⟨q + 1, rfl, by omega, rfl⟩, ?_⟩
            show 4 - ((i % 4 + (q + 1) : Nat) : Int).toNat < 4 - ((i % 4 + q : Nat) : Int).toNat
            omega
          · refine W_exit ?_
            refine W_region ?_
            refine o_mvt rfl ?_
            refine o_mvt rfl ?_
            refine op_run (r_rem rfl rfl (by decide)) rfl ?_
            refine op_run ((r_conv rfl rfl rfl).val (congrArg (Value.int .u8) (u8_rem _))) rfl ?_
            refine op_run (r_idxA1 rfl rfl rfl rfl (by omega) (by omega)) rfl ?_
            refine o_store (v := c8 (dgB s i)) rfl (congrArg (fun n : Int => Value.int .u8 n) (show _ = _ from by unfold dgB; rw [← hxe, show 24 - 8 * (i % 4) = 8 * q by omega])) rfl rfl hB145 (by rw [List.length_map, dgT_len]; omega) rfl ?_; intro w153 hB153 hk153 hs153
            refine ops_nil ?_
            refine W_region ?_
            refine o_mvt rfl ?_
            refine op_run (r_add rfl rfl) rfl ?_
            refine o_ast rfl ?_
            refine ops_nil ?_
            rw [Int.toNat_natCast, Nat.zero_add, map_set8, dgT_set] at hB153
            refine ⟨by (repeat (first | with_reducible exact offM_refl _ _ | refine offM_updc rfl ?_ | refine offM_upd rfl ?_ | refine offM_updo rfl ?_ | refine offM_updo_none ?_ | refine offM_head rfl rfl ?_)), ⟨i + 1, ?_, by omega, hB153, hk145.trans hk153⟩, ?_⟩
            · rw [← hinci]; rfl
            · show 32 - (IntKind.i64.wrap ((i : Int) + 1)).toNat < 32 - (i : Int).toNat
              rw [hinci]; omega
        · refine W_exit ?_
          refine W_seq ?_
          refine W_region ?_
          have e : i = 32 := by omega
          subst e
          have hB145 : Blk w145 b143 ((sumF bs).map c8) 29 := by
            have e : sumF bs = dgT s 32 := by rw [dgT_32]; unfold sumF; rw [← hfull, hN, Nat.mul_div_cancel_left k (by decide), ← hs]
            rw [e]; exact hB145
          have hslF := sumF_len bs
          have hD145 := hk145.blk' hD144 (show b1 ≠ b143 by omega)
          refine op_run (r_loadA ((sumF bs).map c8) rfl rfl rfl (by rw [List.length_map, hslF]; rfl) hB145.all) rfl ?_
          refine o_storeA (cs := (sumF bs).map c8) rfl rfl (all_c8 _) (by rw [List.length_map, hslF]; rfl) hD145 (by rw [List.length_map, List.length_map, hslF, dgT_len]; exact Nat.le_refl _) rfl ?_; intro w156 hB156 hk156 hs156
          rw [splice_all (by rw [List.length_map, List.length_map, hslF, dgT_len])] at hB156
          refine ops_nil ?_
          refine W_ret ?_
          refine retA ((sumF bs).map c8) rfl rfl rfl rfl (by rw [List.length_map, hslF]; rfl) hB156.all ?_
          have hkw21 : Keep All w w21 := hkw13.new hk21 (by omega)
          exact ⟨rfl, (((hkw21.trans hk143).new hk144 (by have := hkw21.size; omega)).new hk145 (by have := hkw21.size; omega)).new hk156 (by omega)⟩
end Go.Proofs.YtkmciohghhffnaaGreat.B
