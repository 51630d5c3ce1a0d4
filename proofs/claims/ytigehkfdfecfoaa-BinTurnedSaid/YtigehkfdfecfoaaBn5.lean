/-
  Bins by the document: Root, Laid, Same.
-/
import Derived.Test.YtigehkfdfecfoaaBn4
import Derived.Test.YtigehkfdfecfoaaRef07
namespace Go.Proofs.Ytigehkfdfecfoaa.B
open Go
set_option linter.unusedVariables false
set_option maxHeartbeats 2000000
set_option maxRecDepth 100000
attribute [local irreducible] W OpsW OpsQ retP
theorem rf10_Root (w : World) (v : Value) (L : List Bk) (hv : Sl w v L.length 48 (rows blkR L)) (hl : L.length ≤ 100) : Ret Try.prog 17 [v].toArray w fun r w' => r = .agg (dgR (rootB L)).toArray ∧ Keep All w w' := by
  obtain ⟨a0, c0, rfl, hc0, hcm0⟩ := hv.form
  refine enter (fn := Try.f17) (n := 23) Try.func17 rfl rfl (by simp) ?_
  refine W_seq ?_
  refine W_region ?_
  refine o_alloc rfl rfl rfl ?_; intro w1 b1 e1 hB1 hk1 hs1
  refine ops_nil ?_
  refine W_seq ?_
  refine W_region ?_
  refine o_bs0 rfl rfl rfl ?_; intro w2 b2 e2 hB2 hk2 hs2
  refine o_ast rfl ?_
  refine ops_nil ?_
  refine W_seq ?_
  refine W_seq ?_
  refine W_region ?_
  refine o_asc rfl ?_
  refine ops_nil ?_
  refine W_block ?_
  refine W_loop [3, 4] [3, 4, 6, 7, 8, 9, 10, 11, 12, 13, 14, 15, 16, 17, 18, 19, 20] (fun vs w' => ∃ (u : Value) (k : Nat) (vks : List Value), vs = [u, .int .i64 k] ∧ k ≤ L.length ∧ vks.length = k ∧ Own w' 53 1 u k vks ∧ (∀ (i : Nat) (y : Value) (x : Bk), vks[i]? = some y → L[i]? = some x → By w' y x.val) ∧ (∀ y ∈ vks, InB (fun z => some z ≠ u.ownBlock) y) ∧ InB (fun z => w1.heap.size ≤ z) u ∧ Keep All w1 w') (fun vs _ => match vs with | [_, .int _ y] => L.length - y.toNat | _ => 0) ⟨.slice (some ⟨b2, 0, none⟩) 0 0, 0, [], rfl, Nat.zero_le _, rfl, Own.blk (n := 0) hB2 rfl (Nat.zero_le _), (fun i y x h => by cases h), (fun y hy => by cases hy), (fun z hz => by obtain rfl : b2 = z := Option.some.inj hz; omega), hk2⟩ ?_
  rintro J3 vs w3 ⟨u, k, vks, rfl, hk, hvl, hO, hby, hdis, hin, hkA⟩ -
  refine W_seq ?_
  refine W_seq ?_
  refine W_region ?_
  refine o_mvt rfl ?_
  refine o_mvt rfl ?_
  refine op_run (r_len rfl rfl rfl) rfl ?_
  refine op_run (r_lss rfl rfl) rfl ?_
  refine ops_nil ?_
  refine W_cond_p rfl (fun h4 => ?_) (fun h4 => ?_)
  · refine W_skip ?_
    refine W_seq ?_
    refine W_block ?_
    refine W_region ?_
    refine o_mvt rfl ?_
    refine o_bs0 rfl rfl rfl ?_; intro w5 b5 e5 hB5 hk5 hs5
    refine o_mvt rfl ?_
    refine o_mvt rfl ?_
    have hkl : k < L.length := by omega
    obtain ⟨bp, op, rfl, hcell⟩ := rows_at' (i := k) blkR_len hv hkl (by decide)
    obtain ⟨x, hx⟩ : ∃ x, x = L[k] := ⟨_, rfl⟩
    rw [← hx] at hcell
    have hxl := x.2
    have hzA := hkA.size
    have hS5 : By w5 (.slice (some ⟨bp, op + k * 48, none⟩) 48 48) x.val := by
      have h := By.of_at (w := w5) (b := bp) (off := op + k * 48) (c := 48) (bs := x.val) (fun j u hj => by have h := hcell j u hj; rw [Addr.add_lit] at h; exact ((hk1.trans hkA).trans hk5).cell h trivial) (by omega) (by unfold maxLen; omega)
      rwa [hxl] at h
    refine op_run (r_idxS rfl rfl rfl ti_bk (by omega) (by omega)) rfl ?_
    refine op_run (r_sliceA rfl rfl rfl) rfl ?_
    refine o_appS (v := .slice (some ⟨b5, 0, none⟩) 0 0) (m := 0) (xs := []) rfl rfl hS5 rfl ti_u8 rfl rfl (Own.blk (n := 0) hB5 rfl (Nat.zero_le _)) (all_c8 _) (by unfold maxLen; omega) (by omega) rfl ?_; intro v7 w7 hown7 hk7 hb7
    have hown7 : OwnB w7 5 v7 x.val := by have h := OwnB.app (xs := []) hown7; exact h
    have hk7' : Keep (fun z => z ≠ b5) w3 w7 := hk5.all.trans (hk7.mono fun z _ h e => h (by have e : some z = some b5 := e; injection e))
    have hk37 : Keep All w3 w7 := hk5.own hk7 (fun z hz _ => by obtain rfl : b5 = z := Option.some.inj hz; omega)
    have hus : ∀ z, u.ownBlock = some z → z < w3.heap.size := fun z hz => hO.lt z hz
    have hv7 : ∀ z, v7.ownBlock = some z → w3.heap.size ≤ z := fun z hz => by
      rcases hb7 z hz with h | h
      · obtain rfl : b5 = z := Option.some.inj h; omega
      · have := hk5.size; omega
    have hO7 : Own w7 53 1 u k vks := hO.keep hk7' (fun z hz e => by have := hus z hz; omega)
    have hby7 : ∀ (i : Nat) (y : Value) (x : Bk), vks[i]? = some y → L[i]? = some x → By w7 y x.val := fun i y x h1 h2 => Sl.keepE (hby i y x h1 h2) hk7' (fun z hz e => by omega)
    obtain ⟨a7, c7, rfl, hc7, hcm7⟩ := hown7.form
    refine o_bs1 (v := _) rfl rfl rfl rfl rfl rfl ?_; intro w8 b8 e8 hB8 hk8 hs8
    have hS8 : Sl w8 (.slice (some ⟨b8, 0, none⟩) 1 1) 1 1 [Value.slice a7 x.val.length c7] := (Own.blk (n := 1) (sz := 1) hB8 rfl (by unfold maxLen; omega)).sl
    refine o_appS (v := u) rfl rfl hS8 rfl ti_bss' rfl rfl (hO7.keep hk8 (fun _ _ => trivial)) rfl (by unfold maxLen; omega) (by omega) rfl ?_; intro v9 w9 hown9 hk9 hb9
    have hz7 := hk37.size
    have hz8 := hk8.size
    have hd7 : InB (fun z => some z ≠ u.ownBlock) (Value.slice a7 x.val.length c7) := fun z hz e => by have := hv7 z hz; have := hus z e.symm; omega
    have hbn : ∀ y ∈ vks ++ [Value.slice a7 x.val.length c7], InB (fun z => some z ≠ u.ownBlock) y ∧ InB (fun z => z < w8.heap.size) y := fun y hy => by
      rcases List.mem_append.1 hy with h | h
      · obtain ⟨i, hi, he⟩ := List.mem_iff_getElem.1 h
        obtain ⟨x2, hx2⟩ : ∃ x2, L[i]? = some x2 := ⟨_, List.getElem?_eq_getElem (by omega)⟩
        have h3 := (hby i y x2 (by rw [List.getElem?_eq_getElem hi, he]) hx2).ltE (by intro e; have := x2.2; rw [e] at this; cases this)
        exact ⟨hdis y h, fun z hz => by have := h3 z hz; omega⟩
      · obtain rfl := List.mem_singleton.1 h
        exact ⟨hd7, fun z hz => by have := (OwnB.by_ hown7).ltE (by intro e; rw [e] at hxl; cases hxl) z hz; omega⟩
    refine o_ast rfl ?_
    refine ops_nil ?_
    refine W_region ?_
    refine o_mvt rfl ?_
    refine op_run (r_add rfl rfl) rfl ?_
    refine o_ast rfl ?_
    refine ops_nil ?_
    have hinc := inc64' k (by omega)
    refine ⟨by (repeat (first | with_reducible exact offM_refl _ _ | refine offM_updc rfl ?_ | refine offM_upd rfl ?_ | refine offM_updo rfl ?_ | refine offM_updo_none ?_ | refine offM_head rfl rfl ?_)), ⟨v9, k + 1, vks ++ [Value.slice a7 x.val.length c7], congrArg (fun z : Int => [v9, Value.int .i64 z]) hinc, by omega, by rw [List.length_append, hvl]; rfl, hown9, fun i y x' h1 h2 => ?_, fun y hy z hz e => ?_, fun z hz => ?_, ((hkA.trans hk37).trans hk8).own hk9 (fun z hz _ => hin z hz)⟩, ?_⟩
    · refine Sl.keep (w := w8) ?_ hk9 (hbn y (List.mem_of_getElem? h1)).1
      by_cases hik : i < k
      · rw [List.getElem?_append_left (by omega)] at h1
        exact (hby7 i y x' h1 h2).k hk8
      · have hi1 := (List.getElem?_eq_some_iff.1 h1).1
        rw [List.length_append, hvl] at hi1
        simp only [List.length_cons, List.length_nil] at hi1
        obtain rfl : i = k := by omega
        rw [List.getElem?_append_right (by omega), hvl, Nat.sub_self] at h1
        injection h1 with h1; subst h1
        rw [List.getElem?_eq_getElem hkl, ← hx] at h2
        injection h2 with h2; subst h2
        exact (OwnB.by_ hown7).k hk8
    · rcases hb9 z e.symm with h | h
      · exact (hbn y hy).1 z hz h.symm
      · have := (hbn y hy).2 z hz; omega
    · rcases hb9 z hz with h | h
      · exact hin z h
      · omega
    · show L.length - (IntKind.i64.wrap ((k : Int) + 1)).toNat < L.length - (k : Int).toNat
      rw [hinc]; omega
  · refine W_exit ?_
    refine W_seq ?_
    refine W_region ?_
    refine o_mvt rfl ?_
    have hke : k = L.length := by omega
    have hrow : SlR w3 u 1 (RowB w3) (L.map (·.val)) := RowsV.slR (vks := vks) ⟨by rw [List.length_map]; omega, by rw [List.length_map, ← hke]; exact hO.sl, fun i y x h1 h2 => by
      rw [List.getElem?_map] at h2
      obtain ⟨s, hs, rfl⟩ := Option.map_eq_some_iff.1 h2
      exact hby i y s h1 hs⟩
    refine op_call rfl rfl rfl (rf_Root L.length w3 u (L.map (·.val)) (by simp) hrow (fun p hp => by obtain ⟨s, _, rfl⟩ := List.mem_map.1 hp; rw [s.2]; decide)) ?_; rintro v11 w11 ⟨rfl, hk11⟩
    refine o_storeA (cs := dgR (rootB L)) rfl rfl (by first | rfl | exact binV_one _ | exact dgR_one _ | exact refR_one _ | exact secR_one _ | exact all_c8 _) (by first | rfl | (rw [binV_len]; rfl) | (rw [dgR_len]; rfl) | (rw [refR_len]; rfl) | (rw [secR_len]; rfl) | (rw [List.length_map, tagF_len]; rfl)) (hk11.blk' (hkA.blk' hB1 trivial) trivial) (by exact Nat.le_of_eq (by simp [dgR_len])) rfl ?_; intro w12 hB12 hk12 hs12
    have hB12 : Blk w12 b1 (dgR (rootB L)) 29 := by
      have h := hB12
      rwa [splice_all (by simp [dgR_len])] at h
    refine ops_nil ?_
    refine W_ret ?_
    refine retA (dgR (rootB L)) rfl rfl rfl rfl (by first | rfl | (rw [binV_len]; rfl) | (rw [dgR_len]; rfl) | (rw [refR_len]; rfl) | (rw [secR_len]; rfl) | (rw [List.length_map, tagF_len]; rfl)) hB12.all ?_
    exact ⟨rfl, (((hk1.trans hkA).trans hk11).new hk12 (by omega))⟩
theorem rf10_Laid (w : World) (x : Bk) : Ret Try.prog 12 [.agg (blkR x).toArray].toArray w fun r w' => r = .agg (secR (padB x)).toArray ∧ Keep All w w' := by
  have hxl := x.2
  refine enter (fn := Try.f12) (n := 16) Try.func12 rfl rfl (by simp) ?_
  refine W_seq ?_
  refine W_region ?_
  refine o_box rfl rfl rfl ?_; intro w1 b1 e1 hB1 hk1 hs1
  have hB1 : Blk w1 b1 (blkR x) 40 := hB1
  refine o_alloc rfl rfl rfl ?_; intro w2 b2 e2 hB2 hk2 hs2
  refine ops_nil ?_
  refine W_seq ?_
  refine W_region ?_
  refine op_run (r_buildA ((List.replicate 64 (c8 0))) (_) ([]) rfl rfl rfl rfl rfl (rfl)) rfl ?_
  refine o_alloc rfl rfl rfl ?_; intro w4 b4 e4 hB4 hk4 hs4
  refine o_storeA (cs := List.replicate 64 (c8 0)) rfl rfl (by first | rfl | exact binV_one _ | exact dgR_one _ | exact refR_one _ | exact secR_one _ | exact all_c8 _) (by first | rfl | (rw [binV_len]; rfl) | (rw [dgR_len]; rfl) | (rw [refR_len]; rfl) | (rw [secR_len]; rfl) | (rw [List.length_map, tagF_len]; rfl)) hB4 (by exact Nat.le_refl _) rfl ?_; intro w5 hB5 hk5 hs5
  have hB5 : Blk w5 b4 (secR (padS (x.val.take 0))) 37 := by
    have h := hB5
    rw [splice_all (by simp)] at h
    rw [List.take_zero, padS_nil]; exact h
  have hz2 := hk2.size
  have hk25 : Keep All w2 w5 := hk4.new hk5 (by omega)
  refine ops_nil ?_
  refine W_seq ?_
  refine W_seq ?_
  refine W_region ?_
  refine o_asc rfl ?_
  refine ops_nil ?_
  refine W_block ?_
  refine W_loop [4] [4, 6, 7, 8, 9, 10, 11, 12, 13, 14] (fun vs w' => ∃ k : Nat, vs = [.int .i64 k] ∧ k ≤ 48 ∧ Blk w' b4 (secR (padS (x.val.take k))) 37 ∧ Keep All w2 w') (fun vs _ => match vs with | [.int _ k] => 48 - k.toNat | _ => 0) ⟨0, rfl, Nat.zero_le _, hB5, hk25⟩ ?_
  rintro J6 vs w6 ⟨k, rfl, hk, hBk, hk26⟩ -
  refine W_seq ?_
  refine W_seq ?_
  refine W_region ?_
  refine o_mvt rfl ?_
  refine op_run (r_lss rfl rfl) rfl ?_
  refine ops_nil ?_
  refine W_cond_p rfl (fun h7 => ?_) (fun h7 => ?_)
  · refine W_skip ?_
    refine W_seq ?_
    refine W_block ?_
    refine W_region ?_
    refine o_mvt rfl ?_
    refine o_mvt rfl ?_
    have hk48 : k < 48 := by omega
    obtain ⟨y, hy⟩ : ∃ y, x.val[k]? = some y := ⟨_, List.getElem?_eq_getElem (by omega)⟩
    refine op_run (r_idxA1 rfl rfl rfl rfl (by omega) (by omega)) rfl ?_
    refine op_run (r_load rfl rfl rfl ((hk26.blk' (hk2.blk' hB1 trivial) trivial).cell (show (blkR x)[0 + ((k : Nat) : Int).toNat]? = some (c8 y) by rw [Int.toNat_natCast, Nat.zero_add]; unfold blkR; rw [List.getElem?_map, hy]; rfl))) rfl ?_
    refine op_run (r_idxA1 rfl rfl rfl rfl (by omega) (by omega)) rfl ?_
    refine o_store (v := c8 y) rfl rfl rfl rfl hBk (by rw [secR_len, Int.toNat_natCast]; omega) rfl ?_; intro w11 hB11 hk11 hs11
    have hB11 : Blk w11 b4 (secR (padS (x.val.take (k + 1)))) 37 := by
      have h : Blk w11 b4 ((secR (padS (x.val.take k))).set (0 + ((k : Nat) : Int).toNat) (c8 y)) 37 := hB11
      rw [Int.toNat_natCast, Nat.zero_add, padS_set (by omega) hy] at h; exact h
    have hinc := inc64' k (by omega)
    refine ops_nil ?_
    refine W_region ?_
    refine o_mvt rfl ?_
    refine op_run (r_add rfl rfl) rfl ?_
    refine o_ast rfl ?_
    refine ops_nil ?_
    refine ⟨by (repeat (first | with_reducible exact offM_refl _ _ | refine offM_updc rfl ?_ | refine offM_upd rfl ?_ | refine offM_updo rfl ?_ | refine offM_updo_none ?_ | refine offM_head rfl rfl ?_)), ⟨k + 1, congrArg (fun z : Int => [Value.int .i64 z]) hinc, by omega, hB11, hk26.new hk11 (by omega)⟩, ?_⟩
    show 48 - (IntKind.i64.wrap ((k : Int) + 1)).toNat < 48 - (k : Int).toNat
    rw [hinc]; omega
  · refine W_exit ?_
    refine W_seq ?_
    refine W_region ?_
    have hke : k = 48 := by omega
    subst hke
    rw [List.take_of_length_le (by omega)] at hBk
    refine op_run (r_loadA (secR (padB x)) rfl rfl rfl (by first | rfl | (rw [binV_len]; rfl) | (rw [dgR_len]; rfl) | (rw [refR_len]; rfl) | (rw [secR_len]; rfl) | (rw [List.length_map, tagF_len]; rfl)) (hBk.all)) rfl ?_
    refine o_storeA (cs := secR (padB x)) rfl rfl (by first | rfl | exact binV_one _ | exact dgR_one _ | exact refR_one _ | exact secR_one _ | exact all_c8 _) (by first | rfl | (rw [binV_len]; rfl) | (rw [dgR_len]; rfl) | (rw [refR_len]; rfl) | (rw [secR_len]; rfl) | (rw [List.length_map, tagF_len]; rfl)) (hk26.blk' hB2 trivial) (by exact Nat.le_of_eq (by simp [secR_len])) rfl ?_; intro w14 hB14 hk14 hs14
    have hB14 : Blk w14 b2 (secR (padB x)) 37 := by
      have h := hB14
      rwa [splice_all (by simp [secR_len])] at h
    refine ops_nil ?_
    refine W_ret ?_
    refine retA (secR (padB x)) rfl rfl rfl rfl (by first | rfl | (rw [binV_len]; rfl) | (rw [dgR_len]; rfl) | (rw [refR_len]; rfl) | (rw [secR_len]; rfl) | (rw [List.length_map, tagF_len]; rfl)) hB14.all ?_
    exact ⟨rfl, (((hk1.trans hk2).trans hk26).new hk14 (by have := hk1.size; omega))⟩
theorem rf10_Same (w : World) (v1 v2 : Value) (L M : List Bk) (g1 : Sl w v1 L.length 48 (rows blkR L)) (g2 : Sl w v2 M.length 48 (rows blkR M)) :
    Ret Try.prog 18 [v1, v2].toArray w fun u w' => u = .bool (decide (L = M)) ∧ Keep All w w' := by
  obtain ⟨a0, c0, rfl, hc0, hcm0⟩ := g1.form
  obtain ⟨a1, c1, rfl, hc1, hcm1⟩ := g2.form
  have hm0 : c0 ≤ 9223372036854775807 := hcm0
  refine enter (fn := Try.f18) (n := 26) Try.func18 rfl rfl (by simp) ?_
  refine W_seq ?_
  refine W_region ?_
  refine o_asc rfl ?_
  refine ops_nil ?_
  refine W_seq ?_
  refine W_seq ?_
  refine W_region ?_
  refine o_mvt rfl ?_
  refine op_run (r_len rfl rfl rfl) rfl ?_
  refine o_mvt rfl ?_
  refine op_run (r_len rfl rfl rfl) rfl ?_
  refine op_run (r_neq rfl rfl) rfl ?_
  refine ops_nil ?_
  refine W_cond_p rfl (fun h1 => ?_) (fun h1 => ?_)
  · refine W_seq ?_
    refine W_region ?_
    refine o_asc rfl ?_
    refine ops_nil ?_
    refine W_ret ?_
    refine ret1 (.bool false) rfl ?_ ?_; rfl
    exact ⟨congrArg Value.bool (decide_eq_false fun e => by subst e; omega).symm, Keep.refl _⟩
  · refine W_skip ?_
    refine W_seq ?_
    refine W_seq ?_
    refine W_region ?_
    refine o_asc rfl ?_
    refine ops_nil ?_
    refine W_block ?_
    have hle : L.length = M.length := by omega
    refine W_loop [5] [4, 5, 11, 12, 13, 14, 15, 16, 17, 18, 19, 20, 21, 22, 23, 24, 25] (fun vs w' => ∃ k : Nat, vs = [.int .i64 k] ∧ k ≤ L.length ∧ L.take k = M.take k ∧ Keep All w w') (fun vs _ => match vs with | [.int _ y] => L.length - y.toNat | _ => 0) ⟨0, rfl, Nat.zero_le _, rfl, Keep.refl _⟩ ?_
    rintro J3 vs w3 ⟨k, rfl, hk, htk, hkA⟩ -
    refine W_seq ?_
    refine W_seq ?_
    refine W_region ?_
    refine o_mvt rfl ?_
    refine o_mvt rfl ?_
    refine op_run (r_len rfl rfl rfl) rfl ?_
    refine op_run (r_lss rfl rfl) rfl ?_
    refine ops_nil ?_
    refine W_cond_p rfl (fun h4 => ?_) (fun h4 => ?_)
    · refine W_skip ?_
      refine W_seq ?_
      refine W_block ?_
      refine W_seq ?_
      have hkl : k < L.length := by omega
      have hkl2 : k < M.length := by omega
      obtain ⟨bp, op, e1_, hcell⟩ := rows_at' (i := k) blkR_len (g1.keepE hkA fun _ _ => trivial) hkl (by decide)
      obtain ⟨bq, oq, e2_, hcell2⟩ := rows_at' (i := k) blkR_len (g2.keepE hkA fun _ _ => trivial) hkl2 (by decide)
      cases e1_; cases e2_
      obtain ⟨x, hx⟩ : ∃ x, x = L[k] := ⟨_, rfl⟩
      obtain ⟨y, hy⟩ : ∃ y, y = M[k] := ⟨_, rfl⟩
      rw [← hx] at hcell
      rw [← hy] at hcell2
      refine W_quiet (Keep All w3) (by kernel_rfl) (by kernel_rfl) (Keep.drawn _) ?_
      refine q_mvt rfl ?_
      refine q_mvt rfl ?_
      refine q_run (fun _ _ => r_idxS rfl rfl rfl ti_bk (by omega) (by omega)) rfl ?_
      refine q_run (fun _ hk => r_loadA (blkR x) rfl rfl rfl (by first | rfl | (rw [binV_len]; rfl) | (rw [dgR_len]; rfl) | (rw [refR_len]; rfl) | (rw [secR_len]; rfl) | (rw [List.length_map, tagF_len]; rfl) | (rw [blkR_len]; rfl)) ((by intro j z hj; rw [Int.toNat_natCast]; exact hk.cell (hcell j z hj) trivial))) rfl ?_
      refine q_mvt rfl ?_
      refine q_mvt rfl ?_
      refine q_run (fun _ _ => r_idxS rfl rfl rfl ti_bk (by omega) (by omega)) rfl ?_
      refine q_run (fun _ hk => r_loadA (blkR y) rfl rfl rfl (by first | rfl | (rw [binV_len]; rfl) | (rw [dgR_len]; rfl) | (rw [refR_len]; rfl) | (rw [secR_len]; rfl) | (rw [List.length_map, tagF_len]; rfl) | (rw [blkR_len]; rfl)) ((by intro j z hj; rw [Int.toNat_natCast]; exact hk.cell (hcell2 j z hj) trivial))) rfl ?_
      refine q_run (fun _ _ => (r_neqC (p := x = y) rfl rfl rfl rfl (by kernel_rfl) (okC_bk _) (okC_bk _) rfl (blkR_inj))) rfl ?_
      refine q_nil ?_; intro w11 hk11
      refine W_cond rfl (fun h12 => ?_) (fun h12 => ?_)
      · refine W_seq ?_
        refine W_region ?_
        refine o_asc rfl ?_
        refine ops_nil ?_
        refine W_ret ?_
        refine ret1 (.bool false) rfl ?_ ?_; rfl
        refine ⟨congrArg Value.bool (decide_eq_false fun e => ?_).symm, hkA.trans hk11⟩
        subst e; rw [hx, hy] at h12; simp at h12
      · refine W_skip ?_
        refine W_region ?_
        refine o_mvt rfl ?_
        refine op_run (r_add rfl rfl) rfl ?_
        refine o_ast rfl ?_
        refine ops_nil ?_
        have hinc := inc64' k (by omega)
        have he : L[k] = M[k] := by rw [hx, hy] at h12; simpa using h12
        refine ⟨by (repeat (first | with_reducible exact offM_refl _ _ | refine offM_updc rfl ?_ | refine offM_upd rfl ?_ | refine offM_updo rfl ?_ | refine offM_updo_none ?_ | refine offM_head rfl rfl ?_)), ⟨k + 1, congrArg (fun z : Int => [Value.int .i64 z]) hinc, by omega, by rw [List.take_succ_eq_append_getElem hkl, List.take_succ_eq_append_getElem hkl2, htk, he], hkA.trans hk11⟩, ?_⟩
        show L.length - (IntKind.i64.wrap ((k : Int) + 1)).toNat < L.length - (k : Int).toNat
        rw [hinc]; omega
    · refine W_exit ?_
      refine W_seq ?_
      refine W_region ?_
      refine o_asc rfl ?_
      refine ops_nil ?_
      refine W_ret ?_
      refine ret1 (.bool true) rfl ?_ ?_; rfl
      refine ⟨congrArg Value.bool (decide_eq_true ?_).symm, hkA⟩
      have h := htk
      rw [show k = L.length by omega, List.take_length, hle, List.take_length] at h; exact h
end Go.Proofs.Ytigehkfdfecfoaa.B
