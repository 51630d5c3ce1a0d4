/-
  sporranref08: Less, Find, Drop, Put.
-/
import Derived.Test.YtpiidddccmohdaaDoorTreI
namespace Go.Proofs.YtpiidddccmohdaaDoor.B
open Go
set_option linter.unusedVariables false
set_option maxHeartbeats 2000000
set_option maxRecDepth 100000
attribute [local irreducible] W OpsW OpsQ retP
theorem rf8_Less (w : World) (a b : Dig) : Ret Tryd.prog 22 [.agg (dgR a).toArray, .agg (dgR b).toArray].toArray w fun r w' => r = .bool (lessB a.val b.val) ∧ Keep All w w' := by
  refine enter (fn := Tryd.f22) (n := 24) Tryd.func22 rfl rfl (by simp) ?_
  refine W_seq ?_
  refine W_region ?_
  refine o_box rfl rfl rfl ?_; intro w1 b1 e1 hB1 hk1 hs1
  have hB1 : Blk w1 b1 (dgR a) 23 := hB1
  refine o_box rfl rfl rfl ?_; intro w2 b2 e2 hB2 hk2 hs2
  have hB2 : Blk w2 b2 (dgR b) 23 := hB2
  have ha32 := a.2
  have hb32 := b.2
  refine o_asc rfl ?_
  refine ops_nil ?_
  refine W_seq ?_
  refine W_seq ?_
  refine W_region ?_
  refine o_asc rfl ?_
  refine ops_nil ?_
  refine W_block ?_
  refine W_loop [5] [4, 5, 6, 7, 8, 9, 10, 11, 12, 13, 14, 15, 16, 17, 18, 19, 20, 21, 22, 23] (fun vs w' => ∃ k : Nat, vs = [.int .i64 k] ∧ k ≤ 32 ∧ a.val.take k = b.val.take k ∧ Keep All w2 w') (fun vs _ => match vs with | [.int _ y] => 32 - y.toNat | _ => 0) ⟨0, rfl, Nat.zero_le _, by simp, Keep.refl _⟩ ?_
  rintro J3 vs w3 ⟨k, rfl, hk, htk, hk3⟩ -
  refine W_seq ?_
  refine W_seq ?_
  refine W_region ?_
  refine o_mvt rfl ?_
  refine op_run (r_lss rfl rfl) rfl ?_
  refine ops_nil ?_
  refine W_cond_p rfl (fun h4 => ?_) (fun h4 => ?_)
  · refine W_skip ?_
    refine W_seq ?_
    refine W_block ?_
    refine W_seq ?_
    have hk32 : k < 32 := by omega
    obtain ⟨x, hx⟩ : ∃ x, a.val[k]? = some x := ⟨_, List.getElem?_eq_getElem (by omega)⟩
    obtain ⟨y, hy⟩ : ∃ y, b.val[k]? = some y := ⟨_, List.getElem?_eq_getElem (by omega)⟩
    have hB13 := hk3.blk' (hk2.blk' hB1 trivial) trivial
    have hB23 := hk3.blk' hB2 trivial
    have hgx : (dgR a)[k]? = some (c8 x) := by unfold dgR; rw [List.getElem?_map, hx]; rfl
    have hgy : (dgR b)[k]? = some (c8 y) := by unfold dgR; rw [List.getElem?_map, hy]; rfl
    have hinc := inc64' k (by omega)
    refine W_quiet (Keep All w3) (by kernel_rfl) (by kernel_rfl) (Keep.drawn _) ?_
    refine q_mvt rfl ?_
    refine q_run (fun _ _ => r_idxA1 rfl rfl rfl rfl (by omega) (by omega)) rfl ?_
    refine q_run (fun _ hk => r_load (v := c8 x) rfl rfl rfl (hk.cell (hB13.cell (by rw [Int.toNat_natCast, Nat.zero_add]; exact hgx)) trivial)) rfl ?_
    refine q_mvt rfl ?_
    refine q_run (fun _ _ => r_idxA1 rfl rfl rfl rfl (by omega) (by omega)) rfl ?_
    refine q_run (fun _ hk => r_load (v := c8 y) rfl rfl rfl (hk.cell (hB23.cell (by rw [Int.toNat_natCast, Nat.zero_add]; exact hgy)) trivial)) rfl ?_
    refine q_run (fun _ _ => (r_neq rfl rfl)) rfl ?_
    refine q_nil ?_; intro w10 hk10
    refine W_cond_p rfl (fun h11 => ?_) (fun h11 => ?_)
    · refine W_seq ?_
      refine W_quiet (Keep All w10) (by kernel_rfl) (by kernel_rfl) (Keep.drawn _) ?_
      refine q_mvt rfl ?_
      refine q_run (fun _ _ => r_idxA1 rfl rfl rfl rfl (by omega) (by omega)) rfl ?_
      refine q_run (fun _ hk => r_load (v := c8 x) rfl rfl rfl (hk.cell ((hk10.blk' hB13 trivial).cell (by rw [Int.toNat_natCast, Nat.zero_add]; exact hgx)) trivial)) rfl ?_
      refine q_mvt rfl ?_
      refine q_run (fun _ _ => r_idxA1 rfl rfl rfl rfl (by omega) (by omega)) rfl ?_
      refine q_run (fun _ hk => r_load (v := c8 y) rfl rfl rfl (hk.cell ((hk10.blk' hB23 trivial).cell (by rw [Int.toNat_natCast, Nat.zero_add]; exact hgy)) trivial)) rfl ?_
      refine q_run (fun _ _ => (r_lss rfl rfl)) rfl ?_
      refine q_ast rfl ?_
      refine q_nil ?_; intro w17 hk17
      refine W_ret ?_
      refine ret1 (.bool (decide ((x.toNat : Int) < (y.toNat : Int)))) rfl ?_ ?_; rfl
      refine ⟨congrArg Value.bool ?_, (((hk1.trans hk2).trans hk3).trans hk10).trans hk17⟩
      rw [lessB_at k a.val b.val x y htk hx hy (fun e => h11 (by rw [e])), decide_eq_decide]; omega
    · refine W_skip ?_
      refine W_region ?_
      refine o_mvt rfl ?_
      refine op_run (r_add rfl rfl) rfl ?_
      refine o_ast rfl ?_
      refine ops_nil ?_
      have hxy : x = y := UInt8.toNat_inj.1 (by have := Decidable.not_not.1 h11; omega)
      refine ⟨by (repeat (first | with_reducible exact offM_refl _ _ | refine offM_updc rfl ?_ | refine offM_upd rfl ?_ | refine offM_updo rfl ?_ | refine offM_updo_none ?_ | refine offM_head rfl rfl ?_)), ⟨k + 1, congrArg (fun z : Int => [Value.int .i64 z]) hinc, by omega, ?_, hk3.trans hk10⟩, ?_⟩
      · rw [List.take_succ_eq_append_getElem (by omega), List.take_succ_eq_append_getElem (by omega), htk, (List.getElem?_eq_some_iff.1 hx).2, (List.getElem?_eq_some_iff.1 hy).2, hxy]
      · show 32 - (IntKind.i64.wrap ((k : Int) + 1)).toNat < 32 - (k : Int).toNat
        rw [hinc]; omega
  · refine W_exit ?_
    refine W_seq ?_
    refine W_region ?_
    refine o_asc rfl ?_
    refine ops_nil ?_
    refine W_ret ?_
    refine ret1 (.bool false) rfl ?_ ?_; rfl
    have hke : k = 32 := by omega
    subst hke
    rw [List.take_of_length_le (by omega), List.take_of_length_le (by omega)] at htk
    exact ⟨by rw [htk, lessB_self], (hk1.trans hk2).trans hk3⟩
theorem findI_drop (key : Dig) : ∀ (l : List It) (k i : Nat) (y : It), l[k]? = some y → y.1 ≠ key → findI key (l.drop k) i = findI key (l.drop (k + 1)) (i + 1)
  | x :: l, 0, i, y, h, hne => by
    simp at h; subst h
    show (if x.1 = key then (i : Int) else findI key l (i + 1)) = _
    rw [if_neg hne]; rfl
  | x :: l, k + 1, i, y, h, hne => findI_drop key l k i y (by simpa using h) hne
  | [], k, i, y, h, hne => by cases h
theorem findI_hit (key : Dig) : ∀ (l : List It) (k i : Nat) (y : It), l[k]? = some y → y.1 = key → findI key (l.drop k) i = i
  | x :: l, 0, i, y, h, he => by
    simp at h; subst h
    show (if x.1 = key then (i : Int) else findI key l (i + 1)) = _
    rw [if_pos he]
  | x :: l, k + 1, i, y, h, he => findI_hit key l k i y (by simpa using h) he
  | [], k, i, y, h, he => by cases h
theorem ti_it : tinfo Tryd.prog 45 = some (some (.agg (List.replicate 32 (c8 0) ++ [Value.slice none 0 0]).toArray), 33, 56) := by kernel_rfl
theorem itR_dg {w : World} {b off : Nat} {y : It} {vv : Value} (hc : ∀ (j : Nat) (u : Value), (itR (y.1, vv))[j]? = some u → w.cell? ((⟨b, off, none⟩ : Addr).add j) = some u) : ∀ (j : Nat) (u : Value), (dgR y.1)[j]? = some u → w.cell? ((⟨b, off, none⟩ : Addr).add j) = some u := fun j u hj => hc j u (by
  unfold itR; rw [List.getElem?_append_left (List.getElem?_eq_some_iff.1 hj).1]; exact hj)
theorem rf8_Find (w : World) (v : Value) (l : List It) (key : Dig) (hv : ItIn w v l) (hl : l.length ≤ 2 ^ 40) : Ret Tryd.prog 14 [v, .agg (dgR key).toArray].toArray w fun r w' => r = .int .i64 (findI key l 0) ∧ Keep All w w' := by
  obtain ⟨a0, c0, rfl, hc0, hcm0⟩ := hv.form
  refine enter (fn := Tryd.f14) (n := 20) Tryd.func14 rfl rfl (by simp) ?_
  refine W_seq ?_
  refine W_region ?_
  refine o_box rfl rfl rfl ?_; intro w1 b1 e1 hB1 hk1 hs1
  have hB1 : Blk w1 b1 (dgR key) 23 := hB1
  refine o_asc rfl ?_
  refine ops_nil ?_
  refine W_seq ?_
  refine W_seq ?_
  refine W_region ?_
  refine o_asc rfl ?_
  refine ops_nil ?_
  refine W_block ?_
  refine W_loop [5] [4, 5, 6, 7, 8, 9, 10, 11, 12, 13, 14, 15, 16, 17, 18, 19] (fun vs w' => ∃ k : Nat, vs = [.int .i64 k] ∧ k ≤ l.length ∧ findI key l 0 = findI key (l.drop k) k ∧ Keep All w1 w') (fun vs _ => match vs with | [.int _ y] => l.length - y.toNat | _ => 0) ⟨0, rfl, Nat.zero_le _, rfl, Keep.refl _⟩ ?_
  rintro J2 vs w2 ⟨k, rfl, hk, hf, hk2⟩ -
  refine W_seq ?_
  refine W_seq ?_
  refine W_region ?_
  refine o_mvt rfl ?_
  refine o_mvt rfl ?_
  refine op_run (r_len rfl rfl rfl) rfl ?_
  refine op_run (r_lss rfl rfl) rfl ?_
  refine ops_nil ?_
  refine W_cond_p rfl (fun h3 => ?_) (fun h3 => ?_)
  · refine W_skip ?_
    refine W_seq ?_
    refine W_block ?_
    refine W_seq ?_
    have hkl : k < l.length := by omega
    obtain ⟨y, hy⟩ : ∃ y, l[k]? = some y := ⟨_, List.getElem?_eq_getElem hkl⟩
    obtain ⟨b, off, c, vv, ev_, hby, hc⟩ := (hv.k (hk1.trans hk2)).at hy
    cases ev_
    have hinc := inc64' k (by omega)
    refine W_quiet (Keep All w2) (by kernel_rfl) (by kernel_rfl) (Keep.drawn _) ?_
    refine q_mvt rfl ?_
    refine q_mvt rfl ?_
    refine q_run (fun _ _ => r_idxS rfl rfl rfl rfl (by omega) (by omega)) rfl ?_
    refine q_run (fun _ _ => (r_fieldAddr rfl rfl rfl rfl rfl)) rfl ?_
    refine q_run (fun _ hk => r_loadA (dgR y.1) rfl rfl rfl (by first | rfl | (rw [binV_len]; rfl) | (rw [dgR_len]; rfl) | (rw [refR_len]; rfl) | (rw [secR_len]; rfl) | (rw [List.length_map, tagF_len]; rfl) | (rw [dgR_len]; rfl)) ((fun j u hj => by rw [Int.toNat_natCast]; exact hk.cell (itR_dg hc j u hj) trivial))) rfl ?_
    refine q_run (fun _ hk => r_loadA (dgR key) rfl rfl rfl (by first | rfl | (rw [binV_len]; rfl) | (rw [dgR_len]; rfl) | (rw [refR_len]; rfl) | (rw [secR_len]; rfl) | (rw [List.length_map, tagF_len]; rfl) | (rw [dgR_len]; rfl)) ((hk.blk' (hk2.blk' hB1 trivial) trivial).all)) rfl ?_
    refine q_run (fun _ _ => (r_eqlC (p := y.1 = key) rfl rfl rfl rfl (by kernel_rfl) (okC_dgR _) (okC_dgR _) rfl (dgR_inj))) rfl ?_
    refine q_nil ?_; intro w9 hk9
    refine W_cond_p rfl (fun h10 => ?_) (fun h10 => ?_)
    · refine W_seq ?_
      refine W_region ?_
      refine o_mvt rfl ?_
      refine o_ast rfl ?_
      refine ops_nil ?_
      refine W_ret ?_
      refine ret1 (.int .i64 k) rfl ?_ ?_; rfl
      exact ⟨by rw [hf, findI_hit key l k k y hy h10], (hk1.trans hk2).trans hk9⟩
    · refine W_skip ?_
      refine W_region ?_
      refine o_mvt rfl ?_
      refine op_run (r_add rfl rfl) rfl ?_
      refine o_ast rfl ?_
      refine ops_nil ?_
      refine ⟨by (repeat (first | with_reducible exact offM_refl _ _ | refine offM_updc rfl ?_ | refine offM_upd rfl ?_ | refine offM_updo rfl ?_ | refine offM_updo_none ?_ | refine offM_head rfl rfl ?_)), ⟨k + 1, congrArg (fun z : Int => [Value.int .i64 z]) hinc, by omega, by rw [hf, findI_drop key l k k y hy h10], hk2.trans hk9⟩, ?_⟩
      show l.length - (IntKind.i64.wrap ((k : Int) + 1)).toNat < l.length - (k : Int).toNat
      rw [hinc]; omega
  · refine W_exit ?_
    refine W_seq ?_
    refine W_region ?_
    refine o_asc rfl ?_
    refine ops_nil ?_
    refine W_ret ?_
    refine ret1 (.int .i64 (-1)) rfl ?_ ?_; rfl
    have hke : k = l.length := by omega
    exact ⟨by rw [hf, hke, List.drop_length]; rfl, hk1.trans hk2⟩
theorem rf8_Drop (w : World) (v : Value) (l : List It) (key : Dig) (hv : ItIn w v l) (hl : l.length ≤ 2 ^ 20) : Ret Tryd.prog 12 [v, .agg (dgR key).toArray].toArray w fun r w' => Out w w' r (dropI l key) := by
  obtain ⟨a0, c0, rfl, hc0, hcm0⟩ := hv.form
  refine enter (fn := Tryd.f12) (n := 29) Tryd.func12 rfl rfl (by simp) ?_
  refine W_seq ?_
  refine W_region ?_
  refine o_box rfl rfl rfl ?_; intro w1 b1 e1 hB1 hk1 hs1
  have hB1 : Blk w1 b1 (dgR key) 23 := hB1
  refine o_asc rfl ?_
  refine ops_nil ?_
  refine W_seq ?_
  refine W_region ?_
  refine o_bs0 rfl rfl rfl ?_; intro w2 b2 e2 hB2 hk2 hs2
  refine o_ast rfl ?_
  refine ops_nil ?_
  refine W_seq ?_
  refine W_seq ?_
  refine W_region ?_
  refine o_asc rfl ?_
  refine ops_nil ?_
  refine W_block ?_
  refine W_loop [5, 6] [5, 6, 8, 9, 10, 11, 12, 13, 14, 15, 16, 17, 18, 19, 20, 21, 22, 23, 24, 25, 26, 27] (fun vs w' => ∃ (k : Nat) (u : Value), vs = [u, .int .i64 k] ∧ k ≤ l.length ∧ Out w w' u (dropI (l.take k) key) ∧ Blk w' b1 (dgR key) 23 ∧ InB (fun z => z ≠ b1) u) (fun vs _ => match vs with | [_, .int _ y] => l.length - y.toNat | _ => 0) ⟨0, .slice (some ⟨b2, 0, none⟩) 0 0, rfl, Nat.zero_le _, ⟨[], Own.blk (n := 0) (sz := 33) hB2 rfl (Nat.zero_le _), trivial, fun z hz => by have : b2 = z := Option.some.inj hz; have := hk1.size; omega, hk1.trans hk2⟩, hk2.blk' hB1 trivial, fun z hz => by have : b2 = z := Option.some.inj hz; omega⟩ ?_
  rintro J3 vs w3 ⟨k, u, rfl, hk, hO, hB1k, hub⟩ -
  refine W_seq ?_
  refine W_seq ?_
  refine W_region ?_
  refine o_mvt rfl ?_
  refine o_mvt rfl ?_
  refine op_run (r_len rfl rfl rfl) rfl ?_
  refine op_run (r_lss rfl rfl) rfl ?_
  refine ops_nil ?_
  refine W_cond_p rfl (fun h4 => ?_) (fun h4 => ?_)
  · refine W_skip ?_
    refine W_seq ?_
    refine W_block ?_
    refine W_seq ?_
    have hkl : k < l.length := by omega
    obtain ⟨y, hy⟩ : ∃ y, l[k]? = some y := ⟨_, List.getElem?_eq_getElem hkl⟩
    obtain ⟨its0, hits1, hits2⟩ := hv
    obtain ⟨vv, hvx, hvb⟩ := hits2.get hy
    have hv : ItIn w (.slice a0 l.length c0) l := ⟨its0, hits1, hits2⟩
    have hkw3 := hO
    obtain ⟨its, hO1, hO2, hO3, hO4⟩ := hO
    have hlen : (dropI (l.take k) key).length ≤ k := by have := dropI_len (l.take k) key; rw [List.length_take] at this; omega
    have htk : l.take (k + 1) = l.take k ++ [y] := by rw [List.take_succ_eq_append_getElem hkl, (List.getElem?_eq_some_iff.1 hy).2]
    have hl0 := hits2.len
    obtain ⟨hkl0, hxe⟩ := List.getElem?_eq_some_iff.1 hvx
    rw [← hl0] at hits1
    obtain ⟨b, off, ea_, hc⟩ := rows_at' itR_len hits1 hkl0 (by decide)
    rw [hxe] at hc
    subst ea_
    have hinc := inc64' k (by omega)
    refine W_quiet (Keep All w3) (by kernel_rfl) (by kernel_rfl) (Keep.drawn _) ?_
    refine q_mvt rfl ?_
    refine q_mvt rfl ?_
    refine q_run (fun _ _ => r_idxS rfl rfl rfl rfl (by omega) (by omega)) rfl ?_
    refine q_run (fun _ _ => (r_fieldAddr rfl rfl rfl rfl rfl)) rfl ?_
    refine q_run (fun _ hk => r_loadA (dgR y.1) rfl rfl rfl (by first | rfl | (rw [binV_len]; rfl) | (rw [dgR_len]; rfl) | (rw [refR_len]; rfl) | (rw [secR_len]; rfl) | (rw [List.length_map, tagF_len]; rfl) | (rw [dgR_len]; rfl) | (rw [itR_len]; rfl)) ((fun j u hj => by rw [Int.toNat_natCast]; exact hk.cell (hO4.cell (itR_dg hc j u hj) trivial) trivial))) rfl ?_
    refine q_run (fun _ hk => r_loadA (dgR key) rfl rfl rfl (by first | rfl | (rw [binV_len]; rfl) | (rw [dgR_len]; rfl) | (rw [refR_len]; rfl) | (rw [secR_len]; rfl) | (rw [List.length_map, tagF_len]; rfl) | (rw [dgR_len]; rfl) | (rw [itR_len]; rfl)) ((hk.blk' hB1k trivial).all)) rfl ?_
    refine q_run (fun _ _ => (r_neqC (p := y.1 = key) rfl rfl rfl rfl (by kernel_rfl) (okC_dgR _) (okC_dgR _) rfl (dgR_inj))) rfl ?_
    refine q_nil ?_; intro w10 hk10
    refine W_cond rfl (fun h11 => ?_) (fun h11 => ?_)
    · refine W_region ?_
      refine o_mvt rfl ?_
      refine o_mvt rfl ?_
      refine o_mvt rfl ?_
      refine op_run (r_idxS rfl rfl rfl rfl (by omega) (by omega)) rfl ?_
      refine op_run (r_loadA (itR (y.1, vv)) rfl rfl rfl (by first | rfl | (rw [binV_len]; rfl) | (rw [dgR_len]; rfl) | (rw [refR_len]; rfl) | (rw [secR_len]; rfl) | (rw [List.length_map, tagF_len]; rfl) | (rw [dgR_len]; rfl) | (rw [itR_len]; rfl)) ((fun j u hj => by rw [Int.toNat_natCast]; exact (hO4.trans hk10).cell (hc j u hj) trivial))) rfl ?_
      refine o_bsA1 (itR (y.1, vv)) rfl rfl (by rw [itR_len]; exact ti_it) (by rw [itR_len]; rfl) (by rw [itR_len]; decide) rfl ?_; intro w14 b14 e14 hB14 hk14 hs14
      refine o_app (v := u) (c := 1) (m := (dropI (l.take k) key).length) (itR (y.1, vv)) rfl rfl rfl ti_it rfl (by decide) (hO1.keep (hk10.trans hk14) (fun _ _ => trivial)) (by rw [itR_len]) hB14.all (itR_one (Sl.oneI hvb)) (by unfold maxLen; omega) (by omega) rfl ?_; intro v15 w15 hown15 hk15 hb15
      refine o_ast rfl ?_
      refine ops_nil ?_
      refine W_region ?_
      refine o_mvt rfl ?_
      refine op_run (r_add rfl rfl) rfl ?_
      refine o_ast rfl ?_
      refine ops_nil ?_
      have e : dropI (l.take (k + 1)) key = dropI (l.take k) key ++ [y] := by rw [htk]; unfold dropI; rw [List.filter_append, List.filter_cons, if_pos (by simpa using h11)]; rfl
      refine ⟨by (repeat (first | with_reducible exact offM_refl _ _ | refine offM_updc rfl ?_ | refine offM_upd rfl ?_ | refine offM_updo rfl ?_ | refine offM_updo_none ?_ | refine offM_head rfl rfl ?_)), ⟨k + 1, v15, congrArg (fun z : Int => [v15, Value.int .i64 z]) hinc, by omega, ?_, ?_, ?_⟩, ?_⟩
      · rw [e]; exact Out.app (k := y.1) (b := y.2) hO2 hO3 hO4 hvb (hk10.trans hk14) hown15 hk15 hb15
      · exact hk15.blk' ((hk10.trans hk14).blk' hB1k trivial) (fun e => hub b1 e.symm rfl)
      · intro z hz
        rcases hb15 z hz with h | h
        · exact hub z h
        · have := hB1k.lt; have := (hk10.trans hk14).size; omega
      · show l.length - (IntKind.i64.wrap ((k : Int) + 1)).toNat < l.length - (k : Int).toNat
        rw [hinc]; omega
    · refine W_skip ?_
      refine W_region ?_
      refine o_mvt rfl ?_
      refine op_run (r_add rfl rfl) rfl ?_
      refine o_ast rfl ?_
      refine ops_nil ?_
      have e : dropI (l.take (k + 1)) key = dropI (l.take k) key := by rw [htk]; unfold dropI; rw [List.filter_append, List.filter_cons, if_neg (by simpa using h11)]; simp
      refine ⟨by (repeat (first | with_reducible exact offM_refl _ _ | refine offM_updc rfl ?_ | refine offM_upd rfl ?_ | refine offM_updo rfl ?_ | refine offM_updo_none ?_ | refine offM_head rfl rfl ?_)), ⟨k + 1, u, congrArg (fun z : Int => [u, Value.int .i64 z]) hinc, by omega, by rw [e]; exact hkw3.k hk10, hk10.blk' hB1k trivial, hub⟩, ?_⟩
      show l.length - (IntKind.i64.wrap ((k : Int) + 1)).toNat < l.length - (k : Int).toNat
      rw [hinc]; omega
  · refine W_exit ?_
    refine W_seq ?_
    refine W_region ?_
    refine o_mvt rfl ?_
    refine o_ast rfl ?_
    refine ops_nil ?_
    refine W_ret ?_
    refine ret1 u rfl ?_ ?_; rfl
    have hke : k = l.length := by omega
    rw [hke, List.take_length] at hO
    exact hO
theorem fill_it {pl : List (Nat × Nat)} {zl : List Value} {d : Dig} {v : Value} (hp : pl = [(0, 32), (32, 1)]) (hz : zl.length = 33) (hv : one v = true) :
    fillV (fun i => pl[i]?) zl [(0, .agg (dgR d).toArray), (1, v)] = some (itR (d, v)) := by
  subst hp
  obtain ⟨A, p, rfl⟩ : ∃ A p, zl = A ++ [p] := by
    rcases List.eq_nil_or_concat zl with rfl | ⟨L, q, rfl⟩
    · cases hz
    · exact ⟨L, q, by simp⟩
  have hA : A.length = 32 := by simpa using hz
  have hd := dgR_len d
  have e1 : splice (A ++ [p]) 0 (dgR d) = dgR d ++ [p] := by
    unfold splice; rw [List.take_zero, List.nil_append, Nat.zero_add, hd, List.drop_left' hA]
  have e2 : splice (dgR d ++ [p]) 32 [v] = itR (d, v) := by
    unfold splice itR; rw [List.take_left' hd, ← List.drop_drop, List.drop_left' hd]; simp
  have hc : v.cells = #[v] := cells_one hv
  have ha : (Value.agg (dgR d).toArray).cells.toList = dgR d := rfl
  have s0 : (Value.agg (dgR d).toArray).cells.size = 32 := by show (dgR d).toArray.size = 32; simp [hd]
  simp only [fillV, List.getElem?_cons_zero, List.getElem?_cons_succ]
  rw [if_pos ⟨s0, by rw [hz]; decide⟩, ha, e1, hc, if_pos ⟨rfl, by simp [hd]⟩]
  show some (splice _ 32 [v]) = _
  rw [e2]
theorem putGo_at (key : Dig) (val : List UInt8) : ∀ (l : List It) (k : Nat) (d : Bool) (y : It), l[k]? = some y → putGo key val d (l.drop k) = ((if (!d && !lessB y.1.val key.val) = true then [(key, val)] else []) ++ if y.1 ≠ key then [y] else []) ++ putGo key val (d || !lessB y.1.val key.val) (l.drop (k + 1))
  | x :: l, 0, d, y, h => by
    simp at h; subst h
    show putGo key val d (x :: l) = _
    rw [putGo]; rfl
  | x :: l, k + 1, d, y, h => putGo_at key val l k d y (by simpa using h)
  | [], k, d, y, h => by cases h
theorem rf8_Put (w : World) (v vv : Value) (l : List It) (key : Dig) (val : List UInt8) (hv : ItIn w v l) (hval : By w vv val) (hl : l.length ≤ 2 ^ 20) : Ret Tryd.prog 11 [v, .agg (dgR key).toArray, vv].toArray w fun r w' => Out w w' r (putI l key val) := by
  obtain ⟨a0, c0, rfl, hc0, hcm0⟩ := hv.form
  obtain ⟨av, cv, rfl, _, _⟩ := hval.form
  have hLen := putI_len l key val
  refine enter (fn := Tryd.f11) (n := 58) Tryd.func11 rfl rfl (by simp) ?_
  refine W_seq ?_
  refine W_region ?_
  refine o_box rfl rfl rfl ?_; intro w1 b1 e1 hB1 hk1 hs1
  have hB1 : Blk w1 b1 (dgR key) 23 := hB1
  refine o_asc rfl ?_
  refine ops_nil ?_
  refine W_seq ?_
  refine W_region ?_
  refine o_bs0 rfl rfl rfl ?_; intro w2 b2 e2 hB2 hk2 hs2
  refine o_ast rfl ?_
  refine ops_nil ?_
  refine W_seq ?_
  refine W_region ?_
  refine o_asc rfl ?_
  refine ops_nil ?_
  refine W_seq ?_
  refine W_seq ?_
  refine W_region ?_
  refine o_asc rfl ?_
  refine ops_nil ?_
  refine W_block ?_
  refine W_loop [7, 8, 9] [7, 8, 9, 11, 12, 13, 14, 15, 16, 17, 18, 19, 20, 21, 22, 23, 24, 25, 26, 27, 28, 29, 30, 31, 32, 33, 34, 35, 36, 37, 38, 39, 40, 41, 42, 43, 44, 45, 46, 47, 48] (fun vs w' => ∃ (k : Nat) (u : Value) (d : Bool) (out : List It), vs = [u, .bool d, .int .i64 k] ∧ k ≤ l.length ∧ putI l key val = out ++ putGo key val d (l.drop k) ∧ Out w w' u out ∧ Blk w' b1 (dgR key) 23 ∧ InB (fun z => z ≠ b1) u) (fun vs _ => match vs with | [_, _, .int _ y] => l.length - y.toNat | _ => 0) ⟨0, .slice (some ⟨b2, 0, none⟩) 0 0, false, [], rfl, Nat.zero_le _, rfl, ⟨[], Own.blk (n := 0) (sz := 33) hB2 rfl (Nat.zero_le _), trivial, fun z hz => by have : b2 = z := Option.some.inj hz; have := hk1.size; omega, hk1.trans hk2⟩, hk2.blk' hB1 trivial, fun z hz => by have : b2 = z := Option.some.inj hz; omega⟩ ?_
  rintro J3 vs w3 ⟨k, u, d, out, rfl, hk, hpe, hO, hB1k, hub⟩ -
  refine W_seq ?_
  refine W_seq ?_
  refine W_region ?_
  refine o_mvt rfl ?_
  refine o_mvt rfl ?_
  refine op_run (r_len rfl rfl rfl) rfl ?_
  refine op_run (r_lss rfl rfl) rfl ?_
  refine ops_nil ?_
  refine W_cond_p rfl (fun h4 => ?_) (fun h4 => ?_)
  · refine W_skip ?_
    have hkl : k < l.length := by omega
    obtain ⟨y, hy⟩ : ∃ y, l[k]? = some y := ⟨_, List.getElem?_eq_getElem hkl⟩
    obtain ⟨its0, hits1, hits2⟩ := hv
    obtain ⟨vy, hvx, hvb⟩ := hits2.get hy
    have hv : ItIn w (.slice a0 l.length c0) l := ⟨its0, hits1, hits2⟩
    have hl0 := hits2.len
    obtain ⟨hkl0, hxe⟩ := List.getElem?_eq_some_iff.1 hvx
    rw [← hl0] at hits1
    obtain ⟨b, off, ea_, hc⟩ := rows_at' itR_len hits1 hkl0 (by decide)
    rw [hxe] at hc
    subst ea_
    have hinc := inc64' k (by omega)
    have hstep := putGo_at key val l k d y hy
    have hle : ∀ {m : List It} {t : List It}, putI l key val = m ++ t → m.length ≤ l.length + 1 := fun {m t} e => by
      have := congrArg List.length e
      rw [List.length_append] at this; omega
    refine W_cut [7, 8] [7, 8, 17, 18, 19, 20, 21, 22, 23, 24, 25, 26, 27, 28, 29, 30, 31, 32, 33, 34, 35, 36, 37, 38, 39, 40, 41, 42, 43, 44, 45, 46, 47, 48] (fun vs w5 => ∃ (u' : Value) (d' : Bool) (out' : List It), vs = [u', .bool d'] ∧ putI l key val = out' ++ putGo key val d' (l.drop (k + 1)) ∧ Out w w5 u' out' ∧ Blk w5 b1 (dgR key) 23 ∧ InB (fun z => z ≠ b1) u') ?_ ?_
    · refine W_block ?_
      refine W_cut [7, 8] [7, 8, 17, 18, 19, 20, 21, 22, 23, 24, 25, 26, 27, 28, 29, 30, 31, 32, 33, 34] (fun vs w6 => ∃ (u' : Value) (d' : Bool) (out' : List It), vs = [u', .bool d'] ∧ putI l key val = (out' ++ if y.1 ≠ key then [y] else []) ++ putGo key val d' (l.drop (k + 1)) ∧ Out w w6 u' out' ∧ Blk w6 b1 (dgR key) 23 ∧ InB (fun z => z ≠ b1) u') ?_ ?_
      · refine W_cut [28] [17, 18, 19, 20, 21, 22, 23, 24, 25, 26, 27, 28] (fun vs w7 => vs = [.bool (!d && !lessB y.1.val key.val)] ∧ Keep All w3 w7) ?_ ?_
        · refine W_quiet (Keep All w3) (by kernel_rfl) (by kernel_rfl) (Keep.drawn _) ?_
          refine q_mvt rfl ?_
          refine q_run (fun _ _ => (r_not rfl)) rfl ?_
          refine q_mvt rfl ?_
          refine q_split rfl rfl rfl (fun g9 => ?_) (fun g9 => ?_)
          · refine q_mvt (g_yes rfl rfl rfl (by rw [g9] <;> rfl)) ?_
            refine q_mvt (g_yes rfl rfl rfl (by rw [g9] <;> rfl)) ?_
            refine q_run (fun _ _ => r_idxS rfl rfl rfl rfl (by omega) (by omega)) (g_yes rfl rfl rfl (by rw [g9] <;> rfl)) ?_
            refine q_run (fun _ _ => (r_fieldAddr rfl rfl rfl rfl rfl)) (g_yes rfl rfl rfl (by rw [g9] <;> rfl)) ?_
            refine q_run (fun _ hk => r_loadA (dgR y.1) rfl rfl rfl (by first | rfl | (rw [binV_len]; rfl) | (rw [dgR_len]; rfl) | (rw [refR_len]; rfl) | (rw [secR_len]; rfl) | (rw [List.length_map, tagF_len]; rfl) | (rw [dgR_len]; rfl) | (rw [itR_len]; rfl)) ((fun j u hj => by rw [Int.toNat_natCast]; exact hk.cell (hO.keepAll.cell (itR_dg hc j u hj) trivial) trivial))) (g_yes rfl rfl rfl (by rw [g9] <;> rfl)) ?_
            refine q_run (fun _ hk => r_loadA (dgR key) rfl rfl rfl (by first | rfl | (rw [binV_len]; rfl) | (rw [dgR_len]; rfl) | (rw [refR_len]; rfl) | (rw [secR_len]; rfl) | (rw [List.length_map, tagF_len]; rfl) | (rw [dgR_len]; rfl) | (rw [itR_len]; rfl)) ((hk.blk' hB1k trivial).all)) (g_yes rfl rfl rfl (by rw [g9] <;> rfl)) ?_
            refine q_call rfl rfl (g_yes rfl rfl rfl (by rw [g9] <;> rfl)) (fun _ hk => (rf8_Less _ y.1 key).mono fun e w'' ⟨u, he, h1, h2⟩ => ⟨u, he, h1, hk.trans h2⟩) ?_
            refine q_run (fun _ _ => (r_not rfl)) (g_yes rfl rfl rfl (by rw [g9] <;> rfl)) ?_
            refine q_pkTt rfl (by rw [g9] <;> rfl) rfl ?_
            refine q_nil ?_; intro w14 hk14
            exact ⟨by (repeat (first | with_reducible exact offM_refl _ _ | refine offM_updc rfl ?_ | refine offM_upd rfl ?_ | refine offM_updo rfl ?_ | refine offM_updo_none ?_ | refine offM_head rfl rfl ?_)), congrArg (fun b => [Value.bool b]) (by have g : d = false := (by simpa using g9); rw [g]; rfl), hk14⟩
          · refine q_skip (g_no rfl rfl rfl (by rw [g9] <;> rfl)) ?_
            refine q_skip (g_no rfl rfl rfl (by rw [g9] <;> rfl)) ?_
            refine q_skip (g_no rfl rfl rfl (by rw [g9] <;> rfl)) ?_
            refine q_skip (g_no rfl rfl rfl (by rw [g9] <;> rfl)) ?_
            refine q_skip (g_no rfl rfl rfl (by rw [g9] <;> rfl)) ?_
            refine q_skip (g_no rfl rfl rfl (by rw [g9] <;> rfl)) ?_
            refine q_skip (g_no rfl rfl rfl (by rw [g9] <;> rfl)) ?_
            refine q_skip (g_no rfl rfl rfl (by rw [g9] <;> rfl)) ?_
            refine q_pkFc rfl (by rw [g9] <;> rfl) rfl ?_
            refine q_nil ?_; intro w16 hk16
            exact ⟨by (repeat (first | with_reducible exact offM_refl _ _ | refine offM_updc rfl ?_ | refine offM_upd rfl ?_ | refine offM_updo rfl ?_ | refine offM_updo_none ?_ | refine offM_head rfl rfl ?_)), congrArg (fun b => [Value.bool b]) (by have g : d = true := (by simpa using g9); rw [g]; rfl), hk16⟩
        · rintro J18 vs w18 ⟨rfl, hk18⟩ -
          refine W_cond rfl (fun h19 => ?_) (fun h19 => ?_)
          · refine W_seq ?_
            refine W_region ?_
            refine o_mvt rfl ?_
            refine op_run (r_loadA (dgR key) rfl rfl rfl (by first | rfl | (rw [binV_len]; rfl) | (rw [dgR_len]; rfl) | (rw [refR_len]; rfl) | (rw [secR_len]; rfl) | (rw [List.length_map, tagF_len]; rfl) | (rw [dgR_len]; rfl) | (rw [itR_len]; rfl)) ((hk18.blk' hB1k trivial).all)) rfl ?_
            refine o_mvt rfl ?_
            refine op_run (r_build (itR (key, .slice av val.length cv)) (_) ([(0, .agg (dgR key).toArray), (1, .slice av val.length cv)]) rfl rfl rfl rfl rfl (fill_it (by kernel_rfl) rfl rfl)) rfl ?_
            refine o_bsA1 (itR (key, .slice av val.length cv)) rfl rfl (by rw [itR_len]; exact ti_it) (by rw [itR_len]; rfl) (by rw [itR_len]; decide) rfl ?_; intro w22 b22 e22 hB22 hk22 hs22
            obtain ⟨its, hO1, hO2, hO3, hO4⟩ := hO
            have hol := hle hpe
            refine o_app (v := u) (c := 1) (m := out.length) (itR (key, .slice av val.length cv)) rfl rfl rfl ti_it rfl (by decide) (hO1.keep (hk18.trans hk22) (fun _ _ => trivial)) (by rw [itR_len]) hB22.all (itR_one rfl) (by unfold maxLen; omega) (by omega) rfl ?_; intro v23 w23 hown23 hk23 hb23
            refine o_ast rfl ?_
            refine ops_nil ?_
            refine W_region ?_
            refine o_asc rfl ?_
            refine ops_nil ?_
            refine ⟨by (repeat (first | with_reducible exact offM_refl _ _ | refine offM_updc rfl ?_ | refine offM_upd rfl ?_ | refine offM_updo rfl ?_ | refine offM_updo_none ?_ | refine offM_head rfl rfl ?_)), v23, true, out ++ [(key, val)], rfl, ?_, Out.app (k := key) (b := val) hO2 hO3 hO4 hval (hk18.trans hk22) hown23 hk23 hb23, hk23.blk' ((hk18.trans hk22).blk' hB1k trivial) (fun e => hub b1 e.symm rfl), fun z hz => ?_⟩
            · have h : (!d && !lessB y.1.val key.val) = true := h19
              have hb : (!lessB y.1.val key.val) = true := by cases d <;> simp_all
              rw [hpe, hstep, if_pos h, hb, Bool.or_true]; simp [List.append_assoc]
            · rcases hb23 z hz with h | h
              · exact hub z h
              · have := hB1k.lt; have := (hk18.trans hk22).size; omega
          · refine W_skip ?_
            refine ⟨by (repeat (first | with_reducible exact offM_refl _ _ | refine offM_updc rfl ?_ | refine offM_upd rfl ?_ | refine offM_updo rfl ?_ | refine offM_updo_none ?_ | refine offM_head rfl rfl ?_)), u, d, out, rfl, ?_, hO.k hk18, hk18.blk' hB1k trivial, hub⟩
            have h : (!d && !lessB y.1.val key.val) = false := h19
            have hb : (d || !lessB y.1.val key.val) = d := by cases d <;> simp_all
            rw [hpe, hstep, hb, if_neg (by rw [h]; decide), List.nil_append, List.append_assoc]
      · rintro J26 vs w26 ⟨u', d', out', rfl, hpe', hO', hB1', hub'⟩ -
        refine W_seq ?_
        refine W_quiet (Keep All w26) (by kernel_rfl) (by kernel_rfl) (Keep.drawn _) ?_
        refine q_mvt rfl ?_
        refine q_mvt rfl ?_
        refine q_run (fun _ _ => r_idxS rfl rfl rfl rfl (by omega) (by omega)) rfl ?_
        refine q_run (fun _ _ => (r_fieldAddr rfl rfl rfl rfl rfl)) rfl ?_
        refine q_run (fun _ hk => r_loadA (dgR y.1) rfl rfl rfl (by first | rfl | (rw [binV_len]; rfl) | (rw [dgR_len]; rfl) | (rw [refR_len]; rfl) | (rw [secR_len]; rfl) | (rw [List.length_map, tagF_len]; rfl) | (rw [dgR_len]; rfl) | (rw [itR_len]; rfl)) ((fun j u hj => by rw [Int.toNat_natCast]; exact hk.cell (hO'.keepAll.cell (itR_dg hc j u hj) trivial) trivial))) rfl ?_
        refine q_run (fun _ hk => r_loadA (dgR key) rfl rfl rfl (by first | rfl | (rw [binV_len]; rfl) | (rw [dgR_len]; rfl) | (rw [refR_len]; rfl) | (rw [secR_len]; rfl) | (rw [List.length_map, tagF_len]; rfl) | (rw [dgR_len]; rfl) | (rw [itR_len]; rfl)) ((hk.blk' hB1' trivial).all)) rfl ?_
        refine q_run (fun _ _ => (r_neqC (p := y.1 = key) rfl rfl rfl rfl (by kernel_rfl) (okC_dgR _) (okC_dgR _) rfl (dgR_inj))) rfl ?_
        refine q_nil ?_; intro w32 hk32
        refine W_cond rfl (fun h33 => ?_) (fun h33 => ?_)
        · refine W_region ?_
          refine o_mvt rfl ?_
          refine o_mvt rfl ?_
          refine o_mvt rfl ?_
          refine op_run (r_idxS rfl rfl rfl rfl (by omega) (by omega)) rfl ?_
          refine op_run (r_loadA (itR (y.1, vy)) rfl rfl rfl (by first | rfl | (rw [binV_len]; rfl) | (rw [dgR_len]; rfl) | (rw [refR_len]; rfl) | (rw [secR_len]; rfl) | (rw [List.length_map, tagF_len]; rfl) | (rw [dgR_len]; rfl) | (rw [itR_len]; rfl)) ((fun j u hj => by rw [Int.toNat_natCast]; exact (hO'.keepAll.trans hk32).cell (hc j u hj) trivial))) rfl ?_
          refine o_bsA1 (itR (y.1, vy)) rfl rfl (by rw [itR_len]; exact ti_it) (by rw [itR_len]; rfl) (by rw [itR_len]; decide) rfl ?_; intro w36 b36 e36 hB36 hk36 hs36
          obtain ⟨its, hO1, hO2, hO3, hO4⟩ := hO'
          have hol : out'.length ≤ l.length + 1 := hle (by rw [List.append_assoc] at hpe'; exact hpe')
          refine o_app (v := u') (c := 1) (m := out'.length) (itR (y.1, vy)) rfl rfl rfl ti_it rfl (by decide) (hO1.keep (hk32.trans hk36) (fun _ _ => trivial)) (by rw [itR_len]) hB36.all (itR_one (Sl.oneI hvb)) (by unfold maxLen; omega) (by omega) rfl ?_; intro v37 w37 hown37 hk37 hb37
          refine o_ast rfl ?_
          refine ops_nil ?_
          refine ⟨by (repeat (first | with_reducible exact offM_refl _ _ | refine offM_updc rfl ?_ | refine offM_upd rfl ?_ | refine offM_updo rfl ?_ | refine offM_updo_none ?_ | refine offM_head rfl rfl ?_)), v37, d', out' ++ [y], rfl, ?_, Out.app (k := y.1) (b := y.2) hO2 hO3 hO4 hvb (hk32.trans hk36) hown37 hk37 hb37, hk37.blk' ((hk32.trans hk36).blk' hB1' trivial) (fun e => hub' b1 e.symm rfl), fun z hz => ?_⟩
          · rw [hpe', if_pos (by simpa using h33)]
          · rcases hb37 z hz with h | h
            · exact hub' z h
            · have := hB1'.lt; have := (hk32.trans hk36).size; omega
        · refine W_skip ?_
          refine ⟨by (repeat (first | with_reducible exact offM_refl _ _ | refine offM_updc rfl ?_ | refine offM_upd rfl ?_ | refine offM_updo rfl ?_ | refine offM_updo_none ?_ | refine offM_head rfl rfl ?_)), u', d', out', rfl, ?_, hO'.k hk32, hk32.blk' hB1' trivial, hub'⟩
          rw [hpe', if_neg (by simpa using h33), List.append_nil]
    · rintro J40 vs w40 ⟨u', d', out', rfl, hpe', hO', hB1', hub'⟩ -
      refine W_region ?_
      refine o_mvt rfl ?_
      refine op_run (r_add rfl rfl) rfl ?_
      refine o_ast rfl ?_
      refine ops_nil ?_
      refine ⟨by (repeat (first | with_reducible exact offM_refl _ _ | refine offM_updc rfl ?_ | refine offM_upd rfl ?_ | refine offM_updo rfl ?_ | refine offM_updo_none ?_ | refine offM_head rfl rfl ?_)), ⟨k + 1, u', d', out', congrArg (fun z : Int => [u', Value.bool d', Value.int .i64 z]) hinc, by omega, hpe', hO', hB1', hub'⟩, ?_⟩
      show l.length - (IntKind.i64.wrap ((k : Int) + 1)).toNat < l.length - (k : Int).toNat
      rw [hinc]; omega
  · refine W_exit ?_
    refine W_seq ?_
    refine W_seq ?_
    refine W_region ?_
    refine o_mvt rfl ?_
    refine op_run (r_not rfl) rfl ?_
    refine ops_nil ?_
    have hke : k = l.length := by omega
    rw [hke, List.drop_length] at hpe
    refine W_cond rfl (fun h42 => ?_) (fun h42 => ?_)
    · refine W_region ?_
      refine o_mvt rfl ?_
      refine op_run (r_loadA (dgR key) rfl rfl rfl (by first | rfl | (rw [binV_len]; rfl) | (rw [dgR_len]; rfl) | (rw [refR_len]; rfl) | (rw [secR_len]; rfl) | (rw [List.length_map, tagF_len]; rfl) | (rw [dgR_len]; rfl) | (rw [itR_len]; rfl)) (hB1k.all)) rfl ?_
      refine o_mvt rfl ?_
      refine op_run (r_build (itR (key, .slice av val.length cv)) (_) ([(0, .agg (dgR key).toArray), (1, .slice av val.length cv)]) rfl rfl rfl rfl rfl (fill_it (by kernel_rfl) rfl rfl)) rfl ?_
      refine o_bsA1 (itR (key, .slice av val.length cv)) rfl rfl (by rw [itR_len]; exact ti_it) (by rw [itR_len]; rfl) (by rw [itR_len]; decide) rfl ?_; intro w45 b45 e45 hB45 hk45 hs45
      obtain ⟨its, hO1, hO2, hO3, hO4⟩ := hO
      have hol : out.length ≤ l.length + 1 := by
        have := congrArg List.length hpe
        rw [List.length_append] at this; omega
      refine o_app (v := u) (c := 1) (m := out.length) (itR (key, .slice av val.length cv)) rfl rfl rfl ti_it rfl (by decide) (hO1.keep hk45 (fun _ _ => trivial)) (by rw [itR_len]) hB45.all (itR_one rfl) (by unfold maxLen; omega) (by omega) rfl ?_; intro v46 w46 hown46 hk46 hb46
      refine o_ast rfl ?_
      refine ops_nil ?_
      refine W_seq ?_
      refine W_region ?_
      refine o_mvt rfl ?_
      refine o_ast rfl ?_
      refine ops_nil ?_
      refine W_ret ?_
      refine ret1 v46 rfl ?_ ?_; rfl
      have hd : d = false := by simpa using h42
      have e : putI l key val = out ++ [(key, val)] := by rw [hpe, hd]; rfl
      rw [e]; exact Out.app (k := key) (b := val) hO2 hO3 hO4 hval hk45 hown46 hk46 hb46
    · refine W_skip ?_
      refine W_seq ?_
      refine W_region ?_
      refine o_mvt rfl ?_
      refine o_ast rfl ?_
      refine ops_nil ?_
      refine W_ret ?_
      refine ret1 u rfl ?_ ?_; rfl
      have hd : d = true := by simpa using h42
      have e : putI l key val = out := by rw [hpe, hd]; exact List.append_nil _
      rw [e]; exact hO
end Go.Proofs.YtpiidddccmohdaaDoor.B
