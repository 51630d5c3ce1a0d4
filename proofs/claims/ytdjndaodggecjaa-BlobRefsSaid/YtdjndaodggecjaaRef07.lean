/-
  The document's blobs: Sectors, Of, Laid.
-/
import Derived.Test.YtdjndaodggecjaaBlob4
namespace Go.Proofs.Ytdjndaodggecjaa.B
open Go
set_option linter.unusedVariables false
set_option maxHeartbeats 2000000
set_option maxRecDepth 100000
attribute [local irreducible] W OpsW OpsQ retP
theorem sectorsN_step {m : Nat} (h : 64 < m) : sectorsN m = sectorsN (m - 64) + 1 := by unfold sectorsN; omega
theorem sectorsN_one {m : Nat} (h : m ≤ 64) : sectorsN m = 1 := by unfold sectorsN; omega
theorem rf07_Sectors (w : World) (n : Int) (hn : n < 2 ^ 62) : Ret Try.prog 14 [.int .i64 n].toArray w fun r w' => r = .int .i64 (if n < 0 then 0 else (sectorsN n.toNat : Int)) ∧ w' = w := by
  refine enter (fn := Try.f14) (n := 13) Try.func14 rfl rfl (by simp) ?_
  refine W_seq ?_
  refine W_region ?_
  refine o_asc rfl ?_
  refine ops_nil ?_
  refine W_seq ?_
  refine W_seq ?_
  refine W_region ?_
  refine o_mvt rfl ?_
  refine op_run (r_lss rfl rfl) rfl ?_
  refine ops_nil ?_
  refine W_cond_p rfl (fun h1 => ?_) (fun h1 => ?_)
  · refine W_seq ?_
    refine W_region ?_
    refine o_asc rfl ?_
    refine ops_nil ?_
    refine W_ret ?_
    refine ret1 (.int .i64 0) rfl ?_ ?_; rfl
    exact ⟨by rw [if_pos h1], rfl⟩
  · refine W_skip ?_
    refine W_seq ?_
    refine W_region ?_
    refine o_asc rfl ?_
    refine ops_nil ?_
    refine W_seq ?_
    refine W_block ?_
    refine W_loop [0, 3] [0, 3, 6, 7, 8, 9, 10, 11] (fun vs w' => ∃ m k : Nat, vs = [.int .i64 m, .int .i64 k] ∧ 1 ≤ k ∧ k + m ≤ n.toNat + 1 ∧ sectorsN n.toNat + 1 = k + sectorsN m ∧ w' = w) (fun vs _ => match vs with | [.int _ y, _] => y.toNat | _ => 0) ⟨n.toNat, 1, congrArg (fun z : Int => [Value.int .i64 z, Value.int .i64 1]) (show n = (n.toNat : Int) by omega), by omega, by omega, by omega, rfl⟩ ?_
    rintro J3 vs w3 ⟨m, k, rfl, hk1, hkm, hse, rfl⟩ -
    refine W_seq ?_
    refine W_seq ?_
    refine W_region ?_
    refine o_mvt rfl ?_
    refine op_run (r_gtr rfl rfl) rfl ?_
    refine ops_nil ?_
    refine W_cond_p rfl (fun h4 => ?_) (fun h4 => ?_)
    · refine W_skip ?_
      refine W_block ?_
      refine W_seq ?_
      refine W_region ?_
      refine o_mvt rfl ?_
      refine op_run (r_sub rfl rfl) rfl ?_
      refine o_ast rfl ?_
      refine ops_nil ?_
      refine W_region ?_
      refine o_mvt rfl ?_
      refine op_run (r_add rfl rfl) rfl ?_
      refine o_ast rfl ?_
      refine ops_nil ?_
      have h4 : 64 < m := by omega
      have e1 : IntKind.i64.wrap ((m : Int) - 64) = ((m - 64 : Nat) : Int) := by rw [wrap_i64 (by omega) (by omega)]; omega
      have e2 : IntKind.i64.wrap ((k : Int) + 1) = ((k + 1 : Nat) : Int) := by rw [wrap_i64 (by omega) (by omega)]; omega
      have h5 := sectorsN_step h4
      refine ⟨by (repeat (first | with_reducible exact offM_refl _ _ | refine offM_updc rfl ?_ | refine offM_upd rfl ?_ | refine offM_updo rfl ?_ | refine offM_updo_none ?_ | refine offM_head rfl rfl ?_)), ⟨m - 64, k + 1, congr (congrArg (fun (a b : Int) => [Value.int .i64 a, Value.int .i64 b]) e1) e2, by omega, by omega, by omega, rfl⟩, ?_⟩
      show (IntKind.i64.wrap ((m : Int) - 64)).toNat < (m : Int).toNat
      rw [e1]; omega
    · refine W_exit ?_
      refine W_seq ?_
      refine W_region ?_
      refine o_mvt rfl ?_
      refine o_ast rfl ?_
      refine ops_nil ?_
      refine W_ret ?_
      refine ret1 (.int .i64 k) rfl ?_ ?_; rfl
      have h5 := sectorsN_one (m := m) (by omega)
      exact ⟨by rw [if_neg h1]; congr 1; omega, rfl⟩

theorem rf07_Of (w : World) (at_ : Int) (v : Value) (bs : List UInt8) (hv : By w v bs) (hl : bs.length ≤ 100000) : Ret Try.prog 19 [.int .i64 at_, v].toArray w fun r w' => r = .agg (refR (ofR at_ bs)).toArray ∧ Keep All w w' := by
  obtain ⟨a0, c0, rfl, hc0, hcm0⟩ := hv.form
  refine enter (fn := Try.f19) (n := 12) Try.func19 rfl rfl (by simp) ?_
  refine W_seq ?_
  refine W_region ?_
  refine o_alloc rfl rfl rfl ?_; intro w1 b1 e1 hB1 hk1 hs1
  refine ops_nil ?_
  refine W_seq ?_
  refine W_region ?_
  refine o_mvt rfl ?_
  refine o_bs1 (v := _) rfl rfl rfl rfl rfl rfl ?_; intro w2 b2 e2 hB2 hk2 hs2
  refine op_call rfl rfl rfl (rf_Tagged w2 _ 3 [bs] (rowsB_one hB2 ((hv.k hk1).k hk2)) (tag_1 _ hl)) ?_; rintro v3 w3 ⟨rfl, hk3⟩
  refine o_mvt rfl ?_
  refine o_mvt rfl ?_
  refine op_run (r_len rfl rfl rfl) rfl ?_
  refine op_run (r_build (refR (ofR at_ bs)) (_) ([(0, .agg (dgR (tagD 3 [bs])).toArray), (1, .int .i64 at_), (2, .int .i64 (bs.length : Int))]) rfl rfl rfl rfl rfl (fill_ref (by kernel_rfl) rfl)) rfl ?_
  refine o_storeA (cs := refR (ofR at_ bs)) rfl rfl (by first | rfl | exact dgR_one _ | exact refR_one _ | exact secR_one _ | exact all_c8 _) (by first | rfl | (rw [dgR_len]; rfl) | (rw [refR_len]; rfl) | (rw [secR_len]; rfl) | (rw [List.length_map, tagF_len]; rfl)) (hk3.blk' (hk2.blk' hB1 trivial) trivial) (by exact Nat.le_of_eq (by simp [refR_len])) rfl ?_; intro w5 hB5 hk5 hs5
  rw [splice_all (by simp [refR_len])] at hB5
  refine ops_nil ?_
  refine W_ret ?_
  refine retA (refR (ofR at_ bs)) rfl rfl rfl rfl (by first | rfl | (rw [dgR_len]; rfl) | (rw [refR_len]; rfl) | (rw [secR_len]; rfl) | (rw [List.length_map, tagF_len]; rfl)) hB5.all ?_
  exact ⟨rfl, ((hk1.trans hk2).trans hk3).new hk5 (by omega)⟩

theorem padS_nil : secR (padS []) = List.replicate 64 (c8 0) := by unfold secR padS; simp
theorem padS_val (l : List UInt8) : (padS l).val = l.take 64 ++ List.replicate (64 - (l.take 64).length) 0 := rfl
theorem padS_set {l : List UInt8} {k : Nat} {x : UInt8} (hk : k < 64) (hx : l[k]? = some x) : (secR (padS (l.take k))).set k (c8 x) = secR (padS (l.take (k + 1))) := by
  obtain ⟨h1, h2⟩ := List.getElem?_eq_some_iff.1 hx
  have e1 : ((l.take k).take 64) = l.take k := by rw [List.take_take, Nat.min_eq_right (by omega)]
  have e2 : ((l.take (k + 1)).take 64) = l.take (k + 1) := by rw [List.take_take, Nat.min_eq_right (by omega)]
  have l1 : (l.take k).length = k := by rw [List.length_take]; omega
  have l2 : (l.take (k + 1)).length = k + 1 := by rw [List.length_take]; omega
  unfold secR
  rw [padS_val, padS_val, e1, e2, l1, l2, List.map_append, List.set_append_right _ _ (by rw [List.length_map]; omega), List.length_map, l1, Nat.sub_self, show 64 - k = (64 - (k + 1)) + 1 by omega, List.replicate_succ, List.map_cons, List.set_cons_zero, List.take_succ_eq_append_getElem h1, h2]
  simp
theorem padS_take {l : List UInt8} {k : Nat} (h : k = 64 ∨ l.length ≤ k) : padS (l.take k) = padS l := by
  apply Subtype.ext
  rw [padS_val, padS_val]
  rcases h with rfl | h
  · rw [List.take_take, Nat.min_self]
  · rw [List.take_of_length_le (l := l) h]
theorem rows_snocS (M : List Sec) (s : Sec) : rows secR (M ++ [s]) = rows secR M ++ secR s := by unfold rows; rw [List.flatMap_append]; simp
theorem laid_take {bs : List UInt8} {i : Nat} (hi : i < sectorsN bs.length) : (laidL bs).take (i + 1) = (laidL bs).take i ++ [padS (bs.drop (64 * i))] := by
  have h := laidL_get hi
  obtain ⟨h1, h2⟩ := List.getElem?_eq_some_iff.1 h
  rw [List.take_succ_eq_append_getElem h1, h2]
theorem rf07_Laid (w : World) (v : Value) (bs : List UInt8) (hv : By w v bs) (hl : bs.length ≤ 100000) : Ret Try.prog 18 [v].toArray w fun r w' => Own w' 33 64 r (laidL bs).length (rows secR (laidL bs)) ∧ InB (fun z => w.heap.size ≤ z) r ∧ Keep All w w' := by
  obtain ⟨a0, c0, rfl, hc0, hcm0⟩ := hv.form
  have hsl := sectorsN_le bs.length
  have hll := laidL_len bs
  refine enter (fn := Try.f18) (n := 43) Try.func18 rfl rfl (by simp) ?_
  refine W_seq ?_
  refine W_region ?_
  refine o_asc rfl ?_
  refine ops_nil ?_
  refine W_seq ?_
  refine W_region ?_
  refine o_bs0 rfl rfl rfl ?_; intro w1 b1 e1 hB1 hk1 hs1
  have hO1 : Own w1 33 64 (.slice (some ⟨b1, 0, none⟩) 0 0) 0 [] := ⟨rfl, .inr ⟨b1, 0, #[], rfl, Nat.zero_le _, hB1, Nat.le_refl _, Nat.zero_le _, rfl, rfl⟩⟩
  refine o_ast rfl ?_
  refine ops_nil ?_
  refine W_seq ?_
  refine W_seq ?_
  refine W_region ?_
  refine o_asc rfl ?_
  refine ops_nil ?_
  refine W_block ?_
  refine W_loop [3, 4] [3, 4, 5, 6, 8, 9, 10, 11, 12, 13, 14, 15, 16, 17, 18, 19, 20, 21, 22, 23, 24, 25, 26, 27, 28, 29, 30, 31, 32, 33, 34, 35, 36, 37, 38, 39, 40, 41] (fun vs w' => ∃ (i : Nat) (u : Value), vs = [u, .int .i64 i] ∧ i ≤ sectorsN bs.length ∧ Own w' 33 64 u i (rows secR ((laidL bs).take i)) ∧ InB (fun z => w.heap.size ≤ z) u ∧ Keep All w w') (fun vs _ => match vs with | [_, .int _ k] => sectorsN bs.length - k.toNat | _ => 0) ⟨0, _, rfl, Nat.zero_le _, by rw [List.take_zero]; exact hO1, fun z hz => by obtain rfl : b1 = z := Option.some.inj hz; omega, hk1⟩ ?_
  rintro J2 vs w2 ⟨i, u, rfl, hi, hO, hin, hkw⟩ -
  refine W_seq ?_
  refine W_seq ?_
  refine W_region ?_
  refine o_mvt rfl ?_
  refine o_mvt rfl ?_
  refine op_run (r_len rfl rfl rfl) rfl ?_
  refine op_call rfl rfl rfl (rf07_Sectors w2 (bs.length : Int) (by omega)) ?_; rintro v3 w3 ⟨rfl, rfl⟩
  rw [if_neg (show ¬ (bs.length : Int) < 0 by omega), Int.toNat_natCast]
  refine op_run (r_lss rfl rfl) rfl ?_
  refine ops_nil ?_
  refine W_cond_p rfl (fun h4 => ?_) (fun h4 => ?_)
  · refine W_skip ?_
    refine W_seq ?_
    refine W_block ?_
    refine W_seq ?_
    refine W_region ?_
    have hi' : i < sectorsN bs.length := by omega
    refine op_run (r_buildA ((List.replicate 64 (c8 0))) (_) ([]) rfl rfl rfl rfl rfl (rfl)) rfl ?_
    refine o_alloc rfl rfl rfl ?_; intro w6 b6 e6 hB6 hk6 hs6
    refine o_storeA (cs := List.replicate 64 (c8 0)) rfl rfl (by first | rfl | exact dgR_one _ | exact refR_one _ | exact secR_one _ | exact all_c8 _) (by first | rfl | (rw [dgR_len]; rfl) | (rw [refR_len]; rfl) | (rw [secR_len]; rfl) | (rw [List.length_map, tagF_len]; rfl)) hB6 (by exact Nat.le_refl _) rfl ?_; intro w7 hB7 hk7 hs7
    have hB7 : Blk w7 b6 (secR (padS ((bs.drop (64 * i)).take 0))) 33 := by
      have h := hB7
      rw [splice_all (by simp)] at h
      rw [List.take_zero, padS_nil]; exact h
    have hk37 : Keep All w3 w7 := hk6.new hk7 (by omega)
    refine ops_nil ?_
    refine W_seq ?_
    refine W_seq ?_
    refine W_region ?_
    refine o_asc rfl ?_
    refine ops_nil ?_
    refine W_block ?_
    refine W_loop [6] [6, 16, 17, 18, 19, 20, 21, 22, 23, 24, 25, 26, 27, 28, 29, 30, 31, 32, 33, 34, 35, 36, 37] (fun vs w' => ∃ k : Nat, vs = [.int .i64 k] ∧ k ≤ 64 ∧ (k = 0 ∨ 64 * i + k ≤ bs.length) ∧ Blk w' b6 (secR (padS ((bs.drop (64 * i)).take k))) 33 ∧ Keep All w3 w') (fun vs _ => match vs with | [.int _ k] => 64 - k.toNat | _ => 0) ⟨0, rfl, Nat.zero_le _, .inl rfl, hB7, hk37⟩ ?_
    rintro J8 vs w8 ⟨k, rfl, hk, hkl, hBk, hk38⟩ -
    refine W_seq ?_
    refine W_cut [26] [16, 17, 18, 19, 20, 21, 22, 23, 24, 25, 26] (fun vs w9 => vs = [.bool (decide (k < 64 ∧ 64 * i + k < bs.length))] ∧ w9 = w8) ?_ ?_
    · refine W_region ?_
      refine o_mvt rfl ?_
      refine op_run (r_lss rfl rfl) rfl ?_
      refine o_mvt rfl ?_
      refine g_split rfl rfl rfl (fun g10 => ?_) (fun g10 => ?_)
      · refine o_mvt (g_yes rfl rfl rfl g10) ?_
        refine op_run ((r_mul rfl rfl).val (congrArg (Value.int .i64) (show IntKind.i64.wrap (64 * (i : Int)) = ((64 * i : Nat) : Int) from (wrap_i64 (by omega) (by omega)).trans (by omega)))) (g_yes rfl rfl rfl g10) ?_
        refine o_mvt (g_yes rfl rfl rfl g10) ?_
        refine op_run ((r_add rfl rfl).val (congrArg (Value.int .i64) (show IntKind.i64.wrap (((64 * i : Nat) : Int) + (k : Int)) = ((64 * i + k : Nat) : Int) from (wrap_i64 (by omega) (by omega)).trans (by omega)))) (g_yes rfl rfl rfl g10) ?_
        refine o_mvt (g_yes rfl rfl rfl g10) ?_
        refine op_run (r_len rfl rfl rfl) (g_yes rfl rfl rfl g10) ?_
        refine op_run (r_lss rfl rfl) (g_yes rfl rfl rfl g10) ?_
        refine o_pkTt rfl g10 rfl ?_
        refine ops_nil ?_
        exact ⟨by (repeat (first | with_reducible exact offM_refl _ _ | refine offM_updc rfl ?_ | refine offM_upd rfl ?_ | refine offM_updo rfl ?_ | refine offM_updo_none ?_ | refine offM_head rfl rfl ?_)), congrArg (fun b => [Value.bool b]) (by have g10 := of_decide_eq_true g10; rw [decide_eq_decide]; omega), rfl⟩
      · refine op_skip (g_no rfl rfl rfl g10) ?_
        refine op_skip (g_no rfl rfl rfl g10) ?_
        refine op_skip (g_no rfl rfl rfl g10) ?_
        refine op_skip (g_no rfl rfl rfl g10) ?_
        refine op_skip (g_no rfl rfl rfl g10) ?_
        refine op_skip (g_no rfl rfl rfl g10) ?_
        refine op_skip (g_no rfl rfl rfl g10) ?_
        refine o_pkFc rfl g10 rfl ?_
        refine ops_nil ?_
        exact ⟨by (repeat (first | with_reducible exact offM_refl _ _ | refine offM_updc rfl ?_ | refine offM_upd rfl ?_ | refine offM_updo rfl ?_ | refine offM_updo_none ?_ | refine offM_head rfl rfl ?_)), congrArg (fun b => [Value.bool b]) (by have g10 := of_decide_eq_false g10; symm; apply decide_eq_false; omega), rfl⟩
    · rintro J13 vs w13 ⟨rfl, rfl⟩ -
      refine W_cond_p rfl (fun h14 => ?_) (fun h14 => ?_)
      · refine W_skip ?_
        refine W_seq ?_
        refine W_block ?_
        refine W_region ?_
        refine o_mvt rfl ?_
        refine o_mvt rfl ?_
        refine o_mvt rfl ?_
        refine op_run ((r_mul rfl rfl).val (congrArg (Value.int .i64) (show IntKind.i64.wrap (64 * (i : Int)) = ((64 * i : Nat) : Int) from (wrap_i64 (by omega) (by omega)).trans (by omega)))) rfl ?_
        refine o_mvt rfl ?_
        refine op_run ((r_add rfl rfl).val (congrArg (Value.int .i64) (show IntKind.i64.wrap (((64 * i : Nat) : Int) + (k : Int)) = ((64 * i + k : Nat) : Int) from (wrap_i64 (by omega) (by omega)).trans (by omega)))) rfl ?_
        have hx : (bs.drop (64 * i))[k]? = some (bs[64 * i + k]'h14.2) := by rw [List.getElem?_drop, List.getElem?_eq_getElem h14.2]
        obtain ⟨x, ex⟩ : ∃ x, x = bs[64 * i + k]'h14.2 := ⟨_, rfl⟩
        rw [← ex] at hx
        obtain ⟨ba, offa, ca', ea, _, _, hca⟩ := hv.at (by omega)
        cases ea
        refine op_run (r_idxS1 rfl rfl rfl rfl (by omega) (by omega)) rfl ?_
        refine op_run (r_load rfl rfl rfl (by rw [Int.toNat_natCast]; exact (hkw.trans hk38).cell (hca (64 * i + k) (c8 x) (by rw [List.getElem?_map, ← List.getElem?_drop, hx]; rfl)) trivial)) rfl ?_
        refine op_run (r_idxA1 rfl rfl rfl rfl (by omega) (by omega)) rfl ?_
        refine o_store (v := c8 x) rfl rfl rfl rfl hBk (by rw [secR_len, Int.toNat_natCast]; omega) rfl ?_; intro w18 hB18 hk18 hs18
        have hB18 : Blk w18 b6 (secR (padS ((bs.drop (64 * i)).take (k + 1)))) 33 := by
          have h : Blk w18 b6 ((secR (padS ((bs.drop (64 * i)).take k))).set (0 + ((k : Nat) : Int).toNat) (c8 x)) 33 := hB18
          rw [Int.toNat_natCast, Nat.zero_add, padS_set h14.1 hx] at h; exact h
        have hinc := inc64' k (by omega)
        refine ops_nil ?_
        refine W_region ?_
        refine o_mvt rfl ?_
        refine op_run (r_add rfl rfl) rfl ?_
        refine o_ast rfl ?_
        refine ops_nil ?_
        refine ⟨by (repeat (first | with_reducible exact offM_refl _ _ | refine offM_updc rfl ?_ | refine offM_upd rfl ?_ | refine offM_updo rfl ?_ | refine offM_updo_none ?_ | refine offM_head rfl rfl ?_)), ⟨k + 1, congrArg (fun z : Int => [Value.int .i64 z]) hinc, by omega, .inr (by omega), hB18, hk38.new hk18 (by omega)⟩, ?_⟩
        show 64 - (IntKind.i64.wrap ((k : Int) + 1)).toNat < 64 - (k : Int).toNat
        rw [hinc]; omega
      · refine W_exit ?_
        refine W_region ?_
        refine o_mvt rfl ?_
        rw [padS_take (by rw [List.length_drop]; omega)] at hBk
        have hlti := hBk.lt
        refine op_run (r_loadA (secR (padS (bs.drop (64 * i)))) rfl rfl rfl (by first | rfl | (rw [dgR_len]; rfl) | (rw [refR_len]; rfl) | (rw [secR_len]; rfl) | (rw [List.length_map, tagF_len]; rfl)) (hBk.all)) rfl ?_
        refine o_bsA1 (secR (padS (bs.drop (64 * i)))) rfl rfl (by rw [secR_len]; exact ti_sec) (by rw [secR_len]; rfl) (by rw [secR_len]; exact Nat.le_of_ble_eq_true rfl) rfl ?_; intro w21 b21 e21 hB21 hk21 hs21
        refine o_app (v := u) (c := 1) (m := i) (secR (padS (bs.drop (64 * i)))) rfl rfl rfl ti_sec rfl (by decide) (hO.keep (hk38.trans hk21) (fun _ _ => trivial)) (by rw [secR_len]) hB21.all (secR_one _) (by unfold maxLen; omega) (by omega) rfl ?_; intro v22 w22 hown22 hk22 hb22
        have hkA := hkw.trans (hk38.trans hk21)
        have hzA := hkA.size
        have hincI := inc64' i (by omega)
        refine o_ast rfl ?_
        refine ops_nil ?_
        refine W_region ?_
        refine o_mvt rfl ?_
        refine op_run (r_add rfl rfl) rfl ?_
        refine o_ast rfl ?_
        refine ops_nil ?_
        refine ⟨by (repeat (first | with_reducible exact offM_refl _ _ | refine offM_updc rfl ?_ | refine offM_upd rfl ?_ | refine offM_updo rfl ?_ | refine offM_updo_none ?_ | refine offM_head rfl rfl ?_)), ⟨i + 1, v22, congrArg (fun z : Int => [v22, Value.int .i64 z]) hincI, by omega, by rw [laid_take hi', rows_snocS]; exact hown22, fun z hz => ?_, hkA.outA (B := fun z => w.heap.size ≤ z) (hk22.mono fun z _ h e => h (hin z e.symm)) (fun z hz => hz)⟩, ?_⟩
        · rcases hb22 z hz with h | h
          · exact hin z h
          · omega
        · show sectorsN bs.length - (IntKind.i64.wrap ((i : Int) + 1)).toNat < sectorsN bs.length - (i : Int).toNat
          rw [hincI]; omega
  · refine W_exit ?_
    refine W_seq ?_
    refine W_region ?_
    refine o_mvt rfl ?_
    refine o_ast rfl ?_
    refine ops_nil ?_
    refine W_ret ?_
    refine ret1 u rfl ?_ ?_; rfl
    have hie : i = sectorsN bs.length := by omega
    subst hie
    rw [List.take_of_length_le (by omega)] at hO
    exact ⟨by rw [hll]; exact hO, hin, hkw⟩
end Go.Proofs.Ytdjndaodggecjaa.B
