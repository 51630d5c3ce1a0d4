/-
  MerkleTurned: the walk.
-/
import Derived.Test.YtnjepmdgbkhoaaaMerkE
namespace Go.Proofs.Ytnjepmdgbkhoaaa.B
open Go
set_option linter.unusedVariables false
set_option maxHeartbeats 2000000
set_option maxRecDepth 100000
attribute [local irreducible] W OpsW OpsQ retP
theorem bitw_and_i64 (a : Int) (m : Nat) (hm : m < 2 ^ 63) : ∃ n : Nat, bitw .and .i64 a ((m : Nat) : Int) = ((n : Nat) : Int) ∧ n ≤ m := by
  have hle : (BitVec.ofInt 64 a).toNat &&& (BitVec.ofInt 64 ((m : Nat) : Int)).toNat ≤ m := by
    rw [bv_u 64 m (by omega)]; exact Nat.and_le_right
  refine ⟨(BitVec.ofInt 64 a).toNat &&& (BitVec.ofInt 64 ((m : Nat) : Int)).toNat, ?_, hle⟩
  show IntKind.i64.wrap (((BitVec.ofInt 64 a &&& BitVec.ofInt 64 ((m : Nat) : Int)).toNat : Nat) : Int) = _
  rw [BitVec.toNat_and]
  exact wrap_i64 (by omega) (by omega)
theorem tmod_nat (a b : Nat) : ((a : Nat) : Int).tmod ((b : Nat) : Int) = ((a % b : Nat) : Int) := by
  rw [Int.tmod_eq_emod_of_nonneg (by omega)]; norm_cast
theorem rows_setj {α : Type} {row : α → List Value} {sz : Nat} (h : ∀ x, (row x).length = sz) (y : α) (v : Value) {j : Nat} (hj : j < sz) : ∀ (l : List α) (i : Nat) (hi : i < l.length), row y = (row l[i]).set j v → (rows row l).set (i * sz + j) v = rows row (l.set i y)
  | x :: l, 0, hi, hy => by
    rw [rows_cons, List.set_cons_zero, rows_cons, hy, Nat.zero_mul, Nat.zero_add, List.set_append_left _ _ (by rw [h]; exact hj)]; rfl
  | x :: l, i + 1, hi, hy => by
    have hi' : i < l.length := by simpa using hi
    rw [rows_cons, List.set_cons_succ, rows_cons, List.set_append_right _ _ (by rw [h, Nat.add_mul]; omega), h, show (i + 1) * sz + j - sz = i * sz + j by rw [Nat.add_mul]; omega, rows_setj h y v hj l i hi' hy]
theorem xor_ne {x t : UInt8} (ht : t ≠ 0) : x ^^^ t ≠ x := fun h => ht (by
  have h2 : x ^^^ (x ^^^ t) = x ^^^ x := by rw [h]
  rwa [← UInt8.xor_assoc, UInt8.xor_self, UInt8.zero_xor] at h2)
theorem prove_len_ne {pss : List (List UInt8)} {k : Nat} (hk : k < pss.length) {p : List Dig} (hp : p.length ≠ (proveD tagD pss k).length) (row : List UInt8) (d : Dig) : leadD tagD pss.length k row p ≠ (d, true) := by
  intro h
  have h1 := (lead_up tagD pss.length pss.length k row p (Nat.le_refl _)).1
  rw [h] at h1
  have h2 := of_decide_eq_true h1.symm
  have h3 := (lead_up tagD pss.length pss.length k pss[k] (proveD tagD pss k) (Nat.le_refl _)).1
  rw [prove_lead tagD pss.length pss k pss[k] (Nat.le_refl _) (List.getElem?_eq_getElem hk)] at h3
  have h4 := of_decide_eq_true h3.symm
  omega

theorem walk_MerkleTurned (w : World) (v : Value) (pss : List (List UInt8)) (pos which : Int) (t : UInt8) (hv : SlR w v 1 (RowB w) pss) :
    Ret Try.prog 7 [v, .int .i64 pos, .int .i64 which, c8 t].toArray w fun r w' => r = .bool true ∧ Keep All w w' := by
  obtain ⟨a0, c0, rfl, hc0, hcm0⟩ := hv.form
  obtain ⟨n1, hn1, _⟩ := bitw_and_i64 pos 65535 (by decide)
  obtain ⟨n2, hn2, _⟩ := bitw_and_i64 which 65535 (by decide)
  obtain ⟨n3, hn3, hn3'⟩ := bitw_and_i64 (which.fdiv (2 ^ (min ((4 : Int)).toNat IntKind.i64.bits))) 31 (by decide)
  refine enter (fn := Try.f7) (n := 113) Try.func7 rfl rfl (by simp) ?_
  refine W_seq ?_
  refine W_region ?_
  refine o_asc rfl ?_
  refine ops_nil ?_
  refine W_seq ?_
  refine W_seq ?_
  refine W_region ?_
  refine op_call rfl rfl rfl (speaks03 w) ?_; rintro v1 w1 ⟨rfl, hk1⟩
  refine op_run (r_not rfl) rfl ?_
  refine ops_nil ?_
  refine W_no rfl (rfl) ?_
  refine W_skip ?_
  refine W_seq ?_
  refine W_cut [26] [16, 17, 18, 19, 20, 21, 22, 23, 24, 25, 26] (fun vs w4 => vs = [.bool (decide ((60 < pss.length ∨ ∃ p ∈ pss, 300 < p.length) ∨ pss.length = 0 ∨ t = 0))] ∧ Keep All w1 w4) ?_ ?_
  · refine W_region ?_
    refine o_mvt rfl ?_
    refine op_call rfl rfl rfl (great03 _ _ pss (rowsB_keep hv hk1)) ?_; rintro v5 w5 ⟨rfl, hk5⟩
    refine o_mvt rfl ?_
    refine g_split rfl rfl rfl (fun g6 => ?_) (fun g6 => ?_)
    · refine o_mvt (g_yes rfl rfl rfl g6) ?_
      refine op_run (r_len rfl rfl rfl) (g_yes rfl rfl rfl g6) ?_
      refine op_run (r_eql rfl rfl) (g_yes rfl rfl rfl g6) ?_
      refine o_pkFt rfl g6 rfl ?_
      refine o_mvt rfl ?_
      refine g_split rfl rfl rfl (fun g7 => ?_) (fun g7 => ?_)
      · refine o_mvt (g_yes rfl rfl rfl g7) ?_
        refine op_run (r_eql rfl rfl) (g_yes rfl rfl rfl g7) ?_
        refine o_pkFt rfl g7 rfl ?_
        refine ops_nil ?_
        exact ⟨by (repeat (first | with_reducible exact offM_refl _ _ | refine offM_updc rfl ?_ | refine offM_upd rfl ?_ | refine offM_updo rfl ?_ | refine offM_updo_none ?_ | refine offM_head rfl rfl ?_)), congrArg (fun b => [Value.bool b]) (by
          have g6 := of_decide_eq_false g6; have g7 := of_decide_eq_false g7
          rw [decide_eq_decide]
          constructor
          · intro h; exact .inr (.inr (UInt8.toNat_inj.1 (by simpa using h)))
          · rintro (h | h | h)
            · exact absurd h g6
            · omega
            · subst h; rfl), hk5⟩
      · refine op_skip (g_no rfl rfl rfl g7) ?_
        refine op_skip (g_no rfl rfl rfl g7) ?_
        refine o_pkTc rfl g7 rfl ?_
        refine ops_nil ?_
        exact ⟨by (repeat (first | with_reducible exact offM_refl _ _ | refine offM_updc rfl ?_ | refine offM_upd rfl ?_ | refine offM_updo rfl ?_ | refine offM_updo_none ?_ | refine offM_head rfl rfl ?_)), congrArg (fun b => [Value.bool b]) (by have g7 := of_decide_eq_true g7; symm; apply decide_eq_true; right; left; omega), hk5⟩
    · refine op_skip (g_no rfl rfl rfl g6) ?_
      refine op_skip (g_no rfl rfl rfl g6) ?_
      refine op_skip (g_no rfl rfl rfl g6) ?_
      refine o_pkTc rfl g6 rfl ?_
      refine o_mvt rfl ?_
      refine op_skip (g_no rfl rfl rfl rfl) ?_
      refine op_skip (g_no rfl rfl rfl rfl) ?_
      refine o_pkTc rfl rfl rfl ?_
      refine ops_nil ?_
      exact ⟨by (repeat (first | with_reducible exact offM_refl _ _ | refine offM_updc rfl ?_ | refine offM_upd rfl ?_ | refine offM_updo rfl ?_ | refine offM_updo_none ?_ | refine offM_head rfl rfl ?_)), congrArg (fun b => [Value.bool b]) (by have g6 := of_decide_eq_true g6; symm; apply decide_eq_true; exact .inl g6), hk5⟩
  · rintro J11 vs w11 ⟨rfl, hk11⟩ -
    refine W_cond_p rfl (fun h12 => ?_) (fun h12 => ?_)
    · refine W_seq ?_
      refine W_region ?_
      refine o_asc rfl ?_
      refine ops_nil ?_
      refine W_ret ?_
      refine ret1 (.bool true) rfl ?_ ?_; rfl
      exact ⟨rfl, hk1.trans hk11⟩
    · refine W_skip ?_
      refine W_seq ?_
      refine W_region ?_
      refine o_mvt rfl ?_
      refine op_run ((r_and rfl rfl).val (congrArg (Value.int .i64) (show bitw .and .i64 pos 65535 = ((n1 : Nat) : Int) from hn1))) rfl ?_
      refine o_mvt rfl ?_
      refine op_run (r_len rfl rfl rfl) rfl ?_
      obtain ⟨h60, hl⟩ := great_not (fun h => h12 (.inl h))
      have h0 : pss.length ≠ 0 := fun h => h12 (.inr (.inl h))
      have ht : t ≠ 0 := fun h => h12 (.inr (.inr h))
      have hkw := hk1.trans hk11
      obtain ⟨k, hkd⟩ : ∃ k, k = n1 % pss.length := ⟨_, rfl⟩
      have hk' : k < pss.length := by rw [hkd]; exact Nat.mod_lt _ (by omega)
      obtain ⟨bp, op, rfl, hrow⟩ := rowsB_all hv (by omega)
      obtain ⟨vk, hck, hbk⟩ := hrow k hk'
      refine op_run ((r_rem rfl rfl (by omega)).val (congrArg (Value.int .i64) (tmod_nat n1 pss.length))) rfl ?_
      rw [← hkd]
      refine o_ast rfl ?_
      refine ops_nil ?_
      refine W_seq ?_
      refine W_region ?_
      refine o_mvt rfl ?_
      refine op_call rfl rfl rfl (mk_Root pss.length _ _ pss rfl (rowsB_keep hv hkw) hl) ?_; rintro v15 w15 ⟨rfl, hk15⟩
      refine o_alloc rfl rfl rfl ?_; intro w16 b16 e16 hB16 hk16 hs16
      refine o_storeA (cs := dgR (rootD tagD pss)) rfl rfl (by first | rfl | exact dgR_one _ | exact refR_one _ | exact secR_one _ | exact all_c8 _) (by first | rfl | (rw [dgR_len]; rfl) | (rw [refR_len]; rfl) | (rw [secR_len]; rfl) | (rw [List.length_map, tagF_len]; rfl)) hB16 (by exact Nat.le_of_eq (by simp [dgR_len])) rfl ?_; intro w17 hB17 hk17 hs17
      have hB17 : Blk w17 b16 (dgR (rootD tagD pss)) 23 := by
        have h := hB17
        rwa [splice_all (by simp [dgR_len])] at h
      have hkw17 : Keep All w w17 := ((hkw.trans hk15).trans hk16).new hk17 (by have := hkw.size; have := hk15.size; omega)
      refine ops_nil ?_
      refine W_seq ?_
      refine W_region ?_
      refine o_mvt rfl ?_
      refine o_mvt rfl ?_
      refine op_call rfl rfl rfl (mk_Prove _ _ pss k (rowsB_keep hv hkw17) hl (by omega)) ?_; rintro v18 w18 ⟨u, e, ds, rfl, hO, hin, heq, hk18⟩
      rw [if_pos ⟨by omega, by omega⟩] at heq
      injection heq with he hd
      subst he
      rw [Int.toNat_natCast] at hd
      obtain ⟨au, cu, rfl, hcu, hcmu⟩ := hO.form
      have hdl : ds.length < pss.length := by rw [hd]; exact proveD_len _ _ _ (Nat.le_refl _) hk'
      have hkw18 := hkw17.trans hk18
      have hB18 := hk18.blk' hB17 trivial
      refine o_mvt rfl ?_
      refine op_run (r_extract rfl rfl) rfl ?_
      refine op_run (r_extract rfl rfl) rfl ?_
      refine o_ast rfl ?_
      refine o_ast rfl ?_
      refine ops_nil ?_
      refine W_seq ?_
      refine W_cut [58] [40, 41, 42, 43, 44, 45, 46, 47, 48, 49, 50, 51, 52, 53, 54, 55, 56, 57, 58] (fun vs w19 => vs = [.bool false] ∧ Keep All w18 w19) ?_ ?_
      · refine W_held (fun w => Keep All w18 w) (by kernel_rfl) (Keep.drawn w18) (fun hS => ?_)
        refine any_mvt 0 rfl (by kernel_rfl) (by kernel_rfl) (by kernel_rfl) rfl hS ?_
        refine any_run 1 (fun w' hS' => (r_neq rfl rfl)) rfl (by kernel_rfl) (by kernel_rfl) (by kernel_rfl) rfl hS ?_
        refine any_mvt 2 rfl (by kernel_rfl) (by kernel_rfl) (by kernel_rfl) rfl hS ?_
        refine a_split 42 false rfl (fun g21 => ?_) (fun g => absurd g (by simp))
        refine any_run 3 (fun w' hS' => (r_loadA (dgR (rootD tagD pss)) rfl rfl rfl (by first | rfl | (rw [dgR_len]; rfl) | (rw [refR_len]; rfl) | (rw [secR_len]; rfl) | (rw [List.length_map, tagF_len]; rfl)) ((hS'.blk' hB18 trivial).all))) rfl (by kernel_rfl) (by kernel_rfl) (by kernel_rfl) (g_yes rfl rfl rfl g21) hS ?_
        refine any_mvt 4 rfl (by kernel_rfl) (by kernel_rfl) (by kernel_rfl) (g_yes rfl rfl rfl g21) hS ?_
        refine any_run 5 (fun w' hS' => (r_len rfl rfl rfl)) rfl (by kernel_rfl) (by kernel_rfl) (by kernel_rfl) (g_yes rfl rfl rfl g21) hS ?_
        refine any_mvt 6 rfl (by kernel_rfl) (by kernel_rfl) (by kernel_rfl) (g_yes rfl rfl rfl g21) hS ?_
        refine any_mvt 7 rfl (by kernel_rfl) (by kernel_rfl) (by kernel_rfl) (g_yes rfl rfl rfl g21) hS ?_
        refine any_mvt 8 rfl (by kernel_rfl) (by kernel_rfl) (by kernel_rfl) (g_yes rfl rfl rfl g21) hS ?_
        refine any_run 9 (fun w' hS' => (r_idxS1 rfl rfl rfl rfl (by omega) (by omega))) rfl (by kernel_rfl) (by kernel_rfl) (by kernel_rfl) (g_yes rfl rfl rfl g21) hS ?_
        refine any_run 10 (fun w' hS' => (r_load rfl rfl rfl ((by rw [Int.toNat_natCast]; exact (hkw18.trans hS').cell hck trivial)))) rfl (by kernel_rfl) (by kernel_rfl) (by kernel_rfl) (g_yes rfl rfl rfl g21) hS ?_
        refine any_mvt 12 rfl (by kernel_rfl) (by kernel_rfl) (by kernel_rfl) (g_yes rfl rfl rfl g21) hS ?_
        refine any_run 14 (fun w' hS' => (r_buildA ((List.replicate 32 (c8 0))) (_) ([]) rfl rfl rfl rfl rfl (rfl))) rfl (by kernel_rfl) (by kernel_rfl) (by kernel_rfl) (g_yes rfl rfl rfl g21) hS ?_
        refine any_two 11 15 (by kernel_rfl) (one_of rfl ?_) (one_of rfl ?_)
        · refine o_bs0 rfl rfl (g_yes rfl rfl rfl g21) ?_; intro w26 b26 e26 hB26 hk26 hs26
          refine ops_nil ⟨hS.trans hk26, fun hS => ?_⟩
          have hz26 : w18.heap.size ≤ b26 := by have := (Keep.drawn w18).size; omega
          refine any_two 13 15 (by kernel_rfl) (one_of rfl ?_) (one_of rfl ?_)
          · have hzs28 := (show Keep All w18 _ from hS).size
            refine o_appS (v := .slice (some ⟨b26, 0, none⟩) 0 0) (m := 0) (k := ds.length) (news := rows dgR ds) (xs := []) rfl rfl ((hO.keep hS (fun _ _ => trivial)).sl) rfl ti_d rfl rfl (Own.blk (n := 0) (hB26) rfl (Nat.zero_le _)) (rows_one dgR_one _) (by unfold maxLen; omega) (by omega) (g_yes rfl rfl rfl g21) ?_; intro v28 w28 hown28 hk28 hb28
            refine ops_nil ⟨(hS.outA (B := fun z => w18.heap.size ≤ z) (hk28.mono fun z _ h e => h (by have e := Option.some.inj e; rw [e]; exact hz26)) (fun z hz => hz)), fun hS => ?_⟩
            have hi28 : InB (fun z => w18.heap.size ≤ z) v28 := fun z hz => by
              rcases hb28 z hz with h | h
              · have h : b26 = z := Option.some.inj h; omega
              · omega
            refine any_one 15 (by kernel_rfl) (one_of rfl ?_)
            refine o_bsA1 (List.replicate 32 (c8 0)) rfl rfl (by rw [List.length_replicate]; exact ti_d) (by rw [List.length_replicate]; rfl) (by rw [List.length_replicate]; exact Nat.le_of_ble_eq_true rfl) (g_yes rfl rfl rfl g21) ?_; intro w30 b30 e30 hB30 hk30 hs30
            refine ops_nil ⟨hS.trans hk30, fun hS => ?_⟩
            refine any_one 16 (by kernel_rfl) (one_of rfl ?_)
            refine o_app (v := v28) (c := 1) (m := 0 + ds.length) (List.replicate 32 (c8 0)) rfl rfl rfl ti_d rfl (by decide) (hown28.keep hk30 (fun _ _ => trivial)) (by simp) (hB30).all (by decide) (by unfold maxLen; omega) (by omega) (g_yes rfl rfl rfl g21) ?_; intro v32 w32 hown32 hk32 hb32
            refine ops_nil ⟨(hS.outA (B := fun z => w18.heap.size ≤ z) (hk32.mono fun z _ h e => h (hi28 z e.symm)) (fun z hz => hz)), fun hS => ?_⟩
            refine any_one 17 (by kernel_rfl) (one_of rfl ?_)
            have hsl32 : Sl w32 v32 (ds ++ [Dig.zero]).length 32 (rows dgR (ds ++ [Dig.zero])) := by
              have h := hown32.sl
              rw [List.nil_append, Nat.zero_add, ← dgR_zero, ← rows_snoc] at h
              rw [List.length_append]; exact h
            refine op_call rfl rfl (g_yes rfl rfl rfl g21) (mk_Verify _ (rootD tagD pss) pss.length k _ _ pss[k] (ds ++ [Dig.zero]) (by unfold maxLen at hcm0; omega) (hbk.k (hkw18.trans hS)) (hl _ (List.getElem_mem _)) hsl32) ?_; rintro v34 w34 ⟨rfl, hk34⟩
            refine ops_nil ⟨hS.trans hk34, fun hS => ?_⟩
            refine any_run 18 (fun w' hS' => (r_pickF rfl g21)) rfl (by kernel_rfl) (by kernel_rfl) (by kernel_rfl) rfl hS ?_
            refine any_done (by kernel_rfl) ?_
            exact ⟨by (repeat (first | with_reducible exact offM_refl _ _ | refine offM_updc rfl ?_ | refine offM_upd rfl ?_ | refine offM_updo rfl ?_ | refine offM_updo_none ?_ | refine offM_head rfl rfl ?_)), congrArg (fun b => [Value.bool b]) (decide_eq_false fun h => prove_len_ne hk' (by rw [List.length_append, hd]; simp) _ _ h.2), hS⟩
          · refine o_bsA1 (List.replicate 32 (c8 0)) rfl rfl (by rw [List.length_replicate]; exact ti_d) (by rw [List.length_replicate]; rfl) (by rw [List.length_replicate]; exact Nat.le_of_ble_eq_true rfl) (g_yes rfl rfl rfl g21) ?_; intro w37 b37 e37 hB37 hk37 hs37
            refine ops_nil ⟨hS.trans hk37, fun hS => ?_⟩
            refine any_one 13 (by kernel_rfl) (one_of rfl ?_)
            have hzs39 := (show Keep All w18 _ from hS).size
            refine o_appS (v := .slice (some ⟨b26, 0, none⟩) 0 0) (m := 0) (k := ds.length) (news := rows dgR ds) (xs := []) rfl rfl ((hO.keep hS (fun _ _ => trivial)).sl) rfl ti_d rfl rfl (Own.blk (n := 0) (hk37.blk' hB26 trivial) rfl (Nat.zero_le _)) (rows_one dgR_one _) (by unfold maxLen; omega) (by omega) (g_yes rfl rfl rfl g21) ?_; intro v39 w39 hown39 hk39 hb39
            refine ops_nil ⟨(hS.outA (B := fun z => w18.heap.size ≤ z) (hk39.mono fun z _ h e => h (by have e := Option.some.inj e; rw [e]; exact hz26)) (fun z hz => hz)), fun hS => ?_⟩
            have hi39 : InB (fun z => w18.heap.size ≤ z) v39 := fun z hz => by
              rcases hb39 z hz with h | h
              · have h : b26 = z := Option.some.inj h; omega
              · omega
            refine any_one 16 (by kernel_rfl) (one_of rfl ?_)
            refine o_app (v := v39) (c := 1) (m := 0 + ds.length) (List.replicate 32 (c8 0)) rfl rfl rfl ti_d rfl (by decide) (hown39) (by simp) (hk39.blk' hB37 (fun e => by have e : b37 = b26 := Option.some.inj e; have := hB26.lt; omega)).all (by decide) (by unfold maxLen; omega) (by omega) (g_yes rfl rfl rfl g21) ?_; intro v41 w41 hown41 hk41 hb41
            refine ops_nil ⟨(hS.outA (B := fun z => w18.heap.size ≤ z) (hk41.mono fun z _ h e => h (hi39 z e.symm)) (fun z hz => hz)), fun hS => ?_⟩
            refine any_one 17 (by kernel_rfl) (one_of rfl ?_)
            have hsl41 : Sl w41 v41 (ds ++ [Dig.zero]).length 32 (rows dgR (ds ++ [Dig.zero])) := by
              have h := hown41.sl
              rw [List.nil_append, Nat.zero_add, ← dgR_zero, ← rows_snoc] at h
              rw [List.length_append]; exact h
            refine op_call rfl rfl (g_yes rfl rfl rfl g21) (mk_Verify _ (rootD tagD pss) pss.length k _ _ pss[k] (ds ++ [Dig.zero]) (by unfold maxLen at hcm0; omega) (hbk.k (hkw18.trans hS)) (hl _ (List.getElem_mem _)) hsl41) ?_; rintro v43 w43 ⟨rfl, hk43⟩
            refine ops_nil ⟨hS.trans hk43, fun hS => ?_⟩
            refine any_run 18 (fun w' hS' => (r_pickF rfl g21)) rfl (by kernel_rfl) (by kernel_rfl) (by kernel_rfl) rfl hS ?_
            refine any_done (by kernel_rfl) ?_
            exact ⟨by (repeat (first | with_reducible exact offM_refl _ _ | refine offM_updc rfl ?_ | refine offM_upd rfl ?_ | refine offM_updo rfl ?_ | refine offM_updo_none ?_ | refine offM_head rfl rfl ?_)), congrArg (fun b => [Value.bool b]) (decide_eq_false fun h => prove_len_ne hk' (by rw [List.length_append, hd]; simp) _ _ h.2), hS⟩
        · refine o_bsA1 (List.replicate 32 (c8 0)) rfl rfl (by rw [List.length_replicate]; exact ti_d) (by rw [List.length_replicate]; rfl) (by rw [List.length_replicate]; exact Nat.le_of_ble_eq_true rfl) (g_yes rfl rfl rfl g21) ?_; intro w46 b46 e46 hB46 hk46 hs46
          refine ops_nil ⟨hS.trans hk46, fun hS => ?_⟩
          refine any_one 11 (by kernel_rfl) (one_of rfl ?_)
          refine o_bs0 rfl rfl (g_yes rfl rfl rfl g21) ?_; intro w48 b48 e48 hB48 hk48 hs48
          refine ops_nil ⟨hS.trans hk48, fun hS => ?_⟩
          have hz48 : w18.heap.size ≤ b48 := by have := (Keep.drawn w18).size; have := hk46.size; omega
          refine any_one 13 (by kernel_rfl) (one_of rfl ?_)
          have hzs50 := (show Keep All w18 _ from hS).size
          refine o_appS (v := .slice (some ⟨b48, 0, none⟩) 0 0) (m := 0) (k := ds.length) (news := rows dgR ds) (xs := []) rfl rfl ((hO.keep hS (fun _ _ => trivial)).sl) rfl ti_d rfl rfl (Own.blk (n := 0) (hB48) rfl (Nat.zero_le _)) (rows_one dgR_one _) (by unfold maxLen; omega) (by omega) (g_yes rfl rfl rfl g21) ?_; intro v50 w50 hown50 hk50 hb50
          refine ops_nil ⟨(hS.outA (B := fun z => w18.heap.size ≤ z) (hk50.mono fun z _ h e => h (by have e := Option.some.inj e; rw [e]; exact hz48)) (fun z hz => hz)), fun hS => ?_⟩
          have hi50 : InB (fun z => w18.heap.size ≤ z) v50 := fun z hz => by
            rcases hb50 z hz with h | h
            · have h : b48 = z := Option.some.inj h; omega
            · omega
          refine any_one 16 (by kernel_rfl) (one_of rfl ?_)
          refine o_app (v := v50) (c := 1) (m := 0 + ds.length) (List.replicate 32 (c8 0)) rfl rfl rfl ti_d rfl (by decide) (hown50) (by simp) (hk50.blk' (hk48.blk' hB46 trivial) (fun e => by have e : b46 = b48 := Option.some.inj e; have := hB46.lt; omega)).all (by decide) (by unfold maxLen; omega) (by omega) (g_yes rfl rfl rfl g21) ?_; intro v52 w52 hown52 hk52 hb52
          refine ops_nil ⟨(hS.outA (B := fun z => w18.heap.size ≤ z) (hk52.mono fun z _ h e => h (hi50 z e.symm)) (fun z hz => hz)), fun hS => ?_⟩
          refine any_one 17 (by kernel_rfl) (one_of rfl ?_)
          have hsl52 : Sl w52 v52 (ds ++ [Dig.zero]).length 32 (rows dgR (ds ++ [Dig.zero])) := by
            have h := hown52.sl
            rw [List.nil_append, Nat.zero_add, ← dgR_zero, ← rows_snoc] at h
            rw [List.length_append]; exact h
          refine op_call rfl rfl (g_yes rfl rfl rfl g21) (mk_Verify _ (rootD tagD pss) pss.length k _ _ pss[k] (ds ++ [Dig.zero]) (by unfold maxLen at hcm0; omega) (hbk.k (hkw18.trans hS)) (hl _ (List.getElem_mem _)) hsl52) ?_; rintro v54 w54 ⟨rfl, hk54⟩
          refine ops_nil ⟨hS.trans hk54, fun hS => ?_⟩
          refine any_run 18 (fun w' hS' => (r_pickF rfl g21)) rfl (by kernel_rfl) (by kernel_rfl) (by kernel_rfl) rfl hS ?_
          refine any_done (by kernel_rfl) ?_
          exact ⟨by (repeat (first | with_reducible exact offM_refl _ _ | refine offM_updc rfl ?_ | refine offM_upd rfl ?_ | refine offM_updo rfl ?_ | refine offM_updo_none ?_ | refine offM_head rfl rfl ?_)), congrArg (fun b => [Value.bool b]) (decide_eq_false fun h => prove_len_ne hk' (by rw [List.length_append, hd]; simp) _ _ h.2), hS⟩
      · rintro J57 vs w57 ⟨rfl, hk57⟩ -
        refine W_no rfl (rfl) ?_
        refine W_skip ?_
        refine W_seq ?_
        refine W_seq ?_
        refine W_region ?_
        refine o_mvt rfl ?_
        refine op_run (r_len rfl rfl rfl) rfl ?_
        refine op_run (r_eql rfl rfl) rfl ?_
        refine ops_nil ?_
        refine W_cond_p rfl (fun h60 => ?_) (fun h60 => ?_)
        · refine W_seq ?_
          refine W_region ?_
          refine o_asc rfl ?_
          refine ops_nil ?_
          refine W_ret ?_
          refine ret1 (.bool true) rfl ?_ ?_; rfl
          exact ⟨rfl, hkw18.trans hk57⟩
        · refine W_skip ?_
          refine W_seq ?_
          refine W_seq ?_
          have hd0 : 0 < ds.length := by omega
          have hkw57 := hkw18.trans hk57
          have hB57 := hk57.blk' hB18 trivial
          have hO57 := hO.keep hk57 (fun _ _ => trivial)
          refine W_quiet (Keep All w57) (by kernel_rfl) (by kernel_rfl) (Keep.drawn _) ?_
          refine q_run (fun _ hk => r_loadA (dgR (rootD tagD pss)) rfl rfl rfl (by first | rfl | (rw [dgR_len]; rfl) | (rw [refR_len]; rfl) | (rw [secR_len]; rfl) | (rw [List.length_map, tagF_len]; rfl)) ((hk.blk' hB57 trivial).all)) rfl ?_
          refine q_mvt rfl ?_
          refine q_run (fun _ _ => (r_len rfl rfl rfl)) rfl ?_
          refine q_mvt rfl ?_
          refine q_mvt rfl ?_
          refine q_mvt rfl ?_
          refine q_run (fun _ _ => r_idxS1 rfl rfl rfl rfl (by omega) (by omega)) rfl ?_
          refine q_run (fun _ hk => r_load rfl rfl rfl (hk.cell (by rw [Int.toNat_natCast]; exact hkw57.cell hck trivial) trivial)) rfl ?_
          refine q_mvt rfl ?_
          refine q_run (fun _ _ => (r_sliceS_lo rfl rfl rfl rfl (by omega) (by omega))) rfl ?_
          have hsl1 : Sl w57 (subSl au 32 1 ds.length cu) (ds.drop 1).length 32 (rows dgR (ds.drop 1)) := by
            have h := hO57.sl.sub (show 1 ≤ ds.length by omega) (Nat.le_refl _) hcu (Nat.le_refl _)
            rw [List.length_drop]
            rwa [List.take_of_length_le (by rw [rows_len dgR_len]; exact Nat.le_refl _), rows_drop dgR_len] at h
          refine q_call rfl rfl rfl (fun _ hk => Calls.mono (mk_Verify _ (rootD tagD pss) pss.length k _ _ pss[k] (ds.drop 1) (by unfold maxLen at hcm0; omega) (hbk.k (hkw57.trans hk)) (hl _ (List.getElem_mem _)) (hsl1.k hk)) fun e w'' ⟨u, he, h1, h2⟩ => ⟨u, he, h1.trans (congrArg Value.bool (decide_eq_false fun h => prove_len_ne hk' (by rw [List.length_drop, ← hd]; omega) _ _ h.2)), hk.trans h2⟩) ?_
          refine q_nil ?_; intro w68 hk68
          refine W_no rfl (rfl) ?_
          refine W_skip ?_
          refine W_seq ?_
          refine W_region ?_
          refine o_bs0 rfl rfl rfl ?_; intro w71 b71 e71 hB71 hk71 hs71
          have hkA := hk68.trans hk71
          have hz71 : w.heap.size ≤ b71 := by have := hkw57.size; have := hk68.size; omega
          refine o_mvt rfl ?_
          refine o_appS (v := .slice (some ⟨b71, 0, none⟩) 0 0) (m := 0) (k := ds.length) (news := rows dgR ds) (xs := []) rfl rfl ((hO57.keep hkA (fun _ _ => trivial)).sl) rfl ti_d rfl rfl (Own.blk (n := 0) hB71 rfl (Nat.zero_le _)) (rows_one dgR_one _) (by unfold maxLen; omega) (by omega) rfl ?_; intro v72 w72 hown72 hk72 hb72
          have hkw72 : Keep All w w72 := (hkw57.trans hkA).outA (B := fun z => w.heap.size ≤ z) (hk72.mono fun z _ h e => h (by have e := Option.some.inj e; rw [e]; exact hz71)) (fun z hz => hz)
          have hB72 : Blk w72 b16 (dgR (rootD tagD pss)) 23 := hk72.blk' (hkA.blk' hB57 trivial) (fun e => by have e : b16 = b71 := Option.some.inj e; have := hB57.lt; have := hk68.size; omega)
          rw [Nat.zero_add, List.nil_append] at hown72
          refine o_ast rfl ?_
          refine ops_nil ?_
          refine W_seq ?_
          obtain ⟨g, c, ex, ev1, hgc, hgm, hB, hre⟩ := hown72.open hd0
          subst ev1
          have hgw : w.heap.size ≤ g := by
            rcases hb72 g rfl with h | h
            · have h : b71 = g := Option.some.inj h; omega
            · have := (hkw57.trans hkA).size; omega
          obtain ⟨m, hmd⟩ : ∃ m, m = n2 % ds.length := ⟨_, rfl⟩
          have hml : m < ds.length := by rw [hmd]; exact Nat.mod_lt _ hd0
          obtain ⟨dm, hdm⟩ : ∃ d, d = ds[m] := ⟨_, rfl⟩
          have hjl : n3 < dm.val.length := by rw [dm.2]; omega
          obtain ⟨x, hx⟩ : ∃ x, x = dm.val[n3] := ⟨_, rfl⟩
          refine W_gate 16 (fun w => Keep All w72 w) (by kernel_rfl) (Keep.drawn w72) (fun hS => ?_)
          refine gt_mvt 0 rfl (by kernel_rfl) (by kernel_rfl) (by kernel_rfl) (by kernel_rfl) rfl hS ?_
          refine gt_mvt 1 rfl (by kernel_rfl) (by kernel_rfl) (by kernel_rfl) (by kernel_rfl) rfl hS ?_
          refine gt_run 2 (fun w' hS' => ((r_and rfl rfl).val (congrArg (Value.int .i64) (show bitw .and .i64 which 65535 = ((n2 : Nat) : Int) from hn2)))) rfl (by kernel_rfl) (by kernel_rfl) (by kernel_rfl) (by kernel_rfl) rfl hS ?_
          refine gt_mvt 3 rfl (by kernel_rfl) (by kernel_rfl) (by kernel_rfl) (by kernel_rfl) rfl hS ?_
          refine gt_run 4 (fun w' hS' => (r_len rfl rfl rfl)) rfl (by kernel_rfl) (by kernel_rfl) (by kernel_rfl) (by kernel_rfl) rfl hS ?_
          refine gt_run 5 (fun w' hS' => ((r_rem rfl rfl (by omega)).val (congrArg (Value.int .i64) (tmod_nat n2 ds.length)))) rfl (by kernel_rfl) (by kernel_rfl) (by kernel_rfl) (by kernel_rfl) rfl hS ?_
          rw [← hmd]
          refine gt_mvt 6 rfl (by kernel_rfl) (by kernel_rfl) (by kernel_rfl) (by kernel_rfl) rfl hS ?_
          refine gt_run 7 (fun w' hS' => (r_shr rfl rfl (by decide))) rfl (by kernel_rfl) (by kernel_rfl) (by kernel_rfl) (by kernel_rfl) rfl hS ?_
          refine gt_run 8 (fun w' hS' => ((r_and rfl rfl).val (congrArg (Value.int .i64) (show bitw .and .i64 (which.fdiv (2 ^ (min ((4 : Int)).toNat IntKind.i64.bits))) 31 = ((n3 : Nat) : Int) from hn3)))) rfl (by kernel_rfl) (by kernel_rfl) (by kernel_rfl) (by kernel_rfl) rfl hS ?_
          refine gt_run 9 (fun w' hS' => (r_idxS rfl rfl rfl ti_d (by omega) (by omega))) rfl (by kernel_rfl) (by kernel_rfl) (by kernel_rfl) (by kernel_rfl) rfl hS ?_
          refine gt_run 10 (fun w' hS' => (r_idxA1 rfl rfl rfl rfl (by omega) (by omega))) rfl (by kernel_rfl) (by kernel_rfl) (by kernel_rfl) (by kernel_rfl) rfl hS ?_
          refine gt_run 11 (fun w' hS' => (r_load (v := c8 x) rfl rfl rfl (by
              show w'.cell? ⟨g, 0 + ((m : Nat) : Int).toNat * 32 + ((n3 : Nat) : Int).toNat, none⟩ = some (c8 x)
              have h := rowD (hS'.blk' hB trivial) (show ds[m]? = some dm by rw [hdm]; exact List.getElem?_eq_getElem hml) n3 (c8 x) (by unfold dgR; rw [List.getElem?_map, List.getElem?_eq_getElem hjl, ← hx]; rfl)
              rw [Addr.add_lit] at h
              rw [Int.toNat_natCast, Int.toNat_natCast]; exact h))) rfl (by kernel_rfl) (by kernel_rfl) (by kernel_rfl) (by kernel_rfl) rfl hS ?_
          refine gt_mvt 12 rfl (by kernel_rfl) (by kernel_rfl) (by kernel_rfl) (by kernel_rfl) rfl hS ?_
          refine gt_run 13 (fun w' hS' => ((r_xor rfl rfl).val (congrArg (Value.int .u8) (show bitw .xor .u8 ((x.toNat : Nat) : Int) ((t.toNat : Nat) : Int) = (((x ^^^ t).toNat : Nat) : Int) from (bitw_xor rfl _ _ x.toNat_lt t.toNat_lt).trans (by rw [UInt8.toNat_xor]))))) rfl (by kernel_rfl) (by kernel_rfl) (by kernel_rfl) (by kernel_rfl) rfl hS ?_
          refine gt_run 14 (fun w' hS' => (r_idxS rfl rfl rfl ti_d (by omega) (by omega))) rfl (by kernel_rfl) (by kernel_rfl) (by kernel_rfl) (by kernel_rfl) rfl hS ?_
          refine gt_run 15 (fun w' hS' => (r_idxA1 rfl rfl rfl rfl (by omega) (by omega))) rfl (by kernel_rfl) (by kernel_rfl) (by kernel_rfl) (by kernel_rfl) rfl hS ?_
          refine gt_past 16 (by kernel_rfl) (by kernel_rfl) (one_of rfl ?_)
          refine o_store (v := c8 (x ^^^ t)) rfl rfl rfl rfl ((Keep.drawn w72).blk' hB trivial) (by rw [List.length_append, rows_len dgR_len, Int.toNat_natCast, Int.toNat_natCast]; omega) rfl ?_; intro w80 hB80 hk80 hs80
          obtain ⟨d', hd'⟩ : ∃ d' : Dig, d'.val = dm.val.set n3 (x ^^^ t) := ⟨⟨dm.val.set n3 (x ^^^ t), by rw [List.length_set]; exact dm.2⟩, rfl⟩
          have hB80' : Blk w80 g (rows dgR (ds.set m d') ++ ex) 23 := by
            have h : Blk w80 g ((rows dgR ds ++ ex).set (0 + ((m : Nat) : Int).toNat * 32 + ((n3 : Nat) : Int).toNat) (c8 (x ^^^ t))) 23 := hB80
            rw [Int.toNat_natCast, Int.toNat_natCast, Nat.zero_add, List.set_append_left _ _ (by rw [rows_len dgR_len]; omega), rows_setj dgR_len d' _ (by omega) ds m hml (by unfold dgR; rw [hd', ← hdm, List.map_set])] at h
            exact h
          have hO80 : Own w80 23 32 (.slice (some ⟨g, 0, none⟩) ds.length c) ds.length (rows dgR (ds.set m d')) := hre _ _ hB80' (by rw [rows_len dgR_len, rows_len dgR_len, List.length_set])
          have hsl : Sl w80 (.slice (some ⟨g, 0, none⟩) ds.length c) (ds.set m d').length 32 (rows dgR (ds.set m d')) := by rw [List.length_set]; exact hO80.sl
          have hkw80 : Keep All w w80 := (hkw72.trans (Keep.drawn w72)).new hk80 hgw
          have hB80r : Blk w80 b16 (dgR (rootD tagD pss)) 23 := hk80.blk' ((Keep.drawn w72).blk' hB72 trivial) (fun e => by
            rcases hb72 g rfl with h | h
            · have h : b71 = g := Option.some.inj h; have := hB57.lt; have := hk68.size; omega
            · have := hB57.lt; have := hkA.size; omega)
          have hne : ds.set m d' ≠ proveD tagD pss k := by
            rw [← hd]
            intro h
            have h1 : (ds.set m d')[m]? = ds[m]? := by rw [h]
            rw [List.getElem?_set_self hml, List.getElem?_eq_getElem hml, ← hdm] at h1
            have h2 : d' = dm := Option.some.inj h1
            have h3 : (dm.val.set n3 (x ^^^ t))[n3]? = dm.val[n3]? := by rw [← hd', h2]
            rw [List.getElem?_set_self hjl, List.getElem?_eq_getElem hjl, ← hx] at h3
            exact xor_ne ht (Option.some.inj h3)
          refine ops_nil ?_
          refine gt_done (by kernel_rfl) ?_
          refine W_seq ?_
          refine W_quiet (Keep All w80) (by kernel_rfl) (by kernel_rfl) (Keep.drawn _) ?_
          refine q_run (fun _ hk => r_loadA (dgR (rootD tagD pss)) rfl rfl rfl (by first | rfl | (rw [dgR_len]; rfl) | (rw [refR_len]; rfl) | (rw [secR_len]; rfl) | (rw [List.length_map, tagF_len]; rfl)) ((hk.blk' hB80r trivial).all)) rfl ?_
          refine q_mvt rfl ?_
          refine q_run (fun _ _ => (r_len rfl rfl rfl)) rfl ?_
          refine q_mvt rfl ?_
          refine q_mvt rfl ?_
          refine q_mvt rfl ?_
          refine q_run (fun _ _ => r_idxS1 rfl rfl rfl rfl (by omega) (by omega)) rfl ?_
          refine q_run (fun _ hk => r_load rfl rfl rfl (hk.cell (by rw [Int.toNat_natCast]; exact hkw80.cell hck trivial) trivial)) rfl ?_
          refine q_mvt rfl ?_
          refine q_call rfl rfl rfl (fun _ hk => Calls.mono (mk_Verify _ (rootD tagD pss) pss.length k _ _ pss[k] (ds.set m d') (by unfold maxLen at hcm0; omega) (hbk.k (hkw80.trans hk)) (hl _ (List.getElem_mem _)) (hsl.k hk)) fun e w'' ⟨u, he, h1, h2⟩ => ⟨u, he, h1, hk.trans h2⟩) ?_
          refine q_run (fun _ _ => (r_not rfl)) rfl ?_
          refine q_mvt rfl ?_
          refine q_split rfl rfl rfl (fun g86 => ?_) (fun g86 => ?_)
          · refine q_mvt (g_yes rfl rfl rfl (by rw [g86] <;> rfl)) ?_
            refine q_mvt (g_yes rfl rfl rfl (by rw [g86] <;> rfl)) ?_
            refine q_mvt (g_yes rfl rfl rfl (by rw [g86] <;> rfl)) ?_
            refine q_mvt (g_yes rfl rfl rfl (by rw [g86] <;> rfl)) ?_
            refine q_run (fun _ _ => r_idxS1 rfl rfl rfl rfl (by omega) (by omega)) (g_yes rfl rfl rfl (by rw [g86] <;> rfl)) ?_
            refine q_run (fun _ hk => r_load rfl rfl rfl (hk.cell (by rw [Int.toNat_natCast]; exact hkw80.cell hck trivial) trivial)) (g_yes rfl rfl rfl (by rw [g86] <;> rfl)) ?_
            refine q_mvt (g_yes rfl rfl rfl (by rw [g86] <;> rfl)) ?_
            have hver : leadD tagD pss.length k pss[k] (ds.set m d') = (rootD tagD pss, true) := by
              have g86 := (by simpa using g86 : _ ∧ leadD tagD pss.length k pss[k] (ds.set m d') = (rootD tagD pss, true))
              exact g86.2
            refine q_call rfl rfl (g_yes rfl rfl rfl (by rw [g86] <;> rfl)) (fun _ hk => Calls.mono (law_clash pss.length _ _ _ _ pss k pss[k] (ds.set m d') rfl hk' (rowsB_keep hv (hkw80.trans hk)) hl (hbk.k (hkw80.trans hk)) (hl _ (List.getElem_mem _)) (hsl.k hk)) fun e w'' ⟨u, he, h1, h2⟩ => ⟨u, he, h1.trans (congrArg Value.bool (clash_found tagD pss.length pss k _ _ (Nat.le_refl _) hk' hver (.inr hne))), hk.trans h2⟩) ?_
            refine q_pkFt rfl (by rw [g86] <;> rfl) rfl ?_
            refine q_ast rfl ?_
            refine q_nil ?_; intro w90 hk90
            refine W_ret ?_
            refine ret1 (.bool true) rfl ?_ ?_; rfl
            exact ⟨rfl, hkw80.trans hk90⟩
          · refine q_skip (g_no rfl rfl rfl (by rw [g86] <;> rfl)) ?_
            refine q_skip (g_no rfl rfl rfl (by rw [g86] <;> rfl)) ?_
            refine q_skip (g_no rfl rfl rfl (by rw [g86] <;> rfl)) ?_
            refine q_skip (g_no rfl rfl rfl (by rw [g86] <;> rfl)) ?_
            refine q_skip (g_no rfl rfl rfl (by rw [g86] <;> rfl)) ?_
            refine q_skip (g_no rfl rfl rfl (by rw [g86] <;> rfl)) ?_
            refine q_skip (g_no rfl rfl rfl (by rw [g86] <;> rfl)) ?_
            refine q_skip (g_no rfl rfl rfl (by rw [g86] <;> rfl)) ?_
            refine q_pkTc rfl (by rw [g86] <;> rfl) rfl ?_
            refine q_ast rfl ?_
            refine q_nil ?_; intro w92 hk92
            refine W_ret ?_
            refine ret1 (.bool true) rfl ?_ ?_; rfl
            exact ⟨rfl, hkw80.trans hk92⟩
end Go.Proofs.Ytnjepmdgbkhoaaa.B
