/-
  sporranref11: Right, Decode.
-/
import Derived.Test.YtkmciohghhffnaaIdx5
namespace Go.Proofs.Ytkmciohghhffnaa.B
open Go
set_option linter.unusedVariables false
set_option maxHeartbeats 2000000
set_option maxRecDepth 100000
attribute [local irreducible] W OpsW OpsQ retP
def lessC : List UInt8 → List UInt8 → Bool
  | a :: l, b :: r => if a = b then lessC l r else decide (a.toNat < b.toNat)
  | _, _ => false
theorem lessC_at : ∀ (i : Nat) (a b : List UInt8) (x y : UInt8), a.take i = b.take i → a[i]? = some x → b[i]? = some y → x ≠ y → lessC a b = decide (x.toNat < y.toNat)
  | 0, x' :: l, y' :: r, x, y, _, hx, hy, hne => by
    simp at hx hy; subst hx; subst hy
    unfold lessC; rw [if_neg hne]
  | i + 1, x' :: l, y' :: r, x, y, ht, hx, hy, hne => by
    rw [List.take_succ_cons, List.take_succ_cons] at ht
    injection ht with h1 h2
    subst h1
    unfold lessC; rw [if_pos rfl]
    exact lessC_at i l r x y h2 (by simpa using hx) (by simpa using hy) hne
  | 0, [], _, x, y, _, hx, _, _ => by simp at hx
  | 0, _ :: _, [], x, y, _, _, hy, _ => by simp at hy
  | i + 1, [], _, x, y, _, hx, _, _ => by simp at hx
  | i + 1, _ :: _, [], x, y, _, _, hy, _ => by simp at hy
theorem lessC_self : ∀ a, lessC a a = false
  | [] => rfl
  | x :: l => by unfold lessC; rw [if_pos rfl]; exact lessC_self l
theorem rf8_LessC (w : World) (a b : Dig) : Ret Try.prog 71 [.agg (dgR a).toArray, .agg (dgR b).toArray].toArray w fun r w' => r = .bool (lessC a.val b.val) ∧ Keep All w w' := by
  refine enter (fn := Try.f71) (n := 24) Try.func71 rfl rfl (by simp) ?_
  refine W_seq ?_
  refine W_region ?_
  refine o_box rfl rfl rfl ?_; intro w1 b1 e1 hB1 hk1 hs1
  have hB1 : Blk w1 b1 (dgR a) 41 := hB1
  refine o_box rfl rfl rfl ?_; intro w2 b2 e2 hB2 hk2 hs2
  have hB2 : Blk w2 b2 (dgR b) 41 := hB2
  have ha32 := a.2
  have hb32 := b.2
  refine o_asc rfl ?_
  refine ops_nil ?_
  refine W_seq ?_
  refine W_seq ?_
  refine W_region ?_
  refine o_asc rfl ?_
  refine ops_nil ?_
  refine W_block ?_
  refine W_loop [5] [4, 5, 6, 7, 8, 9, 10, 11, 12, 13, 14, 15, 16, 17, 18, 19, 20, 21, 22, 23] (fun vs w' => ∃ k : Nat, vs = [.int .i64 k] ∧ k ≤ 32 ∧ a.val.take k = b.val.take k ∧ Keep All w2 w') (fun vs _ => match vs with | [.int _ y] => 32 - y.toNat | _ => 0) ⟨0, rfl, Nat.zero_le _, by simp, Keep.refl _⟩ ?_
  rintro J3 vs w3 ⟨k, rfl, hk, htk, hk3⟩ -
  refine W_seq ?_
  refine W_seq ?_
  refine W_region ?_
  refine o_mvt rfl ?_
  refine op_run (r_lss rfl rfl) rfl ?_
  refine ops_nil ?_
  refine W_cond_p rfl (fun h4 => ?_) (fun h4 => ?_)
  · refine W_skip ?_
    refine W_seq ?_
    refine W_block ?_
    refine W_seq ?_
    have hk32 : k < 32 := by omega
    obtain ⟨x, hx⟩ : ∃ x, a.val[k]? = some x := ⟨_, List.getElem?_eq_getElem (by omega)⟩
    obtain ⟨y, hy⟩ : ∃ y, b.val[k]? = some y := ⟨_, List.getElem?_eq_getElem (by omega)⟩
    have hB13 := hk3.blk' (hk2.blk' hB1 trivial) trivial
    have hB23 := hk3.blk' hB2 trivial
    have hgx : (dgR a)[k]? = some (c8 x) := by unfold dgR; rw [List.getElem?_map, hx]; rfl
    have hgy : (dgR b)[k]? = some (c8 y) := by unfold dgR; rw [List.getElem?_map, hy]; rfl
    have hinc := inc64' k (by omega)
    refine W_quiet (Keep All w3) (by kernel_rfl) (by kernel_rfl) (Keep.drawn _) ?_
    refine q_mvt rfl ?_
    refine q_run (fun _ _ => r_idxA1 rfl rfl rfl rfl (by omega) (by omega)) rfl ?_
    refine q_run (fun _ hk => r_load (v := c8 x) rfl rfl rfl (hk.cell (hB13.cell (by rw [Int.toNat_natCast, Nat.zero_add]; exact hgx)) trivial)) rfl ?_
    refine q_mvt rfl ?_
    refine q_run (fun _ _ => r_idxA1 rfl rfl rfl rfl (by omega) (by omega)) rfl ?_
    refine q_run (fun _ hk => r_load (v := c8 y) rfl rfl rfl (hk.cell (hB23.cell (by rw [Int.toNat_natCast, Nat.zero_add]; exact hgy)) trivial)) rfl ?_
    refine q_run (fun _ _ => (r_neq rfl rfl)) rfl ?_
    refine q_nil ?_; intro w10 hk10
    refine W_cond_p rfl (fun h11 => ?_) (fun h11 => ?_)
    · refine W_seq ?_
      refine W_quiet (Keep All w10) (by kernel_rfl) (by kernel_rfl) (Keep.drawn _) ?_
      refine q_mvt rfl ?_
      refine q_run (fun _ _ => r_idxA1 rfl rfl rfl rfl (by omega) (by omega)) rfl ?_
      refine q_run (fun _ hk => r_load (v := c8 x) rfl rfl rfl (hk.cell ((hk10.blk' hB13 trivial).cell (by rw [Int.toNat_natCast, Nat.zero_add]; exact hgx)) trivial)) rfl ?_
      refine q_mvt rfl ?_
      refine q_run (fun _ _ => r_idxA1 rfl rfl rfl rfl (by omega) (by omega)) rfl ?_
      refine q_run (fun _ hk => r_load (v := c8 y) rfl rfl rfl (hk.cell ((hk10.blk' hB23 trivial).cell (by rw [Int.toNat_natCast, Nat.zero_add]; exact hgy)) trivial)) rfl ?_
      refine q_run (fun _ _ => (r_lss rfl rfl)) rfl ?_
      refine q_ast rfl ?_
      refine q_nil ?_; intro w17 hk17
      refine W_ret ?_
      refine ret1 (.bool (decide ((x.toNat : Int) < (y.toNat : Int)))) rfl ?_ ?_; rfl
      refine ⟨congrArg Value.bool ?_, (((hk1.trans hk2).trans hk3).trans hk10).trans hk17⟩
      rw [lessC_at k a.val b.val x y htk hx hy (fun e => h11 (by rw [e])), decide_eq_decide]; omega
    · refine W_skip ?_
      refine W_region ?_
      refine o_mvt rfl ?_
      refine op_run (r_add rfl rfl) rfl ?_
      refine o_ast rfl ?_
      refine ops_nil ?_
      have hxy : x = y := UInt8.toNat_inj.1 (by have := Decidable.not_not.1 h11; omega)
      refine ⟨by (repeat (first | with_reducible exact offM_refl _ _ | refine offM_updc rfl ?_ | refine offM_upd rfl ?_ | refine offM_updo rfl ?_ | refine offM_updo_none ?_ | refine offM_head rfl rfl ?_)), ⟨k + 1, congrArg (fun z : Int => [Value.int .i64 z]) hinc, by omega, ?_, hk3.trans hk10⟩, ?_⟩
      · rw [List.take_succ_eq_append_getElem (by omega), List.take_succ_eq_append_getElem (by omega), htk, (List.getElem?_eq_some_iff.1 hx).2, (List.getElem?_eq_some_iff.1 hy).2, hxy]
      · show 32 - (IntKind.i64.wrap ((k : Int) + 1)).toNat < 32 - (k : Int).toNat
        rw [hinc]; omega
  · refine W_exit ?_
    refine W_seq ?_
    refine W_region ?_
    refine o_asc rfl ?_
    refine ops_nil ?_
    refine W_ret ?_
    refine ret1 (.bool false) rfl ?_ ?_; rfl
    have hke : k = 32 := by omega
    subst hke
    rw [List.take_of_length_le (by omega), List.take_of_length_le (by omega)] at htk
    exact ⟨by rw [htk, lessC_self], (hk1.trans hk2).trans hk3⟩

theorem lessC_lt : ∀ (a b : List UInt8), a.length = b.length → (lessC a b = true ↔ a < b)
  | [], [], _ => by simp [lessC]
  | a :: l, b :: r, h => by
    unfold lessC
    rw [List.cons_lt_cons_iff]
    by_cases e : a = b
    · rw [if_pos e, lessC_lt l r (by simpa using h)]
      subst e
      exact ⟨fun h => .inr ⟨rfl, h⟩, fun h => h.elim (fun h => absurd h (by simp)) (fun h => h.2)⟩
    · rw [if_neg e, decide_eq_true_eq]
      rw [UInt8.lt_iff_toNat_lt]
      exact ⟨.inl, fun h => h.elim id (fun h => absurd h.1 e)⟩
theorem lessC_D (a b : Dig) : lessC a.val b.val = decide (a.val < b.val) := by
  rw [Bool.eq_iff_iff, decide_eq_true_eq]
  exact lessC_lt _ _ (by rw [a.2, b.2])
theorem okL_step {l : List Itm} {i : Nat} {x : Itm} (hi : i < l.length) (hx : l[i] = x) : okL (lastO (l.take i)) (l.drop i) ↔ okI (lastO (l.take i)) x ∧ okL (lastO (l.take (i + 1))) (l.drop (i + 1)) := by
  rw [List.drop_eq_getElem_cons hi, hx, List.take_succ_eq_append_getElem hi, hx, lastO_snoc]
  exact Iff.rfl
theorem lastO_take {l : List Itm} {i : Nat} {y : Itm} (hi : i ≤ l.length) (h0 : 0 < i) (hy : l[i - 1]'(by omega) = y) : lastO (l.take i) = some y.1 := by
  obtain ⟨j, rfl⟩ : ∃ j, i = j + 1 := ⟨i - 1, by omega⟩
  rw [List.take_succ_eq_append_getElem (by omega), lastO_snoc]
  congr 2
theorem rf11_Right (w : World) (v : Value) (l : List Itm) (hS : Sl w v l.length 35 (rows itR l)) (hin : ∀ x ∈ l, inI x) :
    Ret Try.prog 43 [v].toArray w fun r w' => r = .bool (decide (okL none l)) ∧ Keep All w w' := by
  obtain ⟨a0, c0, rfl, hc0, hcm0⟩ := hS.form
  have hm0 : c0 ≤ 9223372036854775807 := hcm0
  refine enter (fn := Try.f43) (n := 77) Try.func43 rfl rfl (by simp) ?_
  refine W_seq ?_
  refine W_region ?_
  refine o_asc rfl ?_
  refine ops_nil ?_
  refine W_seq ?_
  refine W_seq ?_
  refine W_region ?_
  refine o_asc rfl ?_
  refine ops_nil ?_
  refine W_block ?_
  refine W_loop [3] [2, 3, 4, 5, 6, 7, 8, 9, 10, 11, 12, 13, 14, 15, 16, 17, 18, 19, 20, 21, 22, 23, 24, 25, 26, 27, 28, 29, 30, 31, 32, 33, 34, 35, 36, 37, 38, 39, 40, 41, 42, 43, 44, 45, 46, 47, 48, 49, 50, 51, 52, 53, 54, 55, 56, 57, 58, 59, 60, 61, 62, 63, 64, 65, 66, 67, 68, 69, 70, 71, 72, 73, 74, 75, 76] (fun vs w' => ∃ i : Nat, vs = [.int .i64 i] ∧ i ≤ l.length ∧ (okL none l ↔ okL (lastO (l.take i)) (l.drop i)) ∧ Keep All w w') (fun vs _ => match vs with | [.int _ y] => l.length - y.toNat | _ => 0) ⟨0, rfl, Nat.zero_le _, Iff.rfl, Keep.refl _⟩ ?_
  rintro J1 vs w1 ⟨i, rfl, hi, hok, hk1⟩ -
  refine W_seq ?_
  refine W_seq ?_
  refine W_region ?_
  refine o_mvt rfl ?_
  refine o_mvt rfl ?_
  refine op_run (r_len rfl rfl rfl) rfl ?_
  refine op_run (r_lss rfl rfl) rfl ?_
  refine ops_nil ?_
  refine W_cond_p rfl (fun h2 => ?_) (fun h2 => ?_)
  · refine W_skip ?_
    refine W_seq ?_
    refine W_block ?_
    refine W_seq ?_
    refine W_region ?_
    refine o_mvt rfl ?_
    refine o_mvt rfl ?_
    have hil : i < l.length := by omega
    have hinc := inc64' i (by omega)
    obtain ⟨sb, so, rfl, hcx⟩ := rows_at' (i := i) itR_len (hS.keep hk1 fun _ _ => trivial) hil (by decide)
    obtain ⟨sb2, so2, e2_, hcy⟩ := rows_at' (i := i - 1) itR_len (hS.keep hk1 fun _ _ => trivial) (by omega) (by decide)
    cases e2_
    obtain ⟨x, hx⟩ : ∃ x, l[i] = x := ⟨_, rfl⟩
    obtain ⟨y, hy⟩ : ∃ y, l[i - 1]'(by omega) = y := ⟨_, rfl⟩
    rw [hx] at hcx
    rw [hy] at hcy
    have hxin := hin x (by rw [← hx]; exact List.getElem_mem hil)
    obtain ⟨hx1, hx2, hx3, hx4, hx5, hx6⟩ := hxin
    have hstep := okL_step hil hx
    refine op_run (r_idxS rfl rfl rfl rfl (by omega) (by omega)) rfl ?_
    refine op_run (r_fieldAddr rfl rfl rfl rfl rfl) rfl ?_
    refine op_run (r_loadA ([.int .i64 x.2.bin, .int .i64 x.2.slot]) rfl rfl rfl (by first | rfl | (rw [binV_len]; rfl) | (rw [dgR_len]; rfl) | (rw [refR_len]; rfl) | (rw [secR_len]; rfl) | (rw [List.length_map, tagF_len]; rfl) | (rw [dgR_len]; rfl)) ((fun j v hj => by have h := hcx (32 + j) v (itR_use x (use2 hj)); rw [Addr.add_lit] at h ⊢; rw [← Nat.add_assoc] at h; exact h))) rfl ?_
    refine o_alloc rfl rfl rfl ?_; intro w5 b5 e5 hB5 hk5 hs5
    have hB5' : Blk w5 b5 [.int .i64 0, .int .i64 0] 77 := hB5
    refine o_storeA (cs := [.int .i64 x.2.bin, .int .i64 x.2.slot]) rfl rfl (by first | rfl | exact binV_one _ | exact dgR_one _ | exact refR_one _ | exact secR_one _ | exact all_c8 _) (by first | rfl | (rw [binV_len]; rfl) | (rw [dgR_len]; rfl) | (rw [refR_len]; rfl) | (rw [secR_len]; rfl) | (rw [List.length_map, tagF_len]; rfl) | (rw [dgR_len]; rfl)) hB5' (by show 0 + 2 ≤ 2; decide) rfl ?_; intro w6 hB6 hk6 hs6
    have hB6' : Blk w6 b5 [.int .i64 x.2.bin, .int .i64 x.2.slot] 77 := hB6
    have hk6' : Keep All w1 w6 := hk5.new hk6 (by omega)
    refine ops_nil ?_
    refine W_seq ?_
    refine W_cut [48] [16, 17, 18, 19, 20, 21, 22, 23, 24, 25, 26, 27, 28, 29, 30, 31, 32, 33, 34, 35, 36, 37, 38, 39, 40, 41, 42, 43, 44, 45, 46, 47, 48] (fun vs w7 => vs = [.bool (decide ((0 < i ∧ ¬ y.1.val < x.1.val) ∨ x.2.n = 0))] ∧ Keep All w6 w7) ?_ ?_
    · refine W_quiet (Keep All w6) (by kernel_rfl) (by kernel_rfl) (Keep.drawn _) ?_
      refine q_mvt rfl ?_
      refine q_run (fun _ _ => (r_gtr rfl rfl)) rfl ?_
      refine q_mvt rfl ?_
      refine q_split rfl rfl rfl (fun g9 => ?_) (fun g9 => ?_)
      · refine q_mvt (g_yes rfl rfl rfl g9) ?_
        refine q_mvt (g_yes rfl rfl rfl g9) ?_
        refine q_run (fun _ _ => ((r_sub rfl rfl).val (congrArg (Value.int .i64) (show IntKind.i64.wrap ((i : Int) - 1) = ((i - 1 : Nat) : Int) from by have := of_decide_eq_true g9; exact (wrap_i64 (by omega) (by omega)).trans (by omega))))) (g_yes rfl rfl rfl g9) ?_
        refine q_run (fun _ _ => r_idxS rfl rfl rfl rfl (by omega) (by omega)) (g_yes rfl rfl rfl g9) ?_
        refine q_run (fun _ _ => (r_fieldAddr rfl rfl rfl rfl rfl)) (g_yes rfl rfl rfl g9) ?_
        refine q_run (fun _ hk => r_loadA (dgR y.1) rfl rfl rfl (by first | rfl | (rw [binV_len]; rfl) | (rw [dgR_len]; rfl) | (rw [refR_len]; rfl) | (rw [secR_len]; rfl) | (rw [List.length_map, tagF_len]; rfl) | (rw [dgR_len]; rfl)) ((fun j v hj => by have h := hcy j v (itR_dig y hj); rw [Addr.add_lit] at h ⊢; exact hk.cell (hk6'.cell h trivial) trivial))) (g_yes rfl rfl rfl g9) ?_
        refine q_mvt (g_yes rfl rfl rfl g9) ?_
        refine q_mvt (g_yes rfl rfl rfl g9) ?_
        refine q_run (fun _ _ => r_idxS rfl rfl rfl rfl (by omega) (by omega)) (g_yes rfl rfl rfl g9) ?_
        refine q_run (fun _ _ => (r_fieldAddr rfl rfl rfl rfl rfl)) (g_yes rfl rfl rfl g9) ?_
        refine q_run (fun _ hk => r_loadA (dgR x.1) rfl rfl rfl (by first | rfl | (rw [binV_len]; rfl) | (rw [dgR_len]; rfl) | (rw [refR_len]; rfl) | (rw [secR_len]; rfl) | (rw [List.length_map, tagF_len]; rfl) | (rw [dgR_len]; rfl)) ((fun j v hj => by have h := hcx j v (itR_dig x hj); rw [Addr.add_lit] at h ⊢; exact hk.cell (hk6'.cell h trivial) trivial))) (g_yes rfl rfl rfl g9) ?_
        refine q_call rfl rfl (g_yes rfl rfl rfl g9) (fun _ hk => Calls.mono (rf8_LessC _ y.1 x.1) (by rintro e w' ⟨r, rfl, rfl, hk'⟩; exact ⟨_, rfl, rfl, hk.trans hk'⟩)) ?_
        refine q_run (fun _ _ => (r_not rfl)) (g_yes rfl rfl rfl g9) ?_
        refine q_pkTt rfl g9 rfl ?_
        refine q_mvt rfl ?_
        refine q_split rfl rfl rfl (fun g15 => ?_) (fun g15 => ?_)
        · refine q_mvt (g_yes rfl rfl rfl (by rw [g15] <;> rfl)) ?_
          refine q_mvt (g_yes rfl rfl rfl (by rw [g15] <;> rfl)) ?_
          refine q_run (fun _ _ => r_idxS rfl rfl rfl rfl (by omega) (by omega)) (g_yes rfl rfl rfl (by rw [g15] <;> rfl)) ?_
          refine q_run (fun _ _ => (r_fieldAddr rfl rfl rfl rfl rfl)) (g_yes rfl rfl rfl (by rw [g15] <;> rfl)) ?_
          refine q_run (fun _ hk => r_load rfl rfl rfl (hk.cell (hk6'.cell (by have h := hcx 34 _ (itR_use x (j := 2) rfl); rw [Addr.add_lit] at h; exact h) trivial) trivial)) (g_yes rfl rfl rfl (by rw [g15] <;> rfl)) ?_
          refine q_run (fun _ _ => (r_lss rfl rfl)) (g_yes rfl rfl rfl (by rw [g15] <;> rfl)) ?_
          refine q_pkFt rfl (by rw [g15] <;> rfl) rfl ?_
          refine q_mvt rfl ?_
          refine q_split rfl rfl rfl (fun g18 => ?_) (fun g18 => ?_)
          · refine q_mvt (g_yes rfl rfl rfl g18) ?_
            refine q_mvt (g_yes rfl rfl rfl g18) ?_
            refine q_run (fun _ _ => r_idxS rfl rfl rfl rfl (by omega) (by omega)) (g_yes rfl rfl rfl g18) ?_
            refine q_run (fun _ _ => (r_fieldAddr rfl rfl rfl rfl rfl)) (g_yes rfl rfl rfl g18) ?_
            refine q_run (fun _ hk => r_load rfl rfl rfl (hk.cell (hk6'.cell (by have h := hcx 34 _ (itR_use x (j := 2) rfl); rw [Addr.add_lit] at h; exact h) trivial) trivial)) (g_yes rfl rfl rfl g18) ?_
            refine q_run (fun _ _ => (r_gtr rfl rfl)) (g_yes rfl rfl rfl g18) ?_
            refine q_pkFt rfl g18 rfl ?_
            refine q_nil ?_; intro w21 hk21
            exact ⟨by (repeat (first | with_reducible exact offM_refl _ _ | refine offM_updc rfl ?_ | refine offM_upd rfl ?_ | refine offM_updo rfl ?_ | refine offM_updo_none ?_ | refine offM_head rfl rfl ?_)), congrArg (fun b => [Value.bool b]) (by
              have q1 : lessC y.1.val x.1.val = true := by simpa using g15
              rw [lessC_D] at q1
              have q1 := of_decide_eq_true q1
              have q2 := of_decide_eq_false g18
              rw [decide_eq_decide]
              exact ⟨fun h => by omega, fun h => h.elim (fun h => absurd q1 h.2) (fun h => by omega)⟩), hk21⟩
          · refine q_skip (g_no rfl rfl rfl g18) ?_
            refine q_skip (g_no rfl rfl rfl g18) ?_
            refine q_skip (g_no rfl rfl rfl g18) ?_
            refine q_skip (g_no rfl rfl rfl g18) ?_
            refine q_skip (g_no rfl rfl rfl g18) ?_
            refine q_skip (g_no rfl rfl rfl g18) ?_
            refine q_pkTc rfl g18 rfl ?_
            refine q_nil ?_; intro w23 hk23
            exact ⟨by (repeat (first | with_reducible exact offM_refl _ _ | refine offM_updc rfl ?_ | refine offM_upd rfl ?_ | refine offM_updo rfl ?_ | refine offM_updo_none ?_ | refine offM_head rfl rfl ?_)), congrArg (fun b => [Value.bool b]) (by
              have q2 := of_decide_eq_true g18
              symm; exact decide_eq_true (.inr (by omega))), hk23⟩
        · refine q_skip (g_no rfl rfl rfl (by rw [g15] <;> rfl)) ?_
          refine q_skip (g_no rfl rfl rfl (by rw [g15] <;> rfl)) ?_
          refine q_skip (g_no rfl rfl rfl (by rw [g15] <;> rfl)) ?_
          refine q_skip (g_no rfl rfl rfl (by rw [g15] <;> rfl)) ?_
          refine q_skip (g_no rfl rfl rfl (by rw [g15] <;> rfl)) ?_
          refine q_skip (g_no rfl rfl rfl (by rw [g15] <;> rfl)) ?_
          refine q_pkTc rfl (by rw [g15] <;> rfl) rfl ?_
          refine q_mvt rfl ?_
          refine q_skip (g_no rfl rfl rfl rfl) ?_
          refine q_skip (g_no rfl rfl rfl rfl) ?_
          refine q_skip (g_no rfl rfl rfl rfl) ?_
          refine q_skip (g_no rfl rfl rfl rfl) ?_
          refine q_skip (g_no rfl rfl rfl rfl) ?_
          refine q_skip (g_no rfl rfl rfl rfl) ?_
          refine q_pkTc rfl rfl rfl ?_
          refine q_nil ?_; intro w25 hk25
          exact ⟨by (repeat (first | with_reducible exact offM_refl _ _ | refine offM_updc rfl ?_ | refine offM_upd rfl ?_ | refine offM_updo rfl ?_ | refine offM_updo_none ?_ | refine offM_head rfl rfl ?_)), congrArg (fun b => [Value.bool b]) (by
            have q1 : lessC y.1.val x.1.val = false := by simpa using g15
            rw [lessC_D] at q1
            have q1 := of_decide_eq_false q1
            have q3 := of_decide_eq_true g9
            symm; exact decide_eq_true (.inl ⟨by omega, q1⟩)), hk25⟩
      · refine q_skip (g_no rfl rfl rfl g9) ?_
        refine q_skip (g_no rfl rfl rfl g9) ?_
        refine q_skip (g_no rfl rfl rfl g9) ?_
        refine q_skip (g_no rfl rfl rfl g9) ?_
        refine q_skip (g_no rfl rfl rfl g9) ?_
        refine q_skip (g_no rfl rfl rfl g9) ?_
        refine q_skip (g_no rfl rfl rfl g9) ?_
        refine q_skip (g_no rfl rfl rfl g9) ?_
        refine q_skip (g_no rfl rfl rfl g9) ?_
        refine q_skip (g_no rfl rfl rfl g9) ?_
        refine q_skip (g_no rfl rfl rfl g9) ?_
        refine q_skip (g_no rfl rfl rfl g9) ?_
        refine q_skip (g_no rfl rfl rfl g9) ?_
        refine q_pkFc rfl g9 rfl ?_
        refine q_mvt rfl ?_
        refine q_mvt (g_yes rfl rfl rfl rfl) ?_
        refine q_mvt (g_yes rfl rfl rfl rfl) ?_
        refine q_run (fun _ _ => r_idxS rfl rfl rfl rfl (by omega) (by omega)) (g_yes rfl rfl rfl rfl) ?_
        refine q_run (fun _ _ => (r_fieldAddr rfl rfl rfl rfl rfl)) (g_yes rfl rfl rfl rfl) ?_
        refine q_run (fun _ hk => r_load rfl rfl rfl (hk.cell (hk6'.cell (by have h := hcx 34 _ (itR_use x (j := 2) rfl); rw [Addr.add_lit] at h; exact h) trivial) trivial)) (g_yes rfl rfl rfl rfl) ?_
        refine q_run (fun _ _ => (r_lss rfl rfl)) (g_yes rfl rfl rfl rfl) ?_
        refine q_pkFt rfl rfl rfl ?_
        refine q_mvt rfl ?_
        refine q_split rfl rfl rfl (fun g29 => ?_) (fun g29 => ?_)
        · refine q_mvt (g_yes rfl rfl rfl g29) ?_
          refine q_mvt (g_yes rfl rfl rfl g29) ?_
          refine q_run (fun _ _ => r_idxS rfl rfl rfl rfl (by omega) (by omega)) (g_yes rfl rfl rfl g29) ?_
          refine q_run (fun _ _ => (r_fieldAddr rfl rfl rfl rfl rfl)) (g_yes rfl rfl rfl g29) ?_
          refine q_run (fun _ hk => r_load rfl rfl rfl (hk.cell (hk6'.cell (by have h := hcx 34 _ (itR_use x (j := 2) rfl); rw [Addr.add_lit] at h; exact h) trivial) trivial)) (g_yes rfl rfl rfl g29) ?_
          refine q_run (fun _ _ => (r_gtr rfl rfl)) (g_yes rfl rfl rfl g29) ?_
          refine q_pkFt rfl g29 rfl ?_
          refine q_nil ?_; intro w32 hk32
          exact ⟨by (repeat (first | with_reducible exact offM_refl _ _ | refine offM_updc rfl ?_ | refine offM_upd rfl ?_ | refine offM_updo rfl ?_ | refine offM_updo_none ?_ | refine offM_head rfl rfl ?_)), congrArg (fun b => [Value.bool b]) (by
            have q2 := of_decide_eq_false g29
            have q3 := of_decide_eq_false g9
            rw [decide_eq_decide]
            exact ⟨fun h => by omega, fun h => h.elim (fun h => by have := h.1; omega) (fun h => by omega)⟩), hk32⟩
        · refine q_skip (g_no rfl rfl rfl g29) ?_
          refine q_skip (g_no rfl rfl rfl g29) ?_
          refine q_skip (g_no rfl rfl rfl g29) ?_
          refine q_skip (g_no rfl rfl rfl g29) ?_
          refine q_skip (g_no rfl rfl rfl g29) ?_
          refine q_skip (g_no rfl rfl rfl g29) ?_
          refine q_pkTc rfl g29 rfl ?_
          refine q_nil ?_; intro w34 hk34
          exact ⟨by (repeat (first | with_reducible exact offM_refl _ _ | refine offM_updc rfl ?_ | refine offM_upd rfl ?_ | refine offM_updo rfl ?_ | refine offM_updo_none ?_ | refine offM_head rfl rfl ?_)), congrArg (fun b => [Value.bool b]) (by
            have q2 := of_decide_eq_true g29
            symm; exact decide_eq_true (.inr (by omega))), hk34⟩
    · rintro J36 vs w36 ⟨rfl, hk36⟩ -
      refine W_cond rfl (fun h37 => ?_) (fun h37 => ?_)
      · refine W_seq ?_
        refine W_region ?_
        refine o_asc rfl ?_
        refine ops_nil ?_
        refine W_ret ?_
        refine ret1 (.bool false) rfl ?_ ?_; rfl
        have h37 := of_decide_eq_true h37
        refine ⟨congrArg Value.bool (decide_eq_false fun hh => ?_).symm, (hk1.trans hk6').trans hk36⟩
        obtain ⟨⟨o1, _, o3⟩, _⟩ := hstep.1 (hok.1 hh)
        rcases h37 with h | h
        · exact h.2 (o1 y.1 (by rw [lastO_take (by omega) h.1 hy]; rfl))
        · exact o3 h
      · refine W_skip ?_
        have h37 := of_decide_eq_false h37
        have hB36 := hk36.blk' hB6' trivial
        refine W_cut [76] [49, 50, 51, 52, 53, 54, 55, 56, 57, 58, 59, 60, 61, 62, 63, 64, 65, 66, 67, 68, 69, 70, 71, 72, 73, 74, 75, 76] (fun vs w39 => vs = [.bool (decide (x.2.bin < 0 ∧ 0 < x.2.slot))] ∧ w39 = w36) ?_ ?_
        · refine W_region ?_
          refine op_run (r_fieldAddr rfl rfl rfl rfl rfl) rfl ?_
          refine op_run (r_load rfl rfl rfl (hB36.cell rfl)) rfl ?_
          refine op_run (r_lss rfl rfl) rfl ?_
          refine o_mvt rfl ?_
          refine g_split rfl rfl rfl (fun g41 => ?_) (fun g41 => ?_)
          · refine op_run (r_fieldAddr rfl rfl rfl rfl rfl) (g_yes rfl rfl rfl g41) ?_
            refine op_run (r_load rfl rfl rfl (hB36.cell rfl)) (g_yes rfl rfl rfl g41) ?_
            refine op_run (r_gtr rfl rfl) (g_yes rfl rfl rfl g41) ?_
            refine o_pkFt rfl g41 rfl ?_
            refine o_mvt rfl ?_
            refine g_split rfl rfl rfl (fun g43 => ?_) (fun g43 => ?_)
            · refine op_run (r_fieldAddr rfl rfl rfl rfl rfl) (g_yes rfl rfl rfl g43) ?_
              refine op_run (r_load rfl rfl rfl (hB36.cell rfl)) (g_yes rfl rfl rfl g43) ?_
              refine op_run (r_lss rfl rfl) (g_yes rfl rfl rfl g43) ?_
              refine o_pkFt rfl g43 rfl ?_
              refine o_mvt rfl ?_
              refine g_split rfl rfl rfl (fun g45 => ?_) (fun g45 => ?_)
              · refine op_run (r_fieldAddr rfl rfl rfl rfl rfl) (g_yes rfl rfl rfl g45) ?_
                refine op_run (r_load rfl rfl rfl (hB36.cell rfl)) (g_yes rfl rfl rfl g45) ?_
                refine op_run (r_gtr rfl rfl) (g_yes rfl rfl rfl g45) ?_
                refine o_pkFt rfl g45 rfl ?_
                refine o_mvt rfl ?_
                refine g_split rfl rfl rfl (fun g47 => ?_) (fun g47 => ?_)
                · refine op_run (r_fieldAddr rfl rfl rfl rfl rfl) (g_yes rfl rfl rfl g47) ?_
                  refine op_run (r_load rfl rfl rfl (hB36.cell rfl)) (g_yes rfl rfl rfl g47) ?_
                  refine op_run (r_lss rfl rfl) (g_yes rfl rfl rfl g47) ?_
                  refine o_mvt (g_yes rfl rfl rfl g47) ?_
                  refine g_split rfl rfl rfl (fun g49 => ?_) (fun g49 => ?_)
                  · refine op_run (r_fieldAddr rfl rfl rfl rfl rfl) (g_yes rfl rfl rfl g49) ?_
                    refine op_run (r_load rfl rfl rfl (hB36.cell rfl)) (g_yes rfl rfl rfl g49) ?_
                    refine op_run (r_gtr rfl rfl) (g_yes rfl rfl rfl g49) ?_
                    refine o_pkTt rfl g49 (g_yes rfl rfl rfl g47) ?_
                    refine o_pkFt rfl g47 rfl ?_
                    refine ops_nil ?_
                    exact ⟨by (repeat (first | with_reducible exact offM_refl _ _ | refine offM_updc rfl ?_ | refine offM_upd rfl ?_ | refine offM_updo rfl ?_ | refine offM_updo_none ?_ | refine offM_head rfl rfl ?_)), congrArg (fun b => [Value.bool b]) (by
                      have q := of_decide_eq_true g49
                      rw [decide_eq_decide]
                      exact ⟨fun h => ⟨q, h⟩, fun h => h.2⟩), rfl⟩
                  · refine op_skip (g_no rfl rfl rfl g49) ?_
                    refine op_skip (g_no rfl rfl rfl g49) ?_
                    refine op_skip (g_no rfl rfl rfl g49) ?_
                    refine o_pkFc rfl g49 (g_yes rfl rfl rfl g47) ?_
                    refine o_pkFt rfl g47 rfl ?_
                    refine ops_nil ?_
                    exact ⟨by (repeat (first | with_reducible exact offM_refl _ _ | refine offM_updc rfl ?_ | refine offM_upd rfl ?_ | refine offM_updo rfl ?_ | refine offM_updo_none ?_ | refine offM_head rfl rfl ?_)), congrArg (fun b => [Value.bool b]) (by
                      have q := of_decide_eq_false g49
                      symm; exact decide_eq_false (fun h => q h.1)), rfl⟩
                · refine op_skip (g_no rfl rfl rfl g47) ?_
                  refine op_skip (g_no rfl rfl rfl g47) ?_
                  refine op_skip (g_no rfl rfl rfl g47) ?_
                  refine op_skip (g_no rfl rfl rfl g47) ?_
                  refine op_skip (g_und rfl rfl rfl) ?_
                  refine op_skip (g_und rfl rfl rfl) ?_
                  refine op_skip (g_und rfl rfl rfl) ?_
                  refine op_skip (g_no rfl rfl rfl g47) ?_
                  refine o_pkTc rfl g47 rfl ?_
                  refine ops_nil ?_
                  exfalso; simp at g47; omega
              · refine op_skip (g_no rfl rfl rfl g45) ?_
                refine op_skip (g_no rfl rfl rfl g45) ?_
                refine op_skip (g_no rfl rfl rfl g45) ?_
                refine o_pkTc rfl g45 rfl ?_
                refine o_mvt rfl ?_
                refine op_skip (g_no rfl rfl rfl rfl) ?_
                refine op_skip (g_no rfl rfl rfl rfl) ?_
                refine op_skip (g_no rfl rfl rfl rfl) ?_
                refine op_skip (g_no rfl rfl rfl rfl) ?_
                refine op_skip (g_und rfl rfl rfl) ?_
                refine op_skip (g_und rfl rfl rfl) ?_
                refine op_skip (g_und rfl rfl rfl) ?_
                refine op_skip (g_no rfl rfl rfl rfl) ?_
                refine o_pkTc rfl rfl rfl ?_
                refine ops_nil ?_
                exfalso; simp at g45; omega
            · refine op_skip (g_no rfl rfl rfl g43) ?_
              refine op_skip (g_no rfl rfl rfl g43) ?_
              refine op_skip (g_no rfl rfl rfl g43) ?_
              refine o_pkTc rfl g43 rfl ?_
              refine o_mvt rfl ?_
              refine op_skip (g_no rfl rfl rfl rfl) ?_
              refine op_skip (g_no rfl rfl rfl rfl) ?_
              refine op_skip (g_no rfl rfl rfl rfl) ?_
              refine o_pkTc rfl rfl rfl ?_
              refine o_mvt rfl ?_
              refine op_skip (g_no rfl rfl rfl rfl) ?_
              refine op_skip (g_no rfl rfl rfl rfl) ?_
              refine op_skip (g_no rfl rfl rfl rfl) ?_
              refine op_skip (g_no rfl rfl rfl rfl) ?_
              refine op_skip (g_und rfl rfl rfl) ?_
              refine op_skip (g_und rfl rfl rfl) ?_
              refine op_skip (g_und rfl rfl rfl) ?_
              refine op_skip (g_no rfl rfl rfl rfl) ?_
              refine o_pkTc rfl rfl rfl ?_
              refine ops_nil ?_
              exfalso; simp at g43; omega
          · refine op_skip (g_no rfl rfl rfl g41) ?_
            refine op_skip (g_no rfl rfl rfl g41) ?_
            refine op_skip (g_no rfl rfl rfl g41) ?_
            refine o_pkTc rfl g41 rfl ?_
            refine o_mvt rfl ?_
            refine op_skip (g_no rfl rfl rfl rfl) ?_
            refine op_skip (g_no rfl rfl rfl rfl) ?_
            refine op_skip (g_no rfl rfl rfl rfl) ?_
            refine o_pkTc rfl rfl rfl ?_
            refine o_mvt rfl ?_
            refine op_skip (g_no rfl rfl rfl rfl) ?_
            refine op_skip (g_no rfl rfl rfl rfl) ?_
            refine op_skip (g_no rfl rfl rfl rfl) ?_
            refine o_pkTc rfl rfl rfl ?_
            refine o_mvt rfl ?_
            refine op_skip (g_no rfl rfl rfl rfl) ?_
            refine op_skip (g_no rfl rfl rfl rfl) ?_
            refine op_skip (g_no rfl rfl rfl rfl) ?_
            refine op_skip (g_no rfl rfl rfl rfl) ?_
            refine op_skip (g_und rfl rfl rfl) ?_
            refine op_skip (g_und rfl rfl rfl) ?_
            refine op_skip (g_und rfl rfl rfl) ?_
            refine op_skip (g_no rfl rfl rfl rfl) ?_
            refine o_pkTc rfl rfl rfl ?_
            refine ops_nil ?_
            exfalso; simp at g41; omega
        · rintro J57 vs w57 ⟨rfl, rfl⟩ -
          refine W_cond rfl (fun h58 => ?_) (fun h58 => ?_)
          · refine W_seq ?_
            refine W_region ?_
            refine o_asc rfl ?_
            refine ops_nil ?_
            refine W_ret ?_
            refine ret1 (.bool false) rfl ?_ ?_; rfl
            have h58 := of_decide_eq_true h58
            refine ⟨congrArg Value.bool (decide_eq_false fun hh => ?_).symm, (hk1.trans hk6').trans hk36⟩
            exact (hstep.1 (hok.1 hh)).1.2.1 h58
          · refine W_skip ?_
            refine W_region ?_
            refine o_mvt rfl ?_
            refine op_run (r_add rfl rfl) rfl ?_
            refine o_ast rfl ?_
            refine ops_nil ?_
            have h58 := of_decide_eq_false h58
            have hoi : okI (lastO (l.take i)) x := by
              refine ⟨fun d hd => ?_, h58, fun h => h37 (.inr h)⟩
              by_cases h0 : 0 < i
              · rw [lastO_take (by omega) h0 hy] at hd
                have e := Option.some.inj hd
                rw [← e]
                exact Classical.byContradiction fun hh => h37 (.inl ⟨h0, hh⟩)
              · obtain rfl : i = 0 := by omega
                cases hd
            refine ⟨by (repeat (first | with_reducible exact offM_refl _ _ | refine offM_updc rfl ?_ | refine offM_upd rfl ?_ | refine offM_updo rfl ?_ | refine offM_updo_none ?_ | refine offM_head rfl rfl ?_)), ⟨i + 1, congrArg (fun z : Int => [Value.int .i64 z]) hinc, by omega, hok.trans (hstep.trans ⟨fun h => h.2, fun h => ⟨hoi, h⟩⟩), (hk1.trans hk6').trans hk36⟩, ?_⟩
            show l.length - (IntKind.i64.wrap ((i : Int) + 1)).toNat < l.length - (i : Int).toNat
            rw [hinc]; omega
  · refine W_exit ?_
    refine W_seq ?_
    refine W_region ?_
    refine o_asc rfl ?_
    refine ops_nil ?_
    refine W_ret ?_
    refine ret1 (.bool true) rfl ?_ ?_; rfl
    have e : i = l.length := by omega
    subst e
    rw [List.drop_length] at hok
    exact ⟨congrArg Value.bool (decide_eq_true (hok.2 trivial)).symm, hk1⟩
end Go.Proofs.Ytkmciohghhffnaa.B
