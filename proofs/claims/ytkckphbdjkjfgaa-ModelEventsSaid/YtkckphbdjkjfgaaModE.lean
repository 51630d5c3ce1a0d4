/-
  Events of operations that aren't one aren't one.
-/
import Derived.Test.YtkckphbdjkjfgaaMod10
namespace Go.Proofs.Ytkckphbdjkjfgaa.B
open Go
set_option linter.unusedVariables false
set_option maxHeartbeats 2000000
set_option maxRecDepth 100000
attribute [local irreducible] W OpsW OpsQ retP
theorem toU8_lt {x : Nat} (h : x < 256) : x.toUInt8.toNat = x := by
  have : x.toUInt8.toNat = x % 256 := by simp [Nat.toUInt8]
  omega
theorem toU8_inj {x y : Nat} (hx : x < 256) (hy : y < 256) (h : x.toUInt8 = y.toUInt8) : x = y := by
  have := congrArg UInt8.toNat h
  rwa [toU8_lt hx, toU8_lt hy] at this
theorem encN_inj0 : ∀ (n v u : Nat) (r s : List UInt8), v ≤ n → encN v ++ r = encN u ++ s → v = u ∧ r = s := by
  intro n
  induction n with
  | zero =>
    intro v u r s hv h
    rw [encN_last (show v < 128 by omega)] at h
    by_cases hu : u < 128
    · rw [encN_last hu] at h
      injection h with h1 h2
      exact ⟨toU8_inj (by omega) (by omega) h1, h2⟩
    · rw [encN_more (by omega)] at h
      injection h with h1 h2
      have := toU8_inj (by omega) (by omega) h1
      omega
  | succ n ih =>
    intro v u r s hv h
    by_cases hv8 : v < 128
    · rw [encN_last hv8] at h
      by_cases hu : u < 128
      · rw [encN_last hu] at h
        injection h with h1 h2
        exact ⟨toU8_inj (by omega) (by omega) h1, h2⟩
      · rw [encN_more (by omega)] at h
        injection h with h1 h2
        have := toU8_inj (by omega) (by omega) h1
        omega
    · rw [encN_more (show 128 ≤ v by omega)] at h
      by_cases hu : u < 128
      · rw [encN_last hu] at h
        injection h with h1 h2
        have := toU8_inj (by omega) (by omega) h1
        omega
      · rw [encN_more (show 128 ≤ u by omega)] at h
        injection h with h1 h2
        have := toU8_inj (by omega) (by omega) h1
        obtain ⟨h3, h4⟩ := ih (v / 128) (u / 128) r s (by omega) h2
        exact ⟨by omega, h4⟩
theorem encN_inj {v u : Nat} {r s : List UInt8} (h : encN v ++ r = encN u ++ s) : v = u ∧ r = s := encN_inj0 v v u r s (Nat.le_refl _) h
theorem encB_inj {b c r s : List UInt8} (h : encB b ++ r = encB c ++ s) : b = c ∧ r = s := by
  unfold encB at h
  rw [List.append_assoc, List.append_assoc] at h
  obtain ⟨h1, h2⟩ := encN_inj h
  exact List.append_inj h2 h1
theorem u64_inj {a b : Int} (ha : -9223372036854775808 ≤ a ∧ a ≤ 9223372036854775807) (hb : -9223372036854775808 ≤ b ∧ b ≤ 9223372036854775807) (h : u64 a = u64 b) : a = b := by unfold u64 at h; omega
theorem eventB_form (o : OpV) : eventB o = encN (u64 o.kind) ++ (encN (u64 o.number) ++ (encN (u64 o.quota) ++ (encB o.name ++ (encB o.other ++ if o.kind = 3 then o.block.val else [])))) := by
  unfold eventB headE encE numsE
  simp
def sameE (a b : OpV) : Prop := a.kind = b.kind ∧ a.number = b.number ∧ a.quota = b.quota ∧ a.name = b.name ∧ a.other = b.other ∧ (a.kind = 3 → a.block = b.block)
instance (a b : OpV) : Decidable (sameE a b) := inferInstanceAs (Decidable (_ ∧ _))
theorem eventB_inj {a b : OpV} (ha : a.wf) (hb : b.wf) : eventB a = eventB b ↔ sameE a b := by
  rw [eventB_form, eventB_form]
  constructor
  · intro h
    obtain ⟨e1, h⟩ := encN_inj h
    obtain ⟨e2, h⟩ := encN_inj h
    obtain ⟨e3, h⟩ := encN_inj h
    obtain ⟨e4, h⟩ := encB_inj h
    obtain ⟨e5, h⟩ := encB_inj h
    have k1 := u64_inj ha.1 hb.1 e1
    refine ⟨k1, u64_inj ha.2.1 hb.2.1 e2, u64_inj ha.2.2 hb.2.2 e3, e4, e5, fun h3 => ?_⟩
    rw [if_pos h3, if_pos (by omega)] at h
    exact Subtype.ext h
  · rintro ⟨e1, e2, e3, e4, e5, e6⟩
    rw [e1, e2, e3, e4, e5]
    by_cases h3 : b.kind = 3
    · rw [if_pos h3, if_pos h3, e6 (by omega)]
    · rw [if_neg h3, if_neg h3]
theorem eventB_len (o : OpV) : 5 ≤ (eventB o).length := by
  rw [eventB_form]
  have h1 := encN_pos (u64 o.kind)
  have h2 := encN_pos (u64 o.number)
  have h3 := encN_pos (u64 o.quota)
  have h4 := encN_pos o.name.length
  have h5 := encN_pos o.other.length
  unfold encB
  simp only [List.length_append]
  omega
theorem eventB_max (o : OpV) (h : o.small) : (eventB o).length ≤ 400 := by
  rw [eventB_form]
  have h1 := encN_len10 (u64_lt o.kind)
  have h2 := encN_len10 (u64_lt o.number)
  have h3 := encN_len10 (u64_lt o.quota)
  have h4 := encB_len o.name (by have := h.1; omega)
  have h5 := encB_len o.other (by have := h.2; omega)
  have h6 := o.block.2
  have hn1 := h.1
  have hn2 := h.2
  simp only [List.length_append]
  split
  · omega
  · simp only [List.length_nil]; omega
theorem ti_op : tinfo Try.prog 26 = some (some (.agg (opR OpV.zero).toArray), 53, 104) := by kernel_rfl
theorem ops_two {w : World} {x : Nat} {a b : OpV} (h : Blk w x (rows opR [a, b]) 26) (ha : a.wf) (hb : b.wf) : OpsIn w (.slice (some ⟨x, 0, none⟩) 2 2) [a, b] := by
  refine ⟨some ⟨x, 0, none⟩, 2, rfl, Nat.le_refl _, by decide, (fun e => by cases e), fun ad had i y hy => ?_⟩
  cases had
  refine ⟨opR y, opR_len y, fun j u hj => ?_, rfl, ?_⟩
  · rw [Addr.add_lit, Addr.add_lit]
    obtain ⟨hi, he⟩ := List.getElem?_eq_some_iff.1 hy
    refine h.cell ?_
    rw [Nat.zero_add, rows_get opR_len hi (by rw [← opR_len y]; exact (List.getElem?_eq_some_iff.1 hj).1), he]
    exact hj
  · match i, hy with
    | 0, hy => simp at hy; rw [← hy]; exact ha
    | 1, hy => simp at hy; rw [← hy]; exact hb
    | i + 2, hy => simp at hy
theorem ev_same {a b : OpV} (ha : a.wf) (hb : b.wf) : ¬ (decide (eventB a = eventB b) == decide (sameE a b)) = !true := by
  rw [decide_eq_decide.2 (eventB_inj ha hb)]
  cases decide (sameE a b) <;> decide
theorem walk_ModelEvents (w : World) (a b : OpV) (ha : a.wf) (hb : b.wf) : Ret Try.prog 6 [.agg (opR a).toArray, .agg (opR b).toArray].toArray w fun r w' => r = .bool true ∧ Keep All w w' := by
  refine enter (fn := Try.f6) (n := 73) Try.func6 rfl rfl (by simp) ?_
  refine W_seq ?_
  refine W_region ?_
  refine o_box rfl rfl rfl ?_; intro w1 b1 e1 hB1 hk1 hs1
  have hB1 : Blk w1 b1 (opR a) 26 := hB1
  refine o_box rfl rfl rfl ?_; intro w2 b2 e2 hB2 hk2 hs2
  have hB2 : Blk w2 b2 (opR b) 26 := hB2
  refine o_asc rfl ?_
  refine ops_nil ?_
  refine W_seq ?_
  refine W_seq ?_
  refine W_region ?_
  refine op_call rfl rfl rfl (lw_speaks w2) ?_; rintro v3 w3 ⟨rfl, hk3⟩
  have hB13 := (hk2.trans hk3).blk' hB1 trivial
  have hB23 := hk3.blk' hB2 trivial
  refine op_run (r_not rfl) rfl ?_
  refine ops_nil ?_
  refine W_cond rfl (fun h4 => ?_) (fun h4 => ?_)
  · refine W_seq ?_
    refine W_region ?_
    refine o_asc rfl ?_
    refine ops_nil ?_
    refine W_ret ?_
    refine ret1 (.bool false) rfl ?_ ?_; rfl
    cases h4
  · refine W_skip ?_
    refine W_seq ?_
    refine W_seq ?_
    refine W_region ?_
    refine op_run (r_loadA (opR a) rfl rfl rfl (by first | rfl | (rw [binV_len]; rfl) | (rw [dgR_len]; rfl) | (rw [refR_len]; rfl) | (rw [secR_len]; rfl) | (rw [List.length_map, tagF_len]; rfl) | (rw [opR_len]; rfl) | (rw [blkR_len]; rfl)) (hB13.all)) rfl ?_
    refine op_run (r_loadA (opR b) rfl rfl rfl (by first | rfl | (rw [binV_len]; rfl) | (rw [dgR_len]; rfl) | (rw [refR_len]; rfl) | (rw [secR_len]; rfl) | (rw [List.length_map, tagF_len]; rfl) | (rw [opR_len]; rfl) | (rw [blkR_len]; rfl)) (hB23.all)) rfl ?_
    refine o_bsR opR opR_len [a, b] rfl ti_op rfl rfl rfl rfl rfl rfl ?_; intro w8 b8 e8 hB8 hk8 hs8
    refine op_call rfl rfl rfl (lw_Great w8 _ [a, b] (ops_two hB8 ha hb)) ?_; rintro v9 w9 ⟨⟨g, rfl, hg⟩, hk9⟩
    have hB19 := (hk8.trans hk9).blk' hB13 trivial
    have hB29 := (hk8.trans hk9).blk' hB23 trivial
    refine ops_nil ?_
    refine W_cond rfl (fun h10 => ?_) (fun h10 => ?_)
    · refine W_seq ?_
      refine W_region ?_
      refine o_asc rfl ?_
      refine ops_nil ?_
      refine W_ret ?_
      refine ret1 (.bool true) rfl ?_ ?_; rfl
      exact ⟨rfl, (((hk1.trans hk2).trans hk3).trans hk8).trans hk9⟩
    · refine W_skip ?_
      refine W_seq ?_
      have hs := (hg h10).2
      have hsa := hs a (List.mem_cons_self ..)
      have hsb := hs b (List.mem_cons_of_mem _ (List.mem_cons_self ..))
      refine W_held (fun w' => Keep All w9 w') (by kernel_rfl) (Keep.drawn w9) (fun hS => ?_)
      refine any_run 0 (fun w' hS' => (r_loadA (opR a) rfl rfl rfl (by first | rfl | (rw [binV_len]; rfl) | (rw [dgR_len]; rfl) | (rw [refR_len]; rfl) | (rw [secR_len]; rfl) | (rw [List.length_map, tagF_len]; rfl) | (rw [opR_len]; rfl) | (rw [blkR_len]; rfl)) ((hS'.blk' hB19 trivial).all))) rfl (by kernel_rfl) (by kernel_rfl) (by kernel_rfl) rfl hS ?_
      refine any_run 2 (fun w' hS' => (r_loadA (opR b) rfl rfl rfl (by first | rfl | (rw [binV_len]; rfl) | (rw [dgR_len]; rfl) | (rw [refR_len]; rfl) | (rw [secR_len]; rfl) | (rw [List.length_map, tagF_len]; rfl) | (rw [opR_len]; rfl) | (rw [blkR_len]; rfl)) ((hS'.blk' hB29 trivial).all))) rfl (by kernel_rfl) (by kernel_rfl) (by kernel_rfl) rfl hS ?_
      refine any_one 1 (by kernel_rfl) (one_of rfl ?_)
      refine op_call rfl rfl rfl (md_Event _ a hsa) ?_; rintro v15 w15 ⟨hO15, hi15, hk15⟩
      obtain ⟨a15, c15, e15, _, _⟩ := Sl.form hO15.by_
      subst e15
      refine ops_nil ⟨(Keep.drawn w9).trans hk15, fun hS => ?_⟩
      refine any_one 3 (by kernel_rfl) (one_of rfl ?_)
      refine op_call rfl rfl rfl (md_Event _ b hsb) ?_; rintro v17 w17 ⟨hO17, hi17, hk17⟩
      refine ops_nil ⟨hS.trans hk17, fun hS => ?_⟩
      have hB1z := hS.blk' hB19 trivial
      have hB2z := hS.blk' hB29 trivial
      have hO15' := Sl.old hO15.by_ hk17 (fun _ _ => trivial)
      refine any_ast 4 rfl (by kernel_rfl) (by kernel_rfl) (by kernel_rfl) rfl hS ?_
      refine any_ast 5 rfl (by kernel_rfl) (by kernel_rfl) (by kernel_rfl) rfl hS ?_
      refine any_done (by kernel_rfl) ?_
      refine W_cut [7] [7, 18, 19, 20, 21, 22, 23, 24, 25, 26, 27, 28, 29, 30, 31, 32, 33, 34, 35, 36, 37, 38, 39, 40, 41, 42, 43, 44, 45, 46, 47, 48, 49, 50, 51, 52, 53, 54, 55, 56, 57, 58, 59, 60, 61, 62] (fun vs w19 => vs = [.bool (decide (sameE a b))] ∧ w19 = w17) ?_ ?_
      · refine W_region ?_
        refine op_run (r_fieldAddr rfl rfl rfl rfl rfl) rfl ?_
        refine op_run (r_load rfl rfl rfl (hB1z.cell rfl)) rfl ?_
        refine op_run (r_fieldAddr rfl rfl rfl rfl rfl) rfl ?_
        refine op_run (r_load rfl rfl rfl (hB2z.cell rfl)) rfl ?_
        refine op_run (r_eql rfl rfl) rfl ?_
        refine o_mvt rfl ?_
        refine g_split rfl rfl rfl (fun g22 => ?_) (fun g22 => ?_)
        · refine op_run (r_fieldAddr rfl rfl rfl rfl rfl) (g_yes rfl rfl rfl g22) ?_
          refine op_run (r_load rfl rfl rfl (hB1z.cell rfl)) (g_yes rfl rfl rfl g22) ?_
          refine op_run (r_fieldAddr rfl rfl rfl rfl rfl) (g_yes rfl rfl rfl g22) ?_
          refine op_run (r_load rfl rfl rfl (hB2z.cell rfl)) (g_yes rfl rfl rfl g22) ?_
          refine op_run (r_eql rfl rfl) (g_yes rfl rfl rfl g22) ?_
          refine o_pkTt rfl g22 rfl ?_
          refine o_mvt rfl ?_
          refine g_split rfl rfl rfl (fun g25 => ?_) (fun g25 => ?_)
          · refine op_run (r_fieldAddr rfl rfl rfl rfl rfl) (g_yes rfl rfl rfl g25) ?_
            refine op_run (r_load rfl rfl rfl (hB1z.cell rfl)) (g_yes rfl rfl rfl g25) ?_
            refine op_run (r_fieldAddr rfl rfl rfl rfl rfl) (g_yes rfl rfl rfl g25) ?_
            refine op_run (r_load rfl rfl rfl (hB2z.cell rfl)) (g_yes rfl rfl rfl g25) ?_
            refine op_run (r_eql rfl rfl) (g_yes rfl rfl rfl g25) ?_
            refine o_pkTt rfl g25 rfl ?_
            refine o_mvt rfl ?_
            refine g_split rfl rfl rfl (fun g28 => ?_) (fun g28 => ?_)
            · refine op_run (r_fieldAddr rfl rfl rfl rfl rfl) (g_yes rfl rfl rfl g28) ?_
              refine op_run (r_load rfl rfl rfl (hB1z.cell rfl)) (g_yes rfl rfl rfl g28) ?_
              refine op_run (r_fieldAddr rfl rfl rfl rfl rfl) (g_yes rfl rfl rfl g28) ?_
              refine op_run (r_load rfl rfl rfl (hB2z.cell rfl)) (g_yes rfl rfl rfl g28) ?_
              refine op_run (r_eqlStr rfl rfl) (g_yes rfl rfl rfl g28) ?_
              refine o_pkTt rfl g28 rfl ?_
              refine o_mvt rfl ?_
              refine g_split rfl rfl rfl (fun g31 => ?_) (fun g31 => ?_)
              · refine op_run (r_fieldAddr rfl rfl rfl rfl rfl) (g_yes rfl rfl rfl g31) ?_
                refine op_run (r_load rfl rfl rfl (hB1z.cell rfl)) (g_yes rfl rfl rfl g31) ?_
                refine op_run (r_fieldAddr rfl rfl rfl rfl rfl) (g_yes rfl rfl rfl g31) ?_
                refine op_run (r_load rfl rfl rfl (hB2z.cell rfl)) (g_yes rfl rfl rfl g31) ?_
                refine op_run (r_eqlStr rfl rfl) (g_yes rfl rfl rfl g31) ?_
                refine o_pkTt rfl g31 rfl ?_
                refine o_mvt rfl ?_
                refine g_split rfl rfl rfl (fun g34 => ?_) (fun g34 => ?_)
                · refine op_run (r_fieldAddr rfl rfl rfl rfl rfl) (g_yes rfl rfl rfl g34) ?_
                  refine op_run (r_load rfl rfl rfl (hB1z.cell rfl)) (g_yes rfl rfl rfl g34) ?_
                  refine op_run (r_neq rfl rfl) (g_yes rfl rfl rfl g34) ?_
                  refine o_mvt (g_yes rfl rfl rfl g34) ?_
                  refine g_split rfl rfl rfl (fun g36 => ?_) (fun g36 => ?_)
                  · refine op_run (r_fieldAddr rfl rfl rfl rfl rfl) (g_yes rfl rfl rfl g36) ?_
                    refine op_run (r_loadA (blkR a.block) rfl rfl rfl (by first | rfl | (rw [binV_len]; rfl) | (rw [dgR_len]; rfl) | (rw [refR_len]; rfl) | (rw [secR_len]; rfl) | (rw [List.length_map, tagF_len]; rfl) | (rw [opR_len]; rfl) | (rw [blkR_len]; rfl)) ((fun j u hj => by rw [Addr.add_lit]; exact hB1z.cell (opR_blk a hj)))) (g_yes rfl rfl rfl g36) ?_
                    refine op_run (r_fieldAddr rfl rfl rfl rfl rfl) (g_yes rfl rfl rfl g36) ?_
                    refine op_run (r_loadA (blkR b.block) rfl rfl rfl (by first | rfl | (rw [binV_len]; rfl) | (rw [dgR_len]; rfl) | (rw [refR_len]; rfl) | (rw [secR_len]; rfl) | (rw [List.length_map, tagF_len]; rfl) | (rw [opR_len]; rfl) | (rw [blkR_len]; rfl)) ((fun j u hj => by rw [Addr.add_lit]; exact hB2z.cell (opR_blk b hj)))) (g_yes rfl rfl rfl g36) ?_
                    refine op_run (r_eqlC (p := a.block = b.block) rfl rfl rfl rfl (by kernel_rfl) ((okC_bk _)) ((okC_bk _)) rfl (blkR_inj)) (g_yes rfl rfl rfl g36) ?_
                    refine o_pkFt rfl g36 (g_yes rfl rfl rfl g34) ?_
                    refine o_pkTt rfl g34 rfl ?_
                    refine o_ast rfl ?_
                    refine ops_nil ?_
                    exact ⟨by (repeat (first | with_reducible exact offM_refl _ _ | refine offM_updc rfl ?_ | refine offM_upd rfl ?_ | refine offM_updo rfl ?_ | refine offM_updo_none ?_ | refine offM_head rfl rfl ?_)), congrArg (fun b => [Value.bool b]) (by rw [decide_eq_decide]; exact ⟨fun h => ⟨of_decide_eq_true g22, of_decide_eq_true g25, of_decide_eq_true g28, of_decide_eq_true g31, of_decide_eq_true g34, fun _ => h⟩, fun h => h.2.2.2.2.2 (Classical.byContradiction fun hne => absurd (decide_eq_true hne) (by rw [g36]; decide))⟩), rfl⟩
                  · refine op_skip (g_no rfl rfl rfl g36) ?_
                    refine op_skip (g_no rfl rfl rfl g36) ?_
                    refine op_skip (g_no rfl rfl rfl g36) ?_
                    refine op_skip (g_no rfl rfl rfl g36) ?_
                    refine op_skip (g_no rfl rfl rfl g36) ?_
                    refine o_pkTc rfl g36 (g_yes rfl rfl rfl g34) ?_
                    refine o_pkTt rfl g34 rfl ?_
                    refine o_ast rfl ?_
                    refine ops_nil ?_
                    exact ⟨by (repeat (first | with_reducible exact offM_refl _ _ | refine offM_updc rfl ?_ | refine offM_upd rfl ?_ | refine offM_updo rfl ?_ | refine offM_updo_none ?_ | refine offM_head rfl rfl ?_)), congrArg (fun b => [Value.bool b]) (by symm; exact decide_eq_true ⟨of_decide_eq_true g22, of_decide_eq_true g25, of_decide_eq_true g28, of_decide_eq_true g31, of_decide_eq_true g34, fun h => absurd h (of_decide_eq_true g36)⟩), rfl⟩
                · refine op_skip (g_no rfl rfl rfl g34) ?_
                  refine op_skip (g_no rfl rfl rfl g34) ?_
                  refine op_skip (g_no rfl rfl rfl g34) ?_
                  refine op_skip (g_no rfl rfl rfl g34) ?_
                  refine op_skip (g_und rfl rfl rfl) ?_
                  refine op_skip (g_und rfl rfl rfl) ?_
                  refine op_skip (g_und rfl rfl rfl) ?_
                  refine op_skip (g_und rfl rfl rfl) ?_
                  refine op_skip (g_und rfl rfl rfl) ?_
                  refine op_skip (g_no rfl rfl rfl g34) ?_
                  refine o_pkFc rfl g34 rfl ?_
                  refine o_ast rfl ?_
                  refine ops_nil ?_
                  exact ⟨by (repeat (first | with_reducible exact offM_refl _ _ | refine offM_updc rfl ?_ | refine offM_upd rfl ?_ | refine offM_updo rfl ?_ | refine offM_updo_none ?_ | refine offM_head rfl rfl ?_)), congrArg (fun b => [Value.bool b]) (by symm; exact decide_eq_false fun h => of_decide_eq_false g34 h.2.2.2.2.1), rfl⟩
              · refine op_skip (g_no rfl rfl rfl g31) ?_
                refine op_skip (g_no rfl rfl rfl g31) ?_
                refine op_skip (g_no rfl rfl rfl g31) ?_
                refine op_skip (g_no rfl rfl rfl g31) ?_
                refine op_skip (g_no rfl rfl rfl g31) ?_
                refine o_pkFc rfl g31 rfl ?_
                refine o_mvt rfl ?_
                refine op_skip (g_no rfl rfl rfl rfl) ?_
                refine op_skip (g_no rfl rfl rfl rfl) ?_
                refine op_skip (g_no rfl rfl rfl rfl) ?_
                refine op_skip (g_no rfl rfl rfl rfl) ?_
                refine op_skip (g_und rfl rfl rfl) ?_
                refine op_skip (g_und rfl rfl rfl) ?_
                refine op_skip (g_und rfl rfl rfl) ?_
                refine op_skip (g_und rfl rfl rfl) ?_
                refine op_skip (g_und rfl rfl rfl) ?_
                refine op_skip (g_no rfl rfl rfl rfl) ?_
                refine o_pkFc rfl rfl rfl ?_
                refine o_ast rfl ?_
                refine ops_nil ?_
                exact ⟨by (repeat (first | with_reducible exact offM_refl _ _ | refine offM_updc rfl ?_ | refine offM_upd rfl ?_ | refine offM_updo rfl ?_ | refine offM_updo_none ?_ | refine offM_head rfl rfl ?_)), congrArg (fun b => [Value.bool b]) (by symm; exact decide_eq_false fun h => of_decide_eq_false g31 h.2.2.2.1), rfl⟩
            · refine op_skip (g_no rfl rfl rfl g28) ?_
              refine op_skip (g_no rfl rfl rfl g28) ?_
              refine op_skip (g_no rfl rfl rfl g28) ?_
              refine op_skip (g_no rfl rfl rfl g28) ?_
              refine op_skip (g_no rfl rfl rfl g28) ?_
              refine o_pkFc rfl g28 rfl ?_
              refine o_mvt rfl ?_
              refine op_skip (g_no rfl rfl rfl rfl) ?_
              refine op_skip (g_no rfl rfl rfl rfl) ?_
              refine op_skip (g_no rfl rfl rfl rfl) ?_
              refine op_skip (g_no rfl rfl rfl rfl) ?_
              refine op_skip (g_no rfl rfl rfl rfl) ?_
              refine o_pkFc rfl rfl rfl ?_
              refine o_mvt rfl ?_
              refine op_skip (g_no rfl rfl rfl rfl) ?_
              refine op_skip (g_no rfl rfl rfl rfl) ?_
              refine op_skip (g_no rfl rfl rfl rfl) ?_
              refine op_skip (g_no rfl rfl rfl rfl) ?_
              refine op_skip (g_und rfl rfl rfl) ?_
              refine op_skip (g_und rfl rfl rfl) ?_
              refine op_skip (g_und rfl rfl rfl) ?_
              refine op_skip (g_und rfl rfl rfl) ?_
              refine op_skip (g_und rfl rfl rfl) ?_
              refine op_skip (g_no rfl rfl rfl rfl) ?_
              refine o_pkFc rfl rfl rfl ?_
              refine o_ast rfl ?_
              refine ops_nil ?_
              exact ⟨by (repeat (first | with_reducible exact offM_refl _ _ | refine offM_updc rfl ?_ | refine offM_upd rfl ?_ | refine offM_updo rfl ?_ | refine offM_updo_none ?_ | refine offM_head rfl rfl ?_)), congrArg (fun b => [Value.bool b]) (by symm; exact decide_eq_false fun h => of_decide_eq_false g28 h.2.2.1), rfl⟩
          · refine op_skip (g_no rfl rfl rfl g25) ?_
            refine op_skip (g_no rfl rfl rfl g25) ?_
            refine op_skip (g_no rfl rfl rfl g25) ?_
            refine op_skip (g_no rfl rfl rfl g25) ?_
            refine op_skip (g_no rfl rfl rfl g25) ?_
            refine o_pkFc rfl g25 rfl ?_
            refine o_mvt rfl ?_
            refine op_skip (g_no rfl rfl rfl rfl) ?_
            refine op_skip (g_no rfl rfl rfl rfl) ?_
            refine op_skip (g_no rfl rfl rfl rfl) ?_
            refine op_skip (g_no rfl rfl rfl rfl) ?_
            refine op_skip (g_no rfl rfl rfl rfl) ?_
            refine o_pkFc rfl rfl rfl ?_
            refine o_mvt rfl ?_
            refine op_skip (g_no rfl rfl rfl rfl) ?_
            refine op_skip (g_no rfl rfl rfl rfl) ?_
            refine op_skip (g_no rfl rfl rfl rfl) ?_
            refine op_skip (g_no rfl rfl rfl rfl) ?_
            refine op_skip (g_no rfl rfl rfl rfl) ?_
            refine o_pkFc rfl rfl rfl ?_
            refine o_mvt rfl ?_
            refine op_skip (g_no rfl rfl rfl rfl) ?_
            refine op_skip (g_no rfl rfl rfl rfl) ?_
            refine op_skip (g_no rfl rfl rfl rfl) ?_
            refine op_skip (g_no rfl rfl rfl rfl) ?_
            refine op_skip (g_und rfl rfl rfl) ?_
            refine op_skip (g_und rfl rfl rfl) ?_
            refine op_skip (g_und rfl rfl rfl) ?_
            refine op_skip (g_und rfl rfl rfl) ?_
            refine op_skip (g_und rfl rfl rfl) ?_
            refine op_skip (g_no rfl rfl rfl rfl) ?_
            refine o_pkFc rfl rfl rfl ?_
            refine o_ast rfl ?_
            refine ops_nil ?_
            exact ⟨by (repeat (first | with_reducible exact offM_refl _ _ | refine offM_updc rfl ?_ | refine offM_upd rfl ?_ | refine offM_updo rfl ?_ | refine offM_updo_none ?_ | refine offM_head rfl rfl ?_)), congrArg (fun b => [Value.bool b]) (by symm; exact decide_eq_false fun h => of_decide_eq_false g25 h.2.1), rfl⟩
        · refine op_skip (g_no rfl rfl rfl g22) ?_
          refine op_skip (g_no rfl rfl rfl g22) ?_
          refine op_skip (g_no rfl rfl rfl g22) ?_
          refine op_skip (g_no rfl rfl rfl g22) ?_
          refine op_skip (g_no rfl rfl rfl g22) ?_
          refine o_pkFc rfl g22 rfl ?_
          refine o_mvt rfl ?_
          refine op_skip (g_no rfl rfl rfl rfl) ?_
          refine op_skip (g_no rfl rfl rfl rfl) ?_
          refine op_skip (g_no rfl rfl rfl rfl) ?_
          refine op_skip (g_no rfl rfl rfl rfl) ?_
          refine op_skip (g_no rfl rfl rfl rfl) ?_
          refine o_pkFc rfl rfl rfl ?_
          refine o_mvt rfl ?_
          refine op_skip (g_no rfl rfl rfl rfl) ?_
          refine op_skip (g_no rfl rfl rfl rfl) ?_
          refine op_skip (g_no rfl rfl rfl rfl) ?_
          refine op_skip (g_no rfl rfl rfl rfl) ?_
          refine op_skip (g_no rfl rfl rfl rfl) ?_
          refine o_pkFc rfl rfl rfl ?_
          refine o_mvt rfl ?_
          refine op_skip (g_no rfl rfl rfl rfl) ?_
          refine op_skip (g_no rfl rfl rfl rfl) ?_
          refine op_skip (g_no rfl rfl rfl rfl) ?_
          refine op_skip (g_no rfl rfl rfl rfl) ?_
          refine op_skip (g_no rfl rfl rfl rfl) ?_
          refine o_pkFc rfl rfl rfl ?_
          refine o_mvt rfl ?_
          refine op_skip (g_no rfl rfl rfl rfl) ?_
          refine op_skip (g_no rfl rfl rfl rfl) ?_
          refine op_skip (g_no rfl rfl rfl rfl) ?_
          refine op_skip (g_no rfl rfl rfl rfl) ?_
          refine op_skip (g_und rfl rfl rfl) ?_
          refine op_skip (g_und rfl rfl rfl) ?_
          refine op_skip (g_und rfl rfl rfl) ?_
          refine op_skip (g_und rfl rfl rfl) ?_
          refine op_skip (g_und rfl rfl rfl) ?_
          refine op_skip (g_no rfl rfl rfl rfl) ?_
          refine o_pkFc rfl rfl rfl ?_
          refine o_ast rfl ?_
          refine ops_nil ?_
          exact ⟨by (repeat (first | with_reducible exact offM_refl _ _ | refine offM_updc rfl ?_ | refine offM_upd rfl ?_ | refine offM_updo rfl ?_ | refine offM_updo_none ?_ | refine offM_head rfl rfl ?_)), congrArg (fun b => [Value.bool b]) (by symm; exact decide_eq_false fun h => of_decide_eq_false g22 h.1), rfl⟩
      · rintro J47 vs w47 ⟨rfl, rfl⟩ -
        refine W_seq ?_
        refine W_region ?_
        refine o_mvt rfl ?_
        refine o_mvt rfl ?_
        refine op_call rfl rfl rfl (ref01_Same w47 _ v17 (eventB a) (eventB b) hO15' hO17.by_) ?_; rintro v48 w48 ⟨rfl, hk48⟩
        refine o_mvt rfl ?_
        refine op_run (r_eqlB rfl rfl rfl) rfl ?_
        refine o_mvt rfl ?_
        refine g_split rfl rfl rfl (fun g49 => ?_) (fun g => absurd g ((ev_same ha hb)))
        refine o_mvt (g_yes rfl rfl rfl g49) ?_
        refine op_run (r_len rfl rfl rfl) (g_yes rfl rfl rfl g49) ?_
        refine op_run (r_geq rfl rfl) (g_yes rfl rfl rfl g49) ?_
        refine o_pkTt rfl g49 rfl ?_
        refine o_ast rfl ?_
        refine ops_nil ?_
        refine W_ret ?_
        refine ret1 (.bool (decide (5 ≤ ((eventB a).length : Int)))) rfl ?_ ?_; rfl
        exact ⟨congrArg Value.bool (decide_eq_true (by have := eventB_len a; omega)), (((((hk1.trans hk2).trans hk3).trans hk8).trans hk9).trans hS).trans hk48⟩
end Go.Proofs.Ytkckphbdjkjfgaa.B
