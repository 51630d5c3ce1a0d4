/-
  Trees: rows that are too great; what clashes on the ways up.
-/
import Derived.Test.YtnjepmdgbkhoaaaTrD
namespace Go.Proofs.Ytnjepmdgbkhoaaa.B
open Go
set_option linter.unusedVariables false
set_option maxHeartbeats 2000000
set_option maxRecDepth 100000
attribute [local irreducible] W OpsW OpsQ retP
theorem great03 (w : World) (v : Value) (pss : List (List UInt8)) (hv : SlR w v 1 (RowB w) pss) :
    Ret Try.prog 12 [v].toArray w fun r w' => r = .bool (decide (60 < pss.length ∨ ∃ p ∈ pss, 300 < p.length)) ∧ Keep All w w' := by
  obtain ⟨a0, c0, rfl, hc0, hcm0⟩ := hv.form
  refine enter (fn := Try.f12) (n := 18) Try.func12 rfl rfl (by simp) ?_
  refine W_seq ?_
  refine W_region ?_
  refine o_asc rfl ?_
  refine ops_nil ?_
  refine W_seq ?_
  refine W_seq ?_
  refine W_region ?_
  refine o_mvt rfl ?_
  refine op_run (r_len rfl rfl rfl) rfl ?_
  refine op_run (r_gtr rfl rfl) rfl ?_
  refine ops_nil ?_
  refine W_cond_p rfl (fun h1 => ?_) (fun h1 => ?_)
  · refine W_seq ?_
    refine W_region ?_
    refine o_asc rfl ?_
    refine ops_nil ?_
    refine W_ret ?_
    refine ret1 (.bool true) rfl ?_ ?_; rfl
    exact ⟨congrArg Value.bool (decide_eq_true (.inl (by omega))).symm, Keep.refl _⟩
  · refine W_skip ?_
    refine W_seq ?_
    refine W_seq ?_
    refine W_region ?_
    refine o_mvt rfl ?_
    refine op_run (r_len rfl rfl rfl) rfl ?_
    refine o_mvc rfl ?_
    refine ops_nil ?_
    refine W_block ?_
    refine W_loop [10] [2, 4, 10, 11, 12, 13, 14, 15, 16, 17] (fun vs w1 => ∃ k : Nat, vs = [.int .i64 k] ∧ k ≤ pss.length ∧ (∀ p ∈ pss.take k, p.length ≤ 300) ∧ Keep All w w1) (fun vs _ => match vs with | [.int _ y] => pss.length - y.toNat | _ => 0) ⟨0, rfl, Nat.zero_le _, by simp, Keep.refl _⟩ ?_
    rintro J vs w1 ⟨k, rfl, hk, htk, hk1⟩ -
    refine W_seq ?_
    refine W_region ?_
    refine op_run (r_lss rfl rfl) rfl ?_
    refine ops_nil ?_
    refine W_seq ?_
    refine W_cond_p rfl (fun h4 => ?_) (fun h4 => ?_)
    · refine W_skip ?_
      refine W_seq ?_
      refine W_block ?_
      refine W_seq ?_
      refine W_region ?_
      obtain ⟨bp, op, cp, vk, ep, hck, hby⟩ := rowsB_get (k := k) hv (by omega)
      injection ep with ep1 ep2 ep3
      subst ep1; subst ep3
      obtain ⟨ak, ck, rfl, hak, hakm⟩ := hby.form
      refine op_run (r_idxS1 rfl rfl rfl rfl (by omega) (by omega)) rfl ?_
      refine op_run (r_load rfl rfl rfl (by rw [Int.toNat_natCast]; exact hk1.cell hck trivial)) rfl ?_
      refine o_ast rfl ?_
      refine ops_nil ?_
      refine W_seq ?_
      refine W_region ?_
      refine o_mvt rfl ?_
      refine op_run (r_len rfl rfl rfl) rfl ?_
      refine op_run (r_gtr rfl rfl) rfl ?_
      refine ops_nil ?_
      refine W_cond_p rfl (fun h7 => ?_) (fun h7 => ?_)
      · refine W_seq ?_
        refine W_region ?_
        refine o_asc rfl ?_
        refine ops_nil ?_
        refine W_ret ?_
        refine ret1 (.bool true) rfl ?_ ?_; rfl
        exact ⟨congrArg Value.bool (decide_eq_true (.inr ⟨pss[k], List.getElem_mem _, by omega⟩)).symm, hk1⟩
      · refine W_skip ?_
        refine W_region ?_
        refine op_run (r_add rfl rfl) rfl ?_
        refine o_mvt rfl ?_
        refine ops_nil ?_
        have e : IntKind.i64.wrap ((k : Int) + 1) = ((k + 1 : Nat) : Int) := by rw [wrap_i64 (by omega) (by omega)]; omega
        refine ⟨by (repeat (first | with_reducible exact offM_refl _ _ | refine offM_updc rfl ?_ | refine offM_upd rfl ?_ | refine offM_updo rfl ?_ | refine offM_updo_none ?_ | refine offM_head rfl rfl ?_)), ⟨k + 1, congrArg (fun z : Int => [Value.int .i64 z]) e, by omega, ?_, hk1⟩, ?_⟩
        · intro p hp
          rw [List.take_succ_eq_append_getElem (by omega)] at hp
          rcases List.mem_append.1 hp with hp | hp
          · exact htk p hp
          · obtain rfl := List.mem_singleton.1 hp; omega
        · show pss.length - (IntKind.i64.wrap ((k : Int) + 1)).toNat < pss.length - (k : Int).toNat
          rw [e]; omega
    · refine W_exit ?_
      refine W_seq ?_
      refine W_region ?_
      refine o_asc rfl ?_
      refine ops_nil ?_
      refine W_ret ?_
      refine ret1 (.bool false) rfl ?_ ?_; rfl
      have e : k = pss.length := by omega
      subst e
      rw [List.take_length] at htk
      refine ⟨congrArg Value.bool (decide_eq_false ?_).symm, hk1⟩
      rintro (h | ⟨p, hp, h⟩)
      · omega
      · have := htk p hp; omega

theorem clashD_1 (x : List UInt8) (pos : Nat) (row : List UInt8) (proof : List Dig) : clashD tagD [x] pos row proof = decide (tagD 0 [row] = tagD 0 [x] ∧ row ≠ x) := by rw [clashD, dif_neg (by simp)]; rfl
theorem clashD_0 {rows : List (List UInt8)} (h : 2 ≤ rows.length) (pos : Nat) (row : List UInt8) : clashD tagD rows pos row [] = false := by rw [clashD, dif_pos h, if_pos rfl]
theorem clashD_l {rows : List (List UInt8)} {pos : Nat} {row : List UInt8} {m : List Dig} {p : Dig} (h : 2 ≤ rows.length) (hp : pos < splitN rows.length) : clashD tagD rows pos row (m ++ [p]) = if (leadD tagD (splitN rows.length) pos row m).1 ≠ rootD tagD (rows.take (splitN rows.length)) ∨ p ≠ rootD tagD (rows.drop (splitN rows.length)) then
        decide (tagD 1 [(leadD tagD (splitN rows.length) pos row m).1.val, p.val] = rootD tagD rows)
      else clashD tagD (rows.take (splitN rows.length)) pos row m := by
  rw [clashD, dif_pos h, if_neg (by simp), if_pos hp]; simp only [List.dropLast_concat, List.getLastD_concat]
theorem clashD_r {rows : List (List UInt8)} {pos : Nat} {row : List UInt8} {m : List Dig} {p : Dig} (h : 2 ≤ rows.length) (hp : ¬ pos < splitN rows.length) : clashD tagD rows pos row (m ++ [p]) = if (leadD tagD (rows.length - splitN rows.length) (pos - splitN rows.length) row m).1 ≠ rootD tagD (rows.drop (splitN rows.length)) ∨ p ≠ rootD tagD (rows.take (splitN rows.length)) then
        decide (tagD 1 [p.val, (leadD tagD (rows.length - splitN rows.length) (pos - splitN rows.length) row m).1.val] = rootD tagD rows)
      else clashD tagD (rows.drop (splitN rows.length)) (pos - splitN rows.length) row m := by
  rw [clashD, dif_pos h, if_neg (by simp), if_neg hp]; simp only [List.dropLast_concat, List.getLastD_concat]
def phi15 (l r : Dig) (k : Nat) (v : Value) (wa wb : World) : Prop :=
  match k with
  | 3 => v = .agg (dgR l).toArray
  | 7 => v = .agg (dgR r).toArray
  | _ => v = .pointer (some ⟨wa.heap.size, 0, none⟩) ∧ Blk wb wa.heap.size (List.replicate 32 (c8 0)) 23
theorem By.rowp {w : World} {b o : Nat} {d : Dig} (h : ∀ (j : Nat) (v : Value), (dgR d)[j]? = some v → w.cell? ((⟨b, o, none⟩ : Addr).add j) = some v) : By w (.slice (some ⟨b, o, none⟩) 32 32) d.val := by
  have hl := d.2
  have := By.of_at (w := w) (b := b) (off := o) (c := 32) (bs := d.val) (fun j u hj => by rw [← Addr.add_lit]; exact h j u hj) (by omega) (by unfold maxLen; omega)
  rwa [hl] at this

theorem law_clash (n : Nat) : ∀ (w : World) (v vr vp : Value) (pss : List (List UInt8)) (pos : Nat) (row : List UInt8) (proof : List Dig), pss.length = n → pos < pss.length → SlR w v 1 (RowB w) pss → (∀ p ∈ pss, p.length ≤ 100000) → By w vr row → row.length ≤ 100000 → Sl w vp proof.length 32 (rows dgR proof) →
    Ret Try.prog 15 [v, .int .i64 pos, vr, vp].toArray w fun r w' => r = .bool (clashD tagD pss pos row proof) ∧ Keep All w w' := by
  induction n using Nat.strongRecOn
  rename_i n ih
  intro w v vr vp pss pos row proof hn hpos hv hl hr hrl hp
  obtain ⟨a0, c0, rfl, hc0, hcm0⟩ := hv.form
  obtain ⟨ar, cr, rfl, _, _⟩ := hr.form
  obtain ⟨ap, cp, rfl, hcp, hcmp⟩ := hp.form
  refine enter (fn := Try.f15) (n := 143) Try.func15 rfl rfl (by simp) ?_
  refine W_seq ?_
  refine W_region ?_
  refine o_asc rfl ?_
  refine ops_nil ?_
  refine W_seq ?_
  refine W_seq ?_
  refine W_region ?_
  refine o_mvt rfl ?_
  refine op_run (r_len rfl rfl rfl) rfl ?_
  refine op_run (r_eql rfl rfl) rfl ?_
  refine ops_nil ?_
  refine W_cond_p rfl (fun h1 => ?_) (fun h1 => ?_)
  · refine W_seq ?_
    obtain ⟨x, rfl⟩ := List.length_eq_one_iff.1 (show pss.length = 1 by omega)
    obtain ⟨bp, op, cp', vk, ep, hck, hby⟩ := rowsB_get (k := 0) hv (by simp)
    injection ep with ep1 ep2 ep3
    subst ep1; subst ep3
    obtain ⟨ak, ck, rfl, hak, hakm⟩ := hby.form
    have hxl : x.length ≤ 100000 := hl x (List.mem_singleton_self x)
    rw [clashD_1]
    refine W_held (fun w' => Keep All w w') (by kernel_rfl) (Keep.drawn w) (fun hS => ?_)
    refine any_mvt 0 rfl (by kernel_rfl) (by kernel_rfl) (by kernel_rfl) rfl hS ?_
    refine any_mvt 3 rfl (by kernel_rfl) (by kernel_rfl) (by kernel_rfl) rfl hS ?_
    refine any_run 4 (fun w' hS' => (r_idxS1 rfl rfl rfl rfl (by decide) (by simp))) rfl (by kernel_rfl) (by kernel_rfl) (by kernel_rfl) rfl hS ?_
    refine any_run 5 (fun w' hS' => (r_load rfl rfl rfl (hS'.cell hck trivial))) rfl (by kernel_rfl) (by kernel_rfl) (by kernel_rfl) rfl hS ?_
    refine any_two 1 6 (by kernel_rfl) (one_of rfl ?_) (one_of rfl ?_)
    · refine o_bs1 (v := _) rfl rfl rfl rfl rfl rfl ?_; intro w5 b5 e5 hB5 hk5 hs5
      refine ops_nil ⟨hS.trans hk5, fun hS => ?_⟩
      refine any_two 2 6 (by kernel_rfl) (one_of rfl ?_) (one_of rfl ?_)
      · refine op_call rfl rfl rfl (rf_Tagged _ _ 0 [row] (rowsB_one hB5 (hr.k hS)) (tag_1 _ hrl)) ?_; rintro v7 w7 ⟨rfl, hk7⟩
        refine ops_nil ⟨hS.trans hk7, fun hS => ?_⟩
        refine any_one 6 (by kernel_rfl) (one_of rfl ?_)
        refine o_bs1 (v := _) rfl rfl rfl rfl rfl rfl ?_; intro w9 b9 e9 hB9 hk9 hs9
        refine ops_nil ⟨hS.trans hk9, fun hS => ?_⟩
        refine any_one 7 (by kernel_rfl) (one_of rfl ?_)
        refine op_call rfl rfl rfl (rf_Tagged _ _ 0 [x] (rowsB_one hB9 (hby.k hS)) (tag_1 _ hxl)) ?_; rintro v11 w11 ⟨rfl, hk11⟩
        refine ops_nil ⟨hS.trans hk11, fun hS => ?_⟩
        refine any_run 8 (fun w' hS' => (r_eqlC (p := tagD 0 [row] = tagD 0 [x]) rfl rfl rfl rfl (by kernel_rfl) (okC_dgR _) (okC_dgR _) rfl (dgR_inj))) rfl (by kernel_rfl) (by kernel_rfl) (by kernel_rfl) rfl hS ?_
        refine any_mvt 9 rfl (by kernel_rfl) (by kernel_rfl) (by kernel_rfl) rfl hS ?_
        refine a_split 29 true rfl (fun g14 => ?_) (fun g14 => ?_)
        · refine any_mvt 10 rfl (by kernel_rfl) (by kernel_rfl) (by kernel_rfl) (g_yes rfl rfl rfl g14) hS ?_
          refine any_mvt 11 rfl (by kernel_rfl) (by kernel_rfl) (by kernel_rfl) (g_yes rfl rfl rfl g14) hS ?_
          refine any_run 12 (fun w' hS' => (r_idxS1 rfl rfl rfl rfl (by decide) (by simp))) rfl (by kernel_rfl) (by kernel_rfl) (by kernel_rfl) (g_yes rfl rfl rfl g14) hS ?_
          refine any_run 13 (fun w' hS' => (r_load rfl rfl rfl (hS'.cell hck trivial))) rfl (by kernel_rfl) (by kernel_rfl) (by kernel_rfl) (g_yes rfl rfl rfl g14) hS ?_
          refine any_one 14 (by kernel_rfl) (one_of rfl ?_)
          refine op_call rfl rfl (g_yes rfl rfl rfl g14) (ref01_Same _ _ _ row x (hr.k hS) (hby.k hS)) ?_; rintro v17 w17 ⟨rfl, hk17⟩
          refine ops_nil ⟨hS.trans hk17, fun hS => ?_⟩
          refine any_run 15 (fun w' hS' => (r_not rfl)) rfl (by kernel_rfl) (by kernel_rfl) (by kernel_rfl) (g_yes rfl rfl rfl g14) hS ?_
          refine any_run 16 (fun w' hS' => (r_pickT rfl g14)) rfl (by kernel_rfl) (by kernel_rfl) (by kernel_rfl) rfl hS ?_
          refine any_ast 17 rfl (by kernel_rfl) (by kernel_rfl) (by kernel_rfl) rfl hS ?_
          refine any_done (by kernel_rfl) ?_
          refine W_ret ?_
          refine ret1 (.bool (!decide (row = x))) rfl ?_ ?_; rfl
          exact ⟨congrArg Value.bool (by have g14 := of_decide_eq_true g14; simp [g14]), hS⟩
        · refine any_skip 10 rfl (by kernel_rfl) (by kernel_rfl) (by kernel_rfl) (g_no rfl rfl rfl g14) hS ?_
          refine any_skip 11 rfl (by kernel_rfl) (by kernel_rfl) (by kernel_rfl) (g_no rfl rfl rfl g14) hS ?_
          refine any_skip 12 rfl (by kernel_rfl) (by kernel_rfl) (by kernel_rfl) (g_no rfl rfl rfl g14) hS ?_
          refine any_skip 13 rfl (by kernel_rfl) (by kernel_rfl) (by kernel_rfl) (g_no rfl rfl rfl g14) hS ?_
          refine any_one 14 (by kernel_rfl) (one_of rfl ?_)
          refine op_skip (g_no rfl rfl rfl g14) ?_
          refine ops_nil ⟨hS, fun hS => ?_⟩
          refine any_skip 15 rfl (by kernel_rfl) (by kernel_rfl) (by kernel_rfl) (g_no rfl rfl rfl g14) hS ?_
          refine any_run 16 (fun w' hS' => (r_pickF rfl g14)) rfl (by kernel_rfl) (by kernel_rfl) (by kernel_rfl) rfl hS ?_
          refine any_ast 17 rfl (by kernel_rfl) (by kernel_rfl) (by kernel_rfl) rfl hS ?_
          refine any_done (by kernel_rfl) ?_
          refine W_ret ?_
          refine ret1 (.bool false) rfl ?_ ?_; rfl
          exact ⟨congrArg Value.bool (by have g14 := of_decide_eq_false g14; simp [g14]), hS⟩
      · refine o_bs1 (v := _) rfl rfl rfl rfl rfl rfl ?_; intro w22 b22 e22 hB22 hk22 hs22
        refine ops_nil ⟨hS.trans hk22, fun hS => ?_⟩
        refine any_one 2 (by kernel_rfl) (one_of rfl ?_)
        refine op_call rfl rfl rfl (rf_Tagged _ _ 0 [row] (rowsB_one (hk22.blk' hB5 trivial) (hr.k hS)) (tag_1 _ hrl)) ?_; rintro v24 w24 ⟨rfl, hk24⟩
        refine ops_nil ⟨hS.trans hk24, fun hS => ?_⟩
        refine any_one 7 (by kernel_rfl) (one_of rfl ?_)
        refine op_call rfl rfl rfl (rf_Tagged _ _ 0 [x] (rowsB_one (hk24.blk' hB22 trivial) (hby.k hS)) (tag_1 _ hxl)) ?_; rintro v26 w26 ⟨rfl, hk26⟩
        refine ops_nil ⟨hS.trans hk26, fun hS => ?_⟩
        refine any_run 8 (fun w' hS' => (r_eqlC (p := tagD 0 [row] = tagD 0 [x]) rfl rfl rfl rfl (by kernel_rfl) (okC_dgR _) (okC_dgR _) rfl (dgR_inj))) rfl (by kernel_rfl) (by kernel_rfl) (by kernel_rfl) rfl hS ?_
        refine any_mvt 9 rfl (by kernel_rfl) (by kernel_rfl) (by kernel_rfl) rfl hS ?_
        refine a_split 29 true rfl (fun g29 => ?_) (fun g29 => ?_)
        · refine any_mvt 10 rfl (by kernel_rfl) (by kernel_rfl) (by kernel_rfl) (g_yes rfl rfl rfl g29) hS ?_
          refine any_mvt 11 rfl (by kernel_rfl) (by kernel_rfl) (by kernel_rfl) (g_yes rfl rfl rfl g29) hS ?_
          refine any_run 12 (fun w' hS' => (r_idxS1 rfl rfl rfl rfl (by decide) (by simp))) rfl (by kernel_rfl) (by kernel_rfl) (by kernel_rfl) (g_yes rfl rfl rfl g29) hS ?_
          refine any_run 13 (fun w' hS' => (r_load rfl rfl rfl (hS'.cell hck trivial))) rfl (by kernel_rfl) (by kernel_rfl) (by kernel_rfl) (g_yes rfl rfl rfl g29) hS ?_
          refine any_one 14 (by kernel_rfl) (one_of rfl ?_)
          refine op_call rfl rfl (g_yes rfl rfl rfl g29) (ref01_Same _ _ _ row x (hr.k hS) (hby.k hS)) ?_; rintro v32 w32 ⟨rfl, hk32⟩
          refine ops_nil ⟨hS.trans hk32, fun hS => ?_⟩
          refine any_run 15 (fun w' hS' => (r_not rfl)) rfl (by kernel_rfl) (by kernel_rfl) (by kernel_rfl) (g_yes rfl rfl rfl g29) hS ?_
          refine any_run 16 (fun w' hS' => (r_pickT rfl g29)) rfl (by kernel_rfl) (by kernel_rfl) (by kernel_rfl) rfl hS ?_
          refine any_ast 17 rfl (by kernel_rfl) (by kernel_rfl) (by kernel_rfl) rfl hS ?_
          refine any_done (by kernel_rfl) ?_
          refine W_ret ?_
          refine ret1 (.bool (!decide (row = x))) rfl ?_ ?_; rfl
          exact ⟨congrArg Value.bool (by have g29 := of_decide_eq_true g29; simp [g29]), hS⟩
        · refine any_skip 10 rfl (by kernel_rfl) (by kernel_rfl) (by kernel_rfl) (g_no rfl rfl rfl g29) hS ?_
          refine any_skip 11 rfl (by kernel_rfl) (by kernel_rfl) (by kernel_rfl) (g_no rfl rfl rfl g29) hS ?_
          refine any_skip 12 rfl (by kernel_rfl) (by kernel_rfl) (by kernel_rfl) (g_no rfl rfl rfl g29) hS ?_
          refine any_skip 13 rfl (by kernel_rfl) (by kernel_rfl) (by kernel_rfl) (g_no rfl rfl rfl g29) hS ?_
          refine any_one 14 (by kernel_rfl) (one_of rfl ?_)
          refine op_skip (g_no rfl rfl rfl g29) ?_
          refine ops_nil ⟨hS, fun hS => ?_⟩
          refine any_skip 15 rfl (by kernel_rfl) (by kernel_rfl) (by kernel_rfl) (g_no rfl rfl rfl g29) hS ?_
          refine any_run 16 (fun w' hS' => (r_pickF rfl g29)) rfl (by kernel_rfl) (by kernel_rfl) (by kernel_rfl) rfl hS ?_
          refine any_ast 17 rfl (by kernel_rfl) (by kernel_rfl) (by kernel_rfl) rfl hS ?_
          refine any_done (by kernel_rfl) ?_
          refine W_ret ?_
          refine ret1 (.bool false) rfl ?_ ?_; rfl
          exact ⟨congrArg Value.bool (by have g29 := of_decide_eq_false g29; simp [g29]), hS⟩
    · refine o_bs1 (v := _) rfl rfl rfl rfl rfl rfl ?_; intro w37 b37 e37 hB37 hk37 hs37
      refine ops_nil ⟨hS.trans hk37, fun hS => ?_⟩
      refine any_one 1 (by kernel_rfl) (one_of rfl ?_)
      refine o_bs1 (v := _) rfl rfl rfl rfl rfl rfl ?_; intro w39 b39 e39 hB39 hk39 hs39
      refine ops_nil ⟨hS.trans hk39, fun hS => ?_⟩
      refine any_one 2 (by kernel_rfl) (one_of rfl ?_)
      refine op_call rfl rfl rfl (rf_Tagged _ _ 0 [row] (rowsB_one hB39 (hr.k hS)) (tag_1 _ hrl)) ?_; rintro v41 w41 ⟨rfl, hk41⟩
      refine ops_nil ⟨hS.trans hk41, fun hS => ?_⟩
      refine any_one 7 (by kernel_rfl) (one_of rfl ?_)
      refine op_call rfl rfl rfl (rf_Tagged _ _ 0 [x] (rowsB_one (hk41.blk' (hk39.blk' hB37 trivial) trivial) (hby.k hS)) (tag_1 _ hxl)) ?_; rintro v43 w43 ⟨rfl, hk43⟩
      refine ops_nil ⟨hS.trans hk43, fun hS => ?_⟩
      refine any_run 8 (fun w' hS' => (r_eqlC (p := tagD 0 [row] = tagD 0 [x]) rfl rfl rfl rfl (by kernel_rfl) (okC_dgR _) (okC_dgR _) rfl (dgR_inj))) rfl (by kernel_rfl) (by kernel_rfl) (by kernel_rfl) rfl hS ?_
      refine any_mvt 9 rfl (by kernel_rfl) (by kernel_rfl) (by kernel_rfl) rfl hS ?_
      refine a_split 29 true rfl (fun g46 => ?_) (fun g46 => ?_)
      · refine any_mvt 10 rfl (by kernel_rfl) (by kernel_rfl) (by kernel_rfl) (g_yes rfl rfl rfl g46) hS ?_
        refine any_mvt 11 rfl (by kernel_rfl) (by kernel_rfl) (by kernel_rfl) (g_yes rfl rfl rfl g46) hS ?_
        refine any_run 12 (fun w' hS' => (r_idxS1 rfl rfl rfl rfl (by decide) (by simp))) rfl (by kernel_rfl) (by kernel_rfl) (by kernel_rfl) (g_yes rfl rfl rfl g46) hS ?_
        refine any_run 13 (fun w' hS' => (r_load rfl rfl rfl (hS'.cell hck trivial))) rfl (by kernel_rfl) (by kernel_rfl) (by kernel_rfl) (g_yes rfl rfl rfl g46) hS ?_
        refine any_one 14 (by kernel_rfl) (one_of rfl ?_)
        refine op_call rfl rfl (g_yes rfl rfl rfl g46) (ref01_Same _ _ _ row x (hr.k hS) (hby.k hS)) ?_; rintro v49 w49 ⟨rfl, hk49⟩
        refine ops_nil ⟨hS.trans hk49, fun hS => ?_⟩
        refine any_run 15 (fun w' hS' => (r_not rfl)) rfl (by kernel_rfl) (by kernel_rfl) (by kernel_rfl) (g_yes rfl rfl rfl g46) hS ?_
        refine any_run 16 (fun w' hS' => (r_pickT rfl g46)) rfl (by kernel_rfl) (by kernel_rfl) (by kernel_rfl) rfl hS ?_
        refine any_ast 17 rfl (by kernel_rfl) (by kernel_rfl) (by kernel_rfl) rfl hS ?_
        refine any_done (by kernel_rfl) ?_
        refine W_ret ?_
        refine ret1 (.bool (!decide (row = x))) rfl ?_ ?_; rfl
        exact ⟨congrArg Value.bool (by have g46 := of_decide_eq_true g46; simp [g46]), hS⟩
      · refine any_skip 10 rfl (by kernel_rfl) (by kernel_rfl) (by kernel_rfl) (g_no rfl rfl rfl g46) hS ?_
        refine any_skip 11 rfl (by kernel_rfl) (by kernel_rfl) (by kernel_rfl) (g_no rfl rfl rfl g46) hS ?_
        refine any_skip 12 rfl (by kernel_rfl) (by kernel_rfl) (by kernel_rfl) (g_no rfl rfl rfl g46) hS ?_
        refine any_skip 13 rfl (by kernel_rfl) (by kernel_rfl) (by kernel_rfl) (g_no rfl rfl rfl g46) hS ?_
        refine any_one 14 (by kernel_rfl) (one_of rfl ?_)
        refine op_skip (g_no rfl rfl rfl g46) ?_
        refine ops_nil ⟨hS, fun hS => ?_⟩
        refine any_skip 15 rfl (by kernel_rfl) (by kernel_rfl) (by kernel_rfl) (g_no rfl rfl rfl g46) hS ?_
        refine any_run 16 (fun w' hS' => (r_pickF rfl g46)) rfl (by kernel_rfl) (by kernel_rfl) (by kernel_rfl) rfl hS ?_
        refine any_ast 17 rfl (by kernel_rfl) (by kernel_rfl) (by kernel_rfl) rfl hS ?_
        refine any_done (by kernel_rfl) ?_
        refine W_ret ?_
        refine ret1 (.bool false) rfl ?_ ?_; rfl
        exact ⟨congrArg Value.bool (by have g46 := of_decide_eq_false g46; simp [g46]), hS⟩
  · refine W_skip ?_
    refine W_seq ?_
    refine W_region ?_
    refine o_mvt rfl ?_
    refine op_run (r_len rfl rfl rfl) rfl ?_
    refine op_run ((r_sub rfl rfl).val (congrArg (Value.int .i64) (show IntKind.i64.wrap ((proof.length : Int) - 1) = (proof.length : Int) - 1 from wrap_i64 (by omega) (by unfold maxLen at hcmp; omega)))) rfl ?_
    refine o_ast rfl ?_
    refine ops_nil ?_
    refine W_seq ?_
    refine W_seq ?_
    refine W_region ?_
    refine o_mvt rfl ?_
    refine op_run (r_lss rfl rfl) rfl ?_
    refine ops_nil ?_
    have h2 : 2 ≤ pss.length := by omega
    have hsp := splitN_lt h2
    have hsp0 := splitN_pos pss.length
    refine W_cond_p rfl (fun h54 => ?_) (fun h54 => ?_)
    · refine W_seq ?_
      refine W_region ?_
      refine o_asc rfl ?_
      refine ops_nil ?_
      refine W_ret ?_
      refine ret1 (.bool false) rfl ?_ ?_; rfl
      have e : proof = [] := List.length_eq_zero_iff.1 (by omega)
      subst e
      rw [clashD_0 h2]
      exact ⟨rfl, Keep.refl _⟩
    · refine W_skip ?_
      refine W_seq ?_
      refine W_region ?_
      refine o_mvt rfl ?_
      refine op_run (r_len rfl rfl rfl) rfl ?_
      obtain ⟨m, p, rfl⟩ := (snoc_of proof).resolve_left (fun e => h54 (by rw [e]; decide))
      have hpl : (m ++ [p]).length = m.length + 1 := by simp
      rw [show (((m ++ [p]).length : Nat) : Int) - 1 = (m.length : Int) by rw [hpl]; omega]
      refine op_call rfl rfl rfl (rf_Split w pss.length h2 (by unfold maxLen at hcm0; omega)) ?_; rintro v56 w56 ⟨rfl, rfl⟩
      obtain ⟨bp, op, rfl, hcells⟩ := rows_at' (i := m.length) dgR_len hp (by omega) (by decide)
      have hcells : ∀ (j : Nat) (v : Value), (dgR p)[j]? = some v → w56.cell? ((⟨bp, op + m.length * 32, none⟩ : Addr).add j) = some v := fun j v hj => hcells j v (by simpa using hj)
      have hpm : Sl w56 (subSl (some ⟨bp, op, none⟩) 32 0 m.length cp) m.length 32 (rows dgR m) := by
        have h := hp.sub (Nat.zero_le m.length) (show m.length ≤ (m ++ [p]).length by omega) (show m.length ≤ cp by omega) (Nat.le_refl _)
        rw [Nat.sub_zero, Nat.zero_mul, List.drop_zero, rows_take dgR_len, List.take_left] at h
        exact h
      have hsa : SlR w56 (subSl a0 1 0 (splitN pss.length) c0) 1 (RowB w56) (pss.take (splitN pss.length)) := hv.sub (Nat.zero_le _) (by omega) (by omega) (Nat.le_refl _) (by decide)
      have hsb : SlR w56 (subSl a0 1 (splitN pss.length) pss.length c0) 1 (RowB w56) (pss.drop (splitN pss.length)) := by
        have := hv.sub (h := pss.length) (show splitN pss.length ≤ pss.length by omega) (Nat.le_refl _) hc0 (Nat.le_refl _) (by decide)
        rwa [List.take_length] at this
      have hla : (pss.take (splitN pss.length)).length = splitN pss.length := by rw [List.length_take]; omega
      have hlb : (pss.drop (splitN pss.length)).length = pss.length - splitN pss.length := List.length_drop
      refine o_ast rfl ?_
      refine ops_nil ?_
      refine W_seq ?_
      refine W_held (fun w' => Keep All w56 w') (by kernel_rfl) (Keep.drawn w56) (fun hS => ?_)
      refine any_mvt 0 rfl (by kernel_rfl) (by kernel_rfl) (by kernel_rfl) rfl hS ?_
      refine any_mvt 1 rfl (by kernel_rfl) (by kernel_rfl) (by kernel_rfl) rfl hS ?_
      refine any_run 2 (fun w' hS' => (r_sliceS_hi rfl rfl rfl rfl (by omega) (by omega))) rfl (by kernel_rfl) (by kernel_rfl) (by kernel_rfl) rfl hS ?_
      refine any_mvt 4 rfl (by kernel_rfl) (by kernel_rfl) (by kernel_rfl) rfl hS ?_
      refine any_mvt 5 rfl (by kernel_rfl) (by kernel_rfl) (by kernel_rfl) rfl hS ?_
      refine any_run 6 (fun w' hS' => (r_sliceS_lo rfl rfl rfl rfl (by omega) (by omega))) rfl (by kernel_rfl) (by kernel_rfl) (by kernel_rfl) rfl hS ?_
      refine any_mono [⟨3, 48, []⟩, ⟨7, 52, []⟩, ⟨8, 11, []⟩, ⟨9, 12, []⟩] (fun k v wa wb => phi15 (rootD tagD (pss.take (splitN pss.length))) (rootD tagD (pss.drop (splitN pss.length))) k v wa wb) 2 (by kernel_rfl) (by kernel_rfl) (fun w' hk' => hS.trans hk') (And.intro ?_ (And.intro ?_ (And.intro ?_ (And.intro ?_ True.intro)))) ?_
      · rintro J vs gg w61 hk61 rfl
        refine one_of rfl ?_
        refine op_call rfl rfl rfl (rf_Root (splitN pss.length) w61 _ (pss.take (splitN pss.length)) hla (rowsB_keep hsa (hS.trans hk61)) (fun p hp => hl p (List.mem_of_mem_take hp))) ?_; rintro v62 w62 ⟨rfl, hk62⟩
        exact ops_nil ⟨hk62, rfl⟩
      · rintro J vs gg w64 hk64 rfl
        refine one_of rfl ?_
        refine op_call rfl rfl rfl (rf_Root (pss.length - splitN pss.length) w64 _ (pss.drop (splitN pss.length)) hlb (rowsB_keep hsb (hS.trans hk64)) (fun p hp => hl p (List.mem_of_mem_drop hp))) ?_; rintro v65 w65 ⟨rfl, hk65⟩
        exact ops_nil ⟨hk65, rfl⟩
      · rintro J vs gg w67 hk67 rfl
        refine one_of rfl ?_
        refine o_alloc rfl rfl rfl ?_; intro w68 b68 e68 hB68 hk68 hs68
        exact ops_nil ⟨hk68, (by subst e68; exact ⟨rfl, hB68⟩)⟩
      · rintro J vs gg w70 hk70 rfl
        refine one_of rfl ?_
        refine o_alloc rfl rfl rfl ?_; intro w71 b71 e71 hB71 hk71 hs71
        exact ops_nil ⟨hk71, (by subst e71; exact ⟨rfl, hB71⟩)⟩
      · rintro J vs gg w73 hk73 ⟨v60_3, _, rfl, ⟨wa3, wb3, ka3, kab3, kb3, hg3, hf3⟩, v60_7, _, rfl, ⟨wa7, wb7, ka7, kab7, kb7, hg7, hf7⟩, v60_8, _, rfl, ⟨wa8, wb8, ka8, kab8, kb8, hg8, hf8⟩, v60_9, _, rfl, ⟨wa9, wb9, ka9, kab9, kb9, hg9, hf9⟩, rfl⟩
        obtain rfl : v60_3 = .agg (dgR (rootD tagD (pss.take (splitN pss.length)))).toArray := hf3
        obtain rfl : v60_7 = .agg (dgR (rootD tagD (pss.drop (splitN pss.length)))).toArray := hf7
        obtain ⟨rfl, hBl⟩ := hf8
        obtain ⟨rfl, hBr⟩ := hf9
        have hz8 : w56.heap.size ≤ wa8.heap.size := Nat.le_trans hS.size ka8.size
        have hz9 : w56.heap.size ≤ wa9.heap.size := Nat.le_trans hS.size ka9.size
        have hne : wa8.heap.size ≠ wa9.heap.size := fun e => by
          have h8 := hg8 _ (Nat.le_refl _) hBl.lt
          have h9 := hg9 _ (Nat.le_refl _) hBr.lt
          rw [e, h9] at h8; cases h8
        have hS : (fun w' => Keep All w56 w') w73 := hS.trans hk73
        refine any_one 10 (by kernel_rfl) (one_of rfl ?_)
        refine o_storeA (cs := dgR (rootD tagD (pss.take (splitN pss.length)))) rfl rfl (by first | rfl | exact dgR_one _ | exact refR_one _ | exact secR_one _ | exact all_c8 _) (by first | rfl | (rw [dgR_len]; rfl) | (rw [refR_len]; rfl) | (rw [secR_len]; rfl) | (rw [List.length_map, tagF_len]; rfl)) (kb8.blk' hBl trivial) (by exact Nat.le_of_eq (by simp [dgR_len])) rfl ?_; intro w75 hB75 hk75 hs75
        have hB75 : Blk w75 wa8.heap.size (dgR (rootD tagD (pss.take (splitN pss.length)))) 23 := by
          have h := hB75
          rwa [splice_all (by simp [dgR_len])] at h
        refine ops_nil ⟨hS.new hk75 hz8, fun hS => ?_⟩
        refine any_one 11 (by kernel_rfl) (one_of rfl ?_)
        refine o_storeA (cs := dgR (rootD tagD (pss.drop (splitN pss.length)))) rfl rfl (by first | rfl | exact dgR_one _ | exact refR_one _ | exact secR_one _ | exact all_c8 _) (by first | rfl | (rw [dgR_len]; rfl) | (rw [refR_len]; rfl) | (rw [secR_len]; rfl) | (rw [List.length_map, tagF_len]; rfl)) (hk75.blk' (kb9.blk' hBr trivial) (Ne.symm hne)) (by exact Nat.le_of_eq (by simp [dgR_len])) rfl ?_; intro w77 hB77 hk77 hs77
        have hB77 : Blk w77 wa9.heap.size (dgR (rootD tagD (pss.drop (splitN pss.length)))) 23 := by
          have h := hB77
          rwa [splice_all (by simp [dgR_len])] at h
        have hB75' := hk77.blk' hB75 hne
        refine ops_nil ⟨hS.new hk77 hz9, fun hS => ?_⟩
        refine any_done (by kernel_rfl) ?_
        refine W_seq ?_
        refine W_seq ?_
        refine W_region ?_
        refine o_mvt rfl ?_
        refine o_mvt rfl ?_
        refine op_run (r_lss rfl rfl) rfl ?_
        refine ops_nil ?_
        refine W_cond_p rfl (fun h79 => ?_) (fun h79 => ?_)
        · refine W_seq ?_
          refine W_region ?_
          refine o_mvt rfl ?_
          refine o_mvt rfl ?_
          refine o_mvt rfl ?_
          refine o_mvt rfl ?_
          refine o_mvt rfl ?_
          refine op_run (r_sliceS_hi rfl rfl rfl rfl (by omega) (by omega)) rfl ?_
          refine op_call rfl rfl rfl (rf_Lead (splitN pss.length) w77 (splitN pss.length) (pos) _ _ row m rfl (by omega) (by unfold maxLen at hcm0; omega) (by omega) (hr.k hS) hrl (hpm.k hS)) ?_; rintro v81 w81 ⟨rfl, hk81⟩
          refine o_mvt rfl ?_
          refine op_run (r_extract rfl rfl) rfl ?_
          refine op_run (r_extract rfl rfl) rfl ?_
          refine o_alloc rfl rfl rfl ?_; intro w82 b82 e82 hB82 hk82 hs82
          refine o_storeA (cs := dgR (leadD tagD (splitN pss.length) (pos) row m).1) rfl rfl (by first | rfl | exact dgR_one _ | exact refR_one _ | exact secR_one _ | exact all_c8 _) (by first | rfl | (rw [dgR_len]; rfl) | (rw [refR_len]; rfl) | (rw [secR_len]; rfl) | (rw [List.length_map, tagF_len]; rfl)) hB82 (by exact Nat.le_of_eq (by simp [dgR_len])) rfl ?_; intro w83 hB83 hk83 hs83
          have hB83 : Blk w83 b82 (dgR (leadD tagD (splitN pss.length) (pos) row m).1) 23 := by
            have h := hB83
            rwa [splice_all (by simp [dgR_len])] at h
          have hkA : Keep All w77 w83 := (hk81.trans hk82).new hk83 (by have := hk81.size; omega)
          have hBl' := hkA.blk' hB75' trivial
          have hBr' := hkA.blk' hB77 trivial
          have hkB : Keep All w56 w83 := hS.trans hkA
          refine o_ast rfl ?_
          refine ops_nil ?_
          refine W_seq ?_
          refine W_cut [76] [66, 67, 68, 69, 70, 71, 72, 73, 74, 75, 76] (fun vs w84 => vs = [.bool (decide ((leadD tagD (splitN pss.length) (pos) row m).1 ≠ rootD tagD (pss.take (splitN pss.length)) ∨ p ≠ rootD tagD (pss.drop (splitN pss.length))))] ∧ Keep All w83 w84) ?_ ?_
          · refine W_quiet (Keep All w83) (by kernel_rfl) (by kernel_rfl) (Keep.drawn _) ?_
            refine q_run (fun _ hk => r_loadA (dgR (leadD tagD (splitN pss.length) (pos) row m).1) rfl rfl rfl (by first | rfl | (rw [dgR_len]; rfl) | (rw [refR_len]; rfl) | (rw [secR_len]; rfl) | (rw [List.length_map, tagF_len]; rfl)) ((hk.blk' hB83 trivial).all)) rfl ?_
            refine q_run (fun _ hk => r_loadA (dgR (rootD tagD (pss.take (splitN pss.length)))) rfl rfl rfl (by first | rfl | (rw [dgR_len]; rfl) | (rw [refR_len]; rfl) | (rw [secR_len]; rfl) | (rw [List.length_map, tagF_len]; rfl)) ((hk.blk' hBl' trivial).all)) rfl ?_
            refine q_run (fun _ _ => (r_neqC (p := (leadD tagD (splitN pss.length) (pos) row m).1 = rootD tagD (pss.take (splitN pss.length))) rfl rfl rfl rfl (by kernel_rfl) (okC_dgR _) (okC_dgR _) rfl (dgR_inj))) rfl ?_
            refine q_mvt rfl ?_
            refine q_split rfl rfl rfl (fun g89 => ?_) (fun g89 => ?_)
            · refine q_mvt (g_yes rfl rfl rfl g89) ?_
              refine q_mvt (g_yes rfl rfl rfl g89) ?_
              refine q_run (fun _ _ => r_idxS rfl rfl rfl ti_d (by omega) (by omega)) (g_yes rfl rfl rfl g89) ?_
              refine q_run (fun _ hk => r_loadA (dgR p) rfl rfl rfl (by first | rfl | (rw [dgR_len]; rfl) | (rw [refR_len]; rfl) | (rw [secR_len]; rfl) | (rw [List.length_map, tagF_len]; rfl)) ((by intro u v hu; rw [Int.toNat_natCast]; exact (hkB.trans hk).cell (hcells u v hu) trivial))) (g_yes rfl rfl rfl g89) ?_
              refine q_run (fun _ hk => r_loadA (dgR (rootD tagD (pss.drop (splitN pss.length)))) rfl rfl rfl (by first | rfl | (rw [dgR_len]; rfl) | (rw [refR_len]; rfl) | (rw [secR_len]; rfl) | (rw [List.length_map, tagF_len]; rfl)) ((hk.blk' hBr' trivial).all)) (g_yes rfl rfl rfl g89) ?_
              refine q_run (fun _ _ => (r_neqC (p := p = rootD tagD (pss.drop (splitN pss.length))) rfl rfl rfl rfl (by kernel_rfl) (okC_dgR _) (okC_dgR _) rfl (dgR_inj))) (g_yes rfl rfl rfl g89) ?_
              refine q_pkFt rfl g89 rfl ?_
              refine q_nil ?_; intro w94 hk94
              exact ⟨by (repeat (first | with_reducible exact offM_refl _ _ | refine offM_updc rfl ?_ | refine offM_upd rfl ?_ | refine offM_updo rfl ?_ | refine offM_updo_none ?_ | refine offM_head rfl rfl ?_)), congrArg (fun b => [Value.bool b]) (by
                have g : (leadD tagD (splitN pss.length) (pos) row m).1 = rootD tagD (pss.take (splitN pss.length)) := by simpa using g89
                simp [g]), hk94⟩
            · refine q_skip (g_no rfl rfl rfl g89) ?_
              refine q_skip (g_no rfl rfl rfl g89) ?_
              refine q_skip (g_no rfl rfl rfl g89) ?_
              refine q_skip (g_no rfl rfl rfl g89) ?_
              refine q_skip (g_no rfl rfl rfl g89) ?_
              refine q_skip (g_no rfl rfl rfl g89) ?_
              refine q_pkTc rfl g89 rfl ?_
              refine q_nil ?_; intro w96 hk96
              exact ⟨by (repeat (first | with_reducible exact offM_refl _ _ | refine offM_updc rfl ?_ | refine offM_upd rfl ?_ | refine offM_updo rfl ?_ | refine offM_updo_none ?_ | refine offM_head rfl rfl ?_)), congrArg (fun b => [Value.bool b]) (by
                have g : (leadD tagD (splitN pss.length) (pos) row m).1 ≠ rootD tagD (pss.take (splitN pss.length)) := by simpa using g89
                simp [g]), hk96⟩
          · rintro J98 vs w98 ⟨rfl, hk98⟩ -
            refine W_cond_p rfl (fun h99 => ?_) (fun h99 => ?_)
            · refine W_seq ?_
              have hkC : Keep All w56 w98 := hkB.trans hk98
              rw [clashD_l h2 (by omega), if_pos h99]
              refine W_held (fun w' => Keep All w98 w') (by kernel_rfl) (Keep.drawn w98) (fun hS => ?_)
              refine any_run 0 (fun w' hS' => (r_sliceA rfl rfl rfl)) rfl (by kernel_rfl) (by kernel_rfl) (by kernel_rfl) rfl hS ?_
              refine any_mvt 1 rfl (by kernel_rfl) (by kernel_rfl) (by kernel_rfl) rfl hS ?_
              refine any_mvt 2 rfl (by kernel_rfl) (by kernel_rfl) (by kernel_rfl) rfl hS ?_
              refine any_run 3 (fun w' hS' => (r_idxS rfl rfl rfl ti_d (by omega) (by omega))) rfl (by kernel_rfl) (by kernel_rfl) (by kernel_rfl) rfl hS ?_
              rw [Int.toNat_natCast]
              refine any_run 4 (fun w' hS' => (r_sliceA rfl rfl rfl)) rfl (by kernel_rfl) (by kernel_rfl) (by kernel_rfl) rfl hS ?_
              refine any_mvt 7 rfl (by kernel_rfl) (by kernel_rfl) (by kernel_rfl) rfl hS ?_
              refine any_one 5 (by kernel_rfl) (one_of rfl ?_)
              refine o_bsL ([.slice (some ⟨b82, 0, none⟩) 32 32, .slice (some ⟨bp, op + m.length * 32, none⟩) 32 32]) rfl rfl rfl rfl rfl rfl rfl rfl rfl ?_; intro w102 b102 e102 hB102 hk102 hs102
              refine ops_nil ⟨hS.trans hk102, fun hS => ?_⟩
              refine any_one 6 (by kernel_rfl) (one_of rfl ?_)
              refine op_call rfl rfl rfl (rf_Tagged _ _ 1 [(leadD tagD (splitN pss.length) (pos) row m).1.val, p.val] (rowsB_two hB102 ((By.dg (hk98.blk' hB83 trivial)).k hS) (By.rowp (fun j v hj => (hkC.trans hS).cell (hcells j v hj) trivial))) (tag_dd _ _ _)) ?_; rintro v104 w104 ⟨rfl, hk104⟩
              refine ops_nil ⟨hS.trans hk104, fun hS => ?_⟩
              refine any_one 8 (by kernel_rfl) (one_of rfl ?_)
              refine op_call rfl rfl rfl (rf_Root pss.length _ _ pss rfl (rowsB_keep hv (hkC.trans hS)) hl) ?_; rintro v106 w106 ⟨rfl, hk106⟩
              refine ops_nil ⟨hS.trans hk106, fun hS => ?_⟩
              refine any_run 9 (fun w' hS' => (r_eqlC (p := tagD 1 [(leadD tagD (splitN pss.length) (pos) row m).1.val, p.val] = rootD tagD pss) rfl rfl rfl rfl (by kernel_rfl) (okC_dgR _) (okC_dgR _) rfl (dgR_inj))) rfl (by kernel_rfl) (by kernel_rfl) (by kernel_rfl) rfl hS ?_
              refine any_ast 10 rfl (by kernel_rfl) (by kernel_rfl) (by kernel_rfl) rfl hS ?_
              refine any_done (by kernel_rfl) ?_
              refine W_ret ?_
              refine ret1 (.bool (decide (tagD 1 [(leadD tagD (splitN pss.length) (pos) row m).1.val, p.val] = rootD tagD pss))) rfl ?_ ?_; rfl
              exact ⟨rfl, hkC.trans hS⟩
            · refine W_skip ?_
              refine W_seq ?_
              have hkC : Keep All w56 w98 := hkB.trans hk98
              rw [clashD_l h2 (by omega), if_neg h99]
              refine W_quiet (Keep All w98) (by kernel_rfl) (by kernel_rfl) (Keep.drawn _) ?_
              refine q_mvt rfl ?_
              refine q_mvt rfl ?_
              refine q_run (fun _ _ => (r_sliceS_hi rfl rfl rfl rfl (by omega) (by omega))) rfl ?_
              refine q_mvt rfl ?_
              refine q_mvt rfl ?_
              refine q_mvt rfl ?_
              refine q_mvt rfl ?_
              refine q_run (fun _ _ => (r_sliceS_hi rfl rfl rfl rfl (by omega) (by omega))) rfl ?_
              refine q_call rfl rfl rfl (fun _ hk => Calls.mono (ih (splitN pss.length) (by omega) _ _ _ _ (pss.take (splitN pss.length)) (pos) row m hla (by rw [hla]; omega) (rowsB_keep hsa (hkC.trans hk)) (fun p hp => hl p (List.mem_of_mem_take hp)) (hr.k (hkC.trans hk)) hrl (hpm.k (hkC.trans hk))) fun e w'' ⟨u, he, h1, h2⟩ => ⟨u, he, h1, hk.trans h2⟩) ?_
              refine q_ast rfl ?_
              refine q_nil ?_; intro w114 hk114
              refine W_ret ?_
              refine ret1 (.bool (clashD tagD (pss.take (splitN pss.length)) (pos) row m)) rfl ?_ ?_; rfl
              exact ⟨rfl, hkC.trans hk114⟩
        · refine W_skip ?_
          refine W_seq ?_
          refine W_region ?_
          refine o_mvt rfl ?_
          refine op_run (r_len rfl rfl rfl) rfl ?_
          refine o_mvt rfl ?_
          refine op_run ((r_sub rfl rfl).val (congrArg (Value.int .i64) (show IntKind.i64.wrap ((pss.length : Int) - ((splitN pss.length : Nat) : Int)) = ((pss.length - splitN pss.length : Nat) : Int) from (wrap_i64 (by omega) (by unfold maxLen at hcm0; omega)).trans (by omega)))) rfl ?_
          refine o_mvt rfl ?_
          refine o_mvt rfl ?_
          refine op_run ((r_sub rfl rfl).val (congrArg (Value.int .i64) (show IntKind.i64.wrap ((pos : Int) - ((splitN pss.length : Nat) : Int)) = ((pos - splitN pss.length : Nat) : Int) from (wrap_i64 (by omega) (by unfold maxLen at hcm0; omega)).trans (by omega)))) rfl ?_
          refine o_mvt rfl ?_
          refine o_mvt rfl ?_
          refine o_mvt rfl ?_
          refine op_run (r_sliceS_hi rfl rfl rfl rfl (by omega) (by omega)) rfl ?_
          refine op_call rfl rfl rfl (rf_Lead (pss.length - splitN pss.length) w77 (pss.length - splitN pss.length) (pos - splitN pss.length) _ _ row m rfl (by omega) (by unfold maxLen at hcm0; omega) (by omega) (hr.k hS) hrl (hpm.k hS)) ?_; rintro v117 w117 ⟨rfl, hk117⟩
          refine o_mvt rfl ?_
          refine op_run (r_extract rfl rfl) rfl ?_
          refine op_run (r_extract rfl rfl) rfl ?_
          refine o_alloc rfl rfl rfl ?_; intro w118 b118 e118 hB118 hk118 hs118
          refine o_storeA (cs := dgR (leadD tagD (pss.length - splitN pss.length) (pos - splitN pss.length) row m).1) rfl rfl (by first | rfl | exact dgR_one _ | exact refR_one _ | exact secR_one _ | exact all_c8 _) (by first | rfl | (rw [dgR_len]; rfl) | (rw [refR_len]; rfl) | (rw [secR_len]; rfl) | (rw [List.length_map, tagF_len]; rfl)) hB118 (by exact Nat.le_of_eq (by simp [dgR_len])) rfl ?_; intro w119 hB119 hk119 hs119
          have hB119 : Blk w119 b118 (dgR (leadD tagD (pss.length - splitN pss.length) (pos - splitN pss.length) row m).1) 23 := by
            have h := hB119
            rwa [splice_all (by simp [dgR_len])] at h
          have hkA : Keep All w77 w119 := (hk117.trans hk118).new hk119 (by have := hk117.size; omega)
          have hBl' := hkA.blk' hB77 trivial
          have hBr' := hkA.blk' hB75' trivial
          have hkB : Keep All w56 w119 := hS.trans hkA
          refine o_ast rfl ?_
          refine ops_nil ?_
          refine W_seq ?_
          refine W_cut [121] [111, 112, 113, 114, 115, 116, 117, 118, 119, 120, 121] (fun vs w120 => vs = [.bool (decide ((leadD tagD (pss.length - splitN pss.length) (pos - splitN pss.length) row m).1 ≠ rootD tagD (pss.drop (splitN pss.length)) ∨ p ≠ rootD tagD (pss.take (splitN pss.length))))] ∧ Keep All w119 w120) ?_ ?_
          · refine W_quiet (Keep All w119) (by kernel_rfl) (by kernel_rfl) (Keep.drawn _) ?_
            refine q_run (fun _ hk => r_loadA (dgR (leadD tagD (pss.length - splitN pss.length) (pos - splitN pss.length) row m).1) rfl rfl rfl (by first | rfl | (rw [dgR_len]; rfl) | (rw [refR_len]; rfl) | (rw [secR_len]; rfl) | (rw [List.length_map, tagF_len]; rfl)) ((hk.blk' hB119 trivial).all)) rfl ?_
            refine q_run (fun _ hk => r_loadA (dgR (rootD tagD (pss.drop (splitN pss.length)))) rfl rfl rfl (by first | rfl | (rw [dgR_len]; rfl) | (rw [refR_len]; rfl) | (rw [secR_len]; rfl) | (rw [List.length_map, tagF_len]; rfl)) ((hk.blk' hBl' trivial).all)) rfl ?_
            refine q_run (fun _ _ => (r_neqC (p := (leadD tagD (pss.length - splitN pss.length) (pos - splitN pss.length) row m).1 = rootD tagD (pss.drop (splitN pss.length))) rfl rfl rfl rfl (by kernel_rfl) (okC_dgR _) (okC_dgR _) rfl (dgR_inj))) rfl ?_
            refine q_mvt rfl ?_
            refine q_split rfl rfl rfl (fun g125 => ?_) (fun g125 => ?_)
            · refine q_mvt (g_yes rfl rfl rfl g125) ?_
              refine q_mvt (g_yes rfl rfl rfl g125) ?_
              refine q_run (fun _ _ => r_idxS rfl rfl rfl ti_d (by omega) (by omega)) (g_yes rfl rfl rfl g125) ?_
              refine q_run (fun _ hk => r_loadA (dgR p) rfl rfl rfl (by first | rfl | (rw [dgR_len]; rfl) | (rw [refR_len]; rfl) | (rw [secR_len]; rfl) | (rw [List.length_map, tagF_len]; rfl)) ((by intro u v hu; rw [Int.toNat_natCast]; exact (hkB.trans hk).cell (hcells u v hu) trivial))) (g_yes rfl rfl rfl g125) ?_
              refine q_run (fun _ hk => r_loadA (dgR (rootD tagD (pss.take (splitN pss.length)))) rfl rfl rfl (by first | rfl | (rw [dgR_len]; rfl) | (rw [refR_len]; rfl) | (rw [secR_len]; rfl) | (rw [List.length_map, tagF_len]; rfl)) ((hk.blk' hBr' trivial).all)) (g_yes rfl rfl rfl g125) ?_
              refine q_run (fun _ _ => (r_neqC (p := p = rootD tagD (pss.take (splitN pss.length))) rfl rfl rfl rfl (by kernel_rfl) (okC_dgR _) (okC_dgR _) rfl (dgR_inj))) (g_yes rfl rfl rfl g125) ?_
              refine q_pkFt rfl g125 rfl ?_
              refine q_nil ?_; intro w130 hk130
              exact ⟨by (repeat (first | with_reducible exact offM_refl _ _ | refine offM_updc rfl ?_ | refine offM_upd rfl ?_ | refine offM_updo rfl ?_ | refine offM_updo_none ?_ | refine offM_head rfl rfl ?_)), congrArg (fun b => [Value.bool b]) (by
                have g : (leadD tagD (pss.length - splitN pss.length) (pos - splitN pss.length) row m).1 = rootD tagD (pss.drop (splitN pss.length)) := by simpa using g125
                simp [g]), hk130⟩
            · refine q_skip (g_no rfl rfl rfl g125) ?_
              refine q_skip (g_no rfl rfl rfl g125) ?_
              refine q_skip (g_no rfl rfl rfl g125) ?_
              refine q_skip (g_no rfl rfl rfl g125) ?_
              refine q_skip (g_no rfl rfl rfl g125) ?_
              refine q_skip (g_no rfl rfl rfl g125) ?_
              refine q_pkTc rfl g125 rfl ?_
              refine q_nil ?_; intro w132 hk132
              exact ⟨by (repeat (first | with_reducible exact offM_refl _ _ | refine offM_updc rfl ?_ | refine offM_upd rfl ?_ | refine offM_updo rfl ?_ | refine offM_updo_none ?_ | refine offM_head rfl rfl ?_)), congrArg (fun b => [Value.bool b]) (by
                have g : (leadD tagD (pss.length - splitN pss.length) (pos - splitN pss.length) row m).1 ≠ rootD tagD (pss.drop (splitN pss.length)) := by simpa using g125
                simp [g]), hk132⟩
          · rintro J134 vs w134 ⟨rfl, hk134⟩ -
            refine W_cond_p rfl (fun h135 => ?_) (fun h135 => ?_)
            · refine W_seq ?_
              have hkC : Keep All w56 w134 := hkB.trans hk134
              rw [clashD_r h2 (by omega), if_pos h135]
              refine W_held (fun w' => Keep All w134 w') (by kernel_rfl) (Keep.drawn w134) (fun hS => ?_)
              refine any_mvt 0 rfl (by kernel_rfl) (by kernel_rfl) (by kernel_rfl) rfl hS ?_
              refine any_mvt 1 rfl (by kernel_rfl) (by kernel_rfl) (by kernel_rfl) rfl hS ?_
              refine any_run 2 (fun w' hS' => (r_idxS rfl rfl rfl ti_d (by omega) (by omega))) rfl (by kernel_rfl) (by kernel_rfl) (by kernel_rfl) rfl hS ?_
              rw [Int.toNat_natCast]
              refine any_run 3 (fun w' hS' => (r_sliceA rfl rfl rfl)) rfl (by kernel_rfl) (by kernel_rfl) (by kernel_rfl) rfl hS ?_
              refine any_run 4 (fun w' hS' => (r_sliceA rfl rfl rfl)) rfl (by kernel_rfl) (by kernel_rfl) (by kernel_rfl) rfl hS ?_
              refine any_mvt 7 rfl (by kernel_rfl) (by kernel_rfl) (by kernel_rfl) rfl hS ?_
              refine any_one 5 (by kernel_rfl) (one_of rfl ?_)
              refine o_bsL ([.slice (some ⟨bp, op + m.length * 32, none⟩) 32 32, .slice (some ⟨b118, 0, none⟩) 32 32]) rfl rfl rfl rfl rfl rfl rfl rfl rfl ?_; intro w138 b138 e138 hB138 hk138 hs138
              refine ops_nil ⟨hS.trans hk138, fun hS => ?_⟩
              refine any_one 6 (by kernel_rfl) (one_of rfl ?_)
              refine op_call rfl rfl rfl (rf_Tagged _ _ 1 [p.val, (leadD tagD (pss.length - splitN pss.length) (pos - splitN pss.length) row m).1.val] (rowsB_two hB138 (By.rowp (fun j v hj => (hkC.trans hS).cell (hcells j v hj) trivial)) ((By.dg (hk134.blk' hB119 trivial)).k hS)) (tag_dd _ _ _)) ?_; rintro v140 w140 ⟨rfl, hk140⟩
              refine ops_nil ⟨hS.trans hk140, fun hS => ?_⟩
              refine any_one 8 (by kernel_rfl) (one_of rfl ?_)
              refine op_call rfl rfl rfl (rf_Root pss.length _ _ pss rfl (rowsB_keep hv (hkC.trans hS)) hl) ?_; rintro v142 w142 ⟨rfl, hk142⟩
              refine ops_nil ⟨hS.trans hk142, fun hS => ?_⟩
              refine any_run 9 (fun w' hS' => (r_eqlC (p := tagD 1 [p.val, (leadD tagD (pss.length - splitN pss.length) (pos - splitN pss.length) row m).1.val] = rootD tagD pss) rfl rfl rfl rfl (by kernel_rfl) (okC_dgR _) (okC_dgR _) rfl (dgR_inj))) rfl (by kernel_rfl) (by kernel_rfl) (by kernel_rfl) rfl hS ?_
              refine any_ast 10 rfl (by kernel_rfl) (by kernel_rfl) (by kernel_rfl) rfl hS ?_
              refine any_done (by kernel_rfl) ?_
              refine W_ret ?_
              refine ret1 (.bool (decide (tagD 1 [p.val, (leadD tagD (pss.length - splitN pss.length) (pos - splitN pss.length) row m).1.val] = rootD tagD pss))) rfl ?_ ?_; rfl
              exact ⟨rfl, hkC.trans hS⟩
            · refine W_skip ?_
              refine W_seq ?_
              have hkC : Keep All w56 w134 := hkB.trans hk134
              rw [clashD_r h2 (by omega), if_neg h135]
              refine W_quiet (Keep All w134) (by kernel_rfl) (by kernel_rfl) (Keep.drawn _) ?_
              refine q_mvt rfl ?_
              refine q_mvt rfl ?_
              refine q_run (fun _ _ => (r_sliceS_lo rfl rfl rfl rfl (by omega) (by omega))) rfl ?_
              refine q_mvt rfl ?_
              refine q_mvt rfl ?_
              refine q_run (fun _ _ => ((r_sub rfl rfl).val (congrArg (Value.int .i64) (show IntKind.i64.wrap ((pos : Int) - ((splitN pss.length : Nat) : Int)) = ((pos - splitN pss.length : Nat) : Int) from (wrap_i64 (by omega) (by unfold maxLen at hcm0; omega)).trans (by omega))))) rfl ?_
              refine q_mvt rfl ?_
              refine q_mvt rfl ?_
              refine q_mvt rfl ?_
              refine q_run (fun _ _ => (r_sliceS_hi rfl rfl rfl rfl (by omega) (by omega))) rfl ?_
              refine q_call rfl rfl rfl (fun _ hk => Calls.mono (ih (pss.length - splitN pss.length) (by omega) _ _ _ _ (pss.drop (splitN pss.length)) (pos - splitN pss.length) row m hlb (by rw [hlb]; omega) (rowsB_keep hsb (hkC.trans hk)) (fun p hp => hl p (List.mem_of_mem_drop hp)) (hr.k (hkC.trans hk)) hrl (hpm.k (hkC.trans hk))) fun e w'' ⟨u, he, h1, h2⟩ => ⟨u, he, h1, hk.trans h2⟩) ?_
              refine q_ast rfl ?_
              refine q_nil ?_; intro w150 hk150
              refine W_ret ?_
              refine ret1 (.bool (clashD tagD (pss.drop (splitN pss.length)) (pos - splitN pss.length) row m)) rfl ?_ ?_; rfl
              exact ⟨rfl, hkC.trans hk150⟩
end Go.Proofs.Ytnjepmdgbkhoaaa.B
