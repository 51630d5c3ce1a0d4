/-
  space: Twin, New.
-/
import Derived.Test.YtcmkfembphakiaaSpace3
namespace Go.Proofs.Ytcmkfembphakiaa.B
open Go
set_option linter.unusedVariables false
attribute [local irreducible] W OpsW OpsQ retP
theorem Keep.old {A : Nat → Prop} {w w1 w2 : World} (h : Keep A w w1) (h2 : Keep (fun k => ¬ (w.heap.size ≤ k)) w1 w2) : Keep A w w2 := by
  refine ⟨h2.os.trans h.os, h2.tape.trans h.tape, h2.output.trans h.output, Nat.le_trans h.size h2.size, fun k hk hA => ?_⟩
  rw [h2.blk k (Nat.lt_of_lt_of_le hk h.size) (by omega)]
  exact h.blk k hk hA
theorem all_c64 (ws : List Nat) : (ws.map c64).all one = true := by simp [one_c64]

theorem sl_Clone64 (w : World) (v : Value) (ws : List Nat) (hx : Sl w v ws.length 1 (ws.map c64)) (hl : ws.length ≤ 65536) (h0 : 0 < ws.length) :
    Ret Try.prog 20 [v].toArray w fun r w' => Own w' 51 1 r ws.length (ws.map c64) ∧ InB (fun b => w.heap.size ≤ b ∧ b < w'.heap.size) r ∧ Keep All w w' := by
  obtain ⟨a, c, rfl, hc, hcm⟩ := hx.form
  refine enter (fn := Try.f20) (n := 8) Try.func20 rfl rfl (by simp) ?_
  refine W_seq ?_
  refine W_region ?_
  refine o_asc rfl ?_
  refine ops_nil ?_
  refine W_seq ?_
  refine W_seq ?_
  refine W_region ?_
  refine o_mvt rfl ?_
  refine op_run (r_isNilS rfl rfl) rfl ?_
  refine ops_nil ?_
  refine W_cond rfl (fun h1 => ?_) (fun h1 => ?_)
  · refine W_seq ?_
    refine W_region ?_
    refine o_asc rfl ?_
    refine ops_nil ?_
    refine W_ret ?_
    obtain ⟨a', c', e, h6, h7, h8, h9, _⟩ := hx
    cases e
    cases a with
    | none => have := h9 rfl; omega
    | some y => cases h1
  · refine W_skip ?_
    refine W_seq ?_
    refine W_region ?_
    refine o_bs0 rfl rfl rfl ?_; intro w3 b3 e3 hB3 hk3 hs3
    refine o_mvt rfl ?_
    refine o_appS (v := .slice (some ⟨b3, 0, none⟩) 0 0) rfl rfl (hx.keep hk3 (fun _ _ => trivial)) rfl ti_u64 rfl rfl (Own.blk hB3 rfl (by unfold maxLen; omega)) (all_c64 _) (by unfold maxLen; omega) (by omega) rfl ?_; intro v4 w4 hown4 hk4 hb4
    refine o_ast rfl ?_
    refine ops_nil ?_
    refine W_ret ?_
    refine ret1 v4 rfl ?_ ?_; rfl
    refine ⟨by simpa using hown4, fun b hb => ⟨?_, hown4.lt b hb⟩, hk3.own hk4 ?_⟩
    · rcases hb4 b hb with h | h
      · cases h; show w.heap.size ≤ b3; omega
      · omega
    · intro b h; cases h; intro _; show w.heap.size ≤ b3; omega
theorem Own.form64 {w : World} {v : Value} {ws : List Nat} (h : Own w 51 1 v ws.length (ws.map c64)) (h0 : 0 < ws.length) :
    ∃ g c ex, v = .slice (some ⟨g, 0, none⟩) ws.length c ∧ ws.length ≤ c ∧ c ≤ maxLen ∧ Blk w g (ws.map c64 ++ ex) 51 := by
  rcases h.2 with ⟨_, h1⟩ | ⟨g, cap, cur, h1, _, hg, h2, h3, h4, h5⟩
  · omega
  · refine ⟨g, cap, cur.toList.drop (ws.length * 1), h1, h2, h3, ?_⟩
    rw [← h5]
    have : cur.toList.take (ws.length * 1) ++ cur.toList.drop (ws.length * 1) = cur.toList := List.take_append_drop _ _
    unfold Blk
    rw [this, Array.toArray_toList]
    exact hg

theorem sp_Twin (w : World) (b : Nat) (A : Nat → Prop) (sz : Nat) (f : Nat → Bool) (h : SpC w b A sz f) :
    Ret Try.prog 13 [.pointer (some ⟨b, 0, none⟩)].toArray w fun r w' => ∃ b', r = .pointer (some ⟨b', 0, none⟩) ∧ w.heap.size ≤ b' ∧ SpC w' b' (fun k => w.heap.size ≤ k) sz f ∧ Keep All w w' := by
  obtain ⟨g, c, ws, ex, hB, hwc, hcm, hG, hgb, hAb, hAg, hwl, hs1, hs2, hws, hbits, hout⟩ := h
  have h0 : 0 < ws.length := by omega
  have hsl : Sl w (.slice (some ⟨g, 0, none⟩) ws.length c) ws.length 1 (ws.map c64) := ⟨_, c, rfl, hwc, hcm, by simp, (fun e => by cases e), fun x hx i u hu => by
    injection hx with hx; subst hx
    refine ⟨rfl, hG.cell ?_⟩
    have hi := (List.getElem?_eq_some_iff.1 hu).1
    rw [Nat.zero_add, List.getElem?_append_left hi]; exact hu⟩
  refine enter (fn := Try.f13) (n := 14) Try.func13 rfl rfl (by simp) ?_
  refine W_seq ?_
  refine W_region ?_
  refine o_asc rfl ?_
  refine ops_nil ?_
  refine W_seq ?_
  refine W_held (Keep All w) (by kernel_rfl) (Keep.drawn w) (fun hS => ?_)
  refine any_mvt 0 rfl (by kernel_rfl) (by kernel_rfl) (by kernel_rfl) rfl hS ?_
  refine any_run 1 (fun w' hS' => (r_nilCheck rfl)) rfl (by kernel_rfl) (by kernel_rfl) (by kernel_rfl) rfl hS ?_
  refine any_run 2 (fun w' hS' => (r_fieldAddr rfl rfl rfl rfl rfl)) rfl (by kernel_rfl) (by kernel_rfl) (by kernel_rfl) rfl hS ?_
  refine any_run 3 (fun w' hS' => (r_load rfl rfl rfl (hS'.cell (hB.cell rfl) trivial))) rfl (by kernel_rfl) (by kernel_rfl) (by kernel_rfl) rfl hS ?_
  refine any_mvt 4 rfl (by kernel_rfl) (by kernel_rfl) (by kernel_rfl) rfl hS ?_
  refine any_run 5 (fun w' hS' => (r_nilCheck rfl)) rfl (by kernel_rfl) (by kernel_rfl) (by kernel_rfl) rfl hS ?_
  refine any_run 6 (fun w' hS' => (r_fieldAddr rfl rfl rfl rfl rfl)) rfl (by kernel_rfl) (by kernel_rfl) (by kernel_rfl) rfl hS ?_
  refine any_run 7 (fun w' hS' => (r_load rfl rfl rfl (hS'.cell (hB.cell rfl) trivial))) rfl (by kernel_rfl) (by kernel_rfl) (by kernel_rfl) rfl hS ?_
  refine any_one 8 (by kernel_rfl) (one_of rfl ?_)
  refine op_call rfl rfl rfl (sl_Clone64 _ _ ws (hsl.keep hS (fun _ _ => trivial)) (by omega) h0) ?_; rintro v4 w4 ⟨hown4, hb4, hk4⟩
  obtain ⟨g4, c4, ex4, rfl, hc4, hcm4, hG4⟩ := Own.form64 hown4 h0
  refine ops_nil ⟨hS.trans hk4, fun hS => ?_⟩
  refine any_run 9 (fun w' hS' => (r_build ([.int .i64 sz, .slice (some ⟨g4, 0, none⟩) ws.length c4]) (_) ([(0, .int .i64 sz), (1, .slice (some ⟨g4, 0, none⟩) ws.length c4)]) rfl rfl rfl rfl rfl (rfl))) rfl (by kernel_rfl) (by kernel_rfl) (by kernel_rfl) rfl hS ?_
  refine any_one 10 (by kernel_rfl) (one_of rfl ?_)
  refine o_box (cs := [.int .i64 sz, .slice (some ⟨g4, 0, none⟩) ws.length c4]) rfl rfl rfl ?_; intro w7 b7 e7 hB7 hk7 hs7
  refine ops_nil ⟨hS.trans hk7, fun hS => ?_⟩
  refine any_ast 11 rfl (by kernel_rfl) (by kernel_rfl) (by kernel_rfl) rfl hS ?_
  refine any_done (by kernel_rfl) ?_
  refine W_ret ?_
  refine ret1 (.pointer (some ⟨b7, 0, none⟩)) rfl ?_ ?_; rfl
  have hg4 : w.heap.size ≤ g4 ∧ g4 < w4.heap.size := hb4 g4 rfl
  have hs4 : w.heap.size ≤ w4.heap.size := hk4.size
  refine ⟨b7, rfl, by omega, ⟨g4, c4, ws, ex4, hB7, hc4, hcm4, hk7.blk' hG4 trivial, by omega, by omega, ?_, hwl, hs1, hs2, hws, hbits, hout⟩, hS⟩
  exact hg4.1
theorem quoW (sz : Int) (h0 : 1 ≤ sz) (h1 : sz ≤ 65536) : IntKind.i64.wrap ((sz + 63).tdiv 64) = (((sz.toNat + 63) / 64 : Nat) : Int) := by
  rw [Int.tdiv_eq_ediv_of_nonneg (by omega), wrap_i64 (by omega) (by omega)]; omega
theorem wrap_add (a b : Int) (h0 : -9223372036854775808 ≤ a + b) (h1 : a + b < 9223372036854775808) : IntKind.i64.wrap (a + b) = a + b := wrap_i64 h0 h1

theorem sp_New (w : World) (sz fs : Int) (hz1 : -9223372036854775808 ≤ sz) (hz2 : sz ≤ 9223372036854775807) :
    Ret Try.prog 7 [.int .i64 sz, .int .i64 fs].toArray w fun r w' =>
      if sz < 1 ∨ 65536 < sz ∨ fs < 0 ∨ sz < fs then r = .tuple #[.pointer none, .int .i64 2] ∧ w' = w
      else ∃ b, r = .tuple #[.pointer (some ⟨b, 0, none⟩), .int .i64 0] ∧ w.heap.size ≤ b ∧ SpC w' b (fun k => w.heap.size ≤ k) sz.toNat (fun i => decide (i < fs.toNat)) ∧ Keep All w w' := by
  refine enter (fn := Try.f7) (n := 34) Try.func7 rfl rfl (by simp) ?_
  refine W_seq ?_
  refine W_region ?_
  refine o_asc rfl ?_
  refine o_asc rfl ?_
  refine ops_nil ?_
  refine W_seq ?_
  refine W_cut [21] [7, 8, 9, 10, 11, 12, 13, 14, 15, 16, 17, 18, 19, 20, 21] (fun vs w1 => vs = [.bool (decide (sz < 1 ∨ 65536 < sz ∨ fs < 0 ∨ sz < fs))] ∧ w1 = w) ?_ ?_
  · refine W_region ?_
    refine o_mvt rfl ?_
    refine op_run (r_lss rfl rfl) rfl ?_
    refine o_mvt rfl ?_
    refine g_split rfl rfl rfl (fun g2 => ?_) (fun g2 => ?_)
    · refine o_mvt (g_yes rfl rfl rfl g2) ?_
      refine op_run (r_gtr rfl rfl) (g_yes rfl rfl rfl g2) ?_
      refine o_pkFt rfl g2 rfl ?_
      refine o_mvt rfl ?_
      refine g_split rfl rfl rfl (fun g3 => ?_) (fun g3 => ?_)
      · refine o_mvt (g_yes rfl rfl rfl g3) ?_
        refine op_run (r_lss rfl rfl) (g_yes rfl rfl rfl g3) ?_
        refine o_pkFt rfl g3 rfl ?_
        refine o_mvt rfl ?_
        refine g_split rfl rfl rfl (fun g4 => ?_) (fun g4 => ?_)
        · refine o_mvt (g_yes rfl rfl rfl g4) ?_
          refine o_mvt (g_yes rfl rfl rfl g4) ?_
          refine op_run (r_gtr rfl rfl) (g_yes rfl rfl rfl g4) ?_
          refine o_pkFt rfl g4 rfl ?_
          refine ops_nil ?_
          exact ⟨by (repeat (first | with_reducible exact offM_refl _ _ | refine offM_updc rfl ?_ | refine offM_upd rfl ?_ | refine offM_updo rfl ?_ | refine offM_updo_none ?_ | refine offM_head rfl rfl ?_)), congrArg (fun b => [Value.bool b]) (by have := of_decide_eq_false g2; have := of_decide_eq_false g3; have := of_decide_eq_false g4; rw [decide_eq_decide]; constructor <;> intro hh <;> omega), rfl⟩
        · refine op_skip (g_no rfl rfl rfl g4) ?_
          refine op_skip (g_no rfl rfl rfl g4) ?_
          refine op_skip (g_no rfl rfl rfl g4) ?_
          refine o_pkTc rfl g4 rfl ?_
          refine ops_nil ?_
          exact ⟨by (repeat (first | with_reducible exact offM_refl _ _ | refine offM_updc rfl ?_ | refine offM_upd rfl ?_ | refine offM_updo rfl ?_ | refine offM_updo_none ?_ | refine offM_head rfl rfl ?_)), congrArg (fun b => [Value.bool b]) (by have := of_decide_eq_true g4; symm; apply decide_eq_true; omega), rfl⟩
      · refine op_skip (g_no rfl rfl rfl g3) ?_
        refine op_skip (g_no rfl rfl rfl g3) ?_
        refine o_pkTc rfl g3 rfl ?_
        refine o_mvt rfl ?_
        refine op_skip (g_no rfl rfl rfl rfl) ?_
        refine op_skip (g_no rfl rfl rfl rfl) ?_
        refine op_skip (g_no rfl rfl rfl rfl) ?_
        refine o_pkTc rfl rfl rfl ?_
        refine ops_nil ?_
        exact ⟨by (repeat (first | with_reducible exact offM_refl _ _ | refine offM_updc rfl ?_ | refine offM_upd rfl ?_ | refine offM_updo rfl ?_ | refine offM_updo_none ?_ | refine offM_head rfl rfl ?_)), congrArg (fun b => [Value.bool b]) (by have := of_decide_eq_true g3; symm; apply decide_eq_true; omega), rfl⟩
    · refine op_skip (g_no rfl rfl rfl g2) ?_
      refine op_skip (g_no rfl rfl rfl g2) ?_
      refine o_pkTc rfl g2 rfl ?_
      refine o_mvt rfl ?_
      refine op_skip (g_no rfl rfl rfl rfl) ?_
      refine op_skip (g_no rfl rfl rfl rfl) ?_
      refine o_pkTc rfl rfl rfl ?_
      refine o_mvt rfl ?_
      refine op_skip (g_no rfl rfl rfl rfl) ?_
      refine op_skip (g_no rfl rfl rfl rfl) ?_
      refine op_skip (g_no rfl rfl rfl rfl) ?_
      refine o_pkTc rfl rfl rfl ?_
      refine ops_nil ?_
      exact ⟨by (repeat (first | with_reducible exact offM_refl _ _ | refine offM_updc rfl ?_ | refine offM_upd rfl ?_ | refine offM_updo rfl ?_ | refine offM_updo_none ?_ | refine offM_head rfl rfl ?_)), congrArg (fun b => [Value.bool b]) (by have := of_decide_eq_true g2; symm; apply decide_eq_true; omega), rfl⟩
  · rintro J9 vs w9 ⟨rfl, rfl⟩ -
    refine W_cond_p rfl (fun h10 => ?_) (fun h10 => ?_)
    · refine W_seq ?_
      refine W_region ?_
      refine o_asc rfl ?_
      refine o_asc rfl ?_
      refine ops_nil ?_
      refine W_ret ?_
      refine ret2 (.pointer none) (.int .i64 2) rfl rfl rfl ?_
      rw [if_pos h10]; exact ⟨rfl, rfl⟩
    · refine W_skip ?_
      refine W_seq ?_
      refine W_region ?_
      refine o_mvt rfl ?_
      refine o_mvt rfl ?_
      refine op_run ((r_add rfl rfl).val (congrArg (Value.int .i64) (show IntKind.i64.wrap (sz + 64) = sz + 64 from wrap_i64 (by omega) (by omega)))) rfl ?_
      refine op_run ((r_sub rfl rfl).val (congrArg (Value.int .i64) (show IntKind.i64.wrap (sz + 64 - 1) = sz + 63 from (wrap_i64 (by omega) (by omega)).trans (by omega)))) rfl ?_
      refine op_run ((r_quo rfl rfl (by decide)).val (congrArg (Value.int .i64) (quoW sz (by omega) (by omega)))) rfl ?_
      refine o_make1 (l := (sz.toNat + 63) / 64) (c := (sz.toNat + 63) / 64) rfl rfl rfl ti_u64 rfl (by omega) (by omega) (by omega) rfl ?_; intro w12 b12 e12 hB12 hk12 hs12
      refine op_run (r_build ([.int .i64 sz, .slice (some ⟨b12, 0, none⟩) ((sz.toNat + 63) / 64) ((sz.toNat + 63) / 64)]) (_) ([(0, .int .i64 sz), (1, .slice (some ⟨b12, 0, none⟩) ((sz.toNat + 63) / 64) ((sz.toNat + 63) / 64))]) rfl rfl rfl rfl rfl (rfl)) rfl ?_
      refine o_box (cs := [.int .i64 sz, .slice (some ⟨b12, 0, none⟩) ((sz.toNat + 63) / 64) ((sz.toNat + 63) / 64)]) rfl rfl rfl ?_; intro w14 b14 e14 hB14 hk14 hs14
      have hC : SpC w14 b14 (fun k => w9.heap.size ≤ k) sz.toNat (fun _ => false) := by
        refine ⟨b12, (sz.toNat + 63) / 64, List.replicate ((sz.toNat + 63) / 64) 0, [], ?_, by rw [List.length_replicate]; exact Nat.le_refl _, by unfold maxLen; omega, ?_, by omega, by show w9.heap.size ≤ b14; omega, by show w9.heap.size ≤ b12; omega, by rw [List.length_replicate], by omega, by omega, ?_, ?_, fun _ _ => rfl⟩
        · rw [List.length_replicate, Int.toNat_of_nonneg (by omega)]; exact hB14
        · rw [List.append_nil, List.map_replicate]; exact hk14.blk' hB12 trivial
        · intro x hx; rw [List.eq_of_mem_replicate hx]; decide
        · intro k x hx j _
          have hx := List.mem_of_getElem? hx
          rw [List.eq_of_mem_replicate hx]; simp
      refine o_ast rfl ?_
      refine ops_nil ?_
      refine W_seq ?_
      refine W_region ?_
      refine o_mvt rfl ?_
      refine o_mvt rfl ?_
      refine op_call rfl rfl rfl (sp_Mark w14 b14 _ sz.toNat _ 0 fs hC) ?_; rintro v15 w15 h15
      rw [if_neg (by omega)] at h15
      obtain ⟨rfl, h15, hk15⟩ := h15
      refine ops_nil ?_
      refine W_seq ?_
      refine W_region ?_
      refine o_mvt rfl ?_
      refine o_ast rfl ?_
      refine o_asc rfl ?_
      refine ops_nil ?_
      refine W_ret ?_
      refine ret2 (.pointer (some ⟨b14, 0, none⟩)) (.int .i64 0) rfl rfl rfl ?_
      rw [if_neg h10]
      refine ⟨b14, rfl, by omega, ?_, ?_⟩
      · have e : turnF (fun _ => false) (0 : Int).toNat fs.toNat true = (fun i => decide (i < fs.toNat)) := by
          funext i
          unfold turnF
          by_cases h : i < fs.toNat
          · rw [if_pos (by show 0 ≤ i ∧ i < 0 + fs.toNat; omega)]; simp [h]
          · rw [if_neg (by show ¬ (0 ≤ i ∧ i < 0 + fs.toNat); omega)]; simp [h]
        rw [← e]; exact h15
      · exact (hk12.trans hk14).old hk15
end Go.Proofs.Ytcmkfembphakiaa.B
