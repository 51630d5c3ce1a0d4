/-
  pack.In: what reads numbers and bytes back.
-/
import Derived.Test.YtcbbodjcgjbfaaaPackN
import Derived.Test.YtcbbodjcgjbfaaaOfRow
import Derived.Test.YtcbbodjcgjbfaaaBuild
namespace Go.Proofs.Ytcbbodjcgjbfaaa.B
open Go
set_option linter.unusedVariables false
set_option maxHeartbeats 2000000
set_option maxRecDepth 100000
attribute [local irreducible] W OpsW OpsQ retP
theorem InB.sub {A : Nat → Prop} {a : Option Addr} {n c sz l h m : Nat} (hb : InB A (.slice a n c)) : InB A (subSl a sz l h m) := by
  intro b e
  unfold subSl at e
  cases a with
  | none => split at e <;> cases e
  | some x =>
    obtain ⟨xb, xo, xs⟩ := x
    split at e
    · exact hb b e
    · refine hb b ?_
      rw [← e]
      simp only [Option.map_some, Value.ownBlock, Addr.add]
      repeat' split
      all_goals rfl
def InC (w : World) (b : Nat) (A : Nat → Prop) (bs : List UInt8) (bad : Bool) : Prop := ∃ vb, Blk w b [vb, .bool bad] 70 ∧ By w vb bs ∧ InB A vb
theorem InC.keep {w w' : World} {b : Nat} {A C : Nat → Prop} {bs : List UInt8} {bad : Bool} (h : InC w b A bs bad) (hk : Keep C w w') (hb : C b) (hA : ∀ k, A k → C k) : InC w' b A bs bad := by
  obtain ⟨vb, h1, h2, h3⟩ := h
  exact ⟨vb, hk.blk' h1 hb, h2.keep hk (h3.mono hA), h3⟩

theorem sl_Clone (w : World) (v : Value) (xs : List UInt8) (hx : By w v xs) (hl : xs.length ≤ 2 ^ 46) :
    Ret Try.prog 31 [v].toArray w fun r w' => By w' r xs ∧ InB (fun b => w.heap.size ≤ b ∧ b < w'.heap.size) r ∧ Keep All w w' := by
  obtain ⟨a, c, rfl, hc, hcm⟩ := hx.form
  have hxl := hx.len_le
  refine enter (fn := Try.f31) (n := 8) Try.func31 rfl rfl (by simp) ?_
  refine W_seq ?_
  refine W_region ?_
  refine o_asc rfl ?_
  refine ops_nil ?_
  refine W_seq ?_
  refine W_seq ?_
  refine W_region ?_
  refine o_mvt rfl ?_
  refine op_run (r_isNilS rfl rfl) rfl ?_
  refine ops_nil ?_
  refine W_cond rfl (fun h1 => ?_) (fun h1 => ?_)
  · refine W_seq ?_
    refine W_region ?_
    refine o_asc rfl ?_
    refine ops_nil ?_
    refine W_ret ?_
    have e : xs = [] := by
      obtain ⟨a', c', e, h6, h7, h8, h9, _⟩ := hx
      cases e
      cases a with
      | none => have := h9 rfl; exact List.eq_nil_of_length_eq_zero (by omega)
      | some y => cases h1
    subst e
    refine ret1 (.slice none 0 0) rfl ?_ ?_; rfl
    exact ⟨Sl.nil _ _, InB.nil, Keep.refl _⟩
  · refine W_skip ?_
    refine W_seq ?_
    refine W_region ?_
    refine o_bs0 rfl rfl rfl ?_; intro w3 b3 e3 hB3 hk3 hs3
    refine o_mvt rfl ?_
    refine o_appS (v := .slice (some ⟨b3, 0, none⟩) 0 0) rfl rfl (hx.keep hk3 (fun _ _ => trivial)) rfl ti_u8 rfl rfl (Own.blk hB3 rfl (by unfold maxLen; omega)) (all_c8 _) (by unfold maxLen; omega) (by omega) rfl ?_; intro v4 w4 hown4 hk4 hb4
    refine o_ast rfl ?_
    refine ops_nil ?_
    refine W_ret ?_
    refine ret1 v4 rfl ?_ ?_; rfl
    refine ⟨?_, fun b hb => ⟨?_, hown4.lt b hb⟩, hk3.own hk4 ?_⟩
    · have h := OwnB.app (xs := []) (e := 5) hown4
      exact h.by_
    · rcases hb4 b hb with h | h
      · cases h; show w.heap.size ≤ b3; omega
      · omega
    · intro b h; cases h; intro _; show w.heap.size ≤ b3; omega

theorem pack_From (w : World) (v : Value) (xs : List UInt8) (hx : By w v xs) (hl : xs.length ≤ 2 ^ 46) :
    Ret Try.prog 24 [v].toArray w fun r w' => ∃ b, r = .pointer (some ⟨b, 0, none⟩) ∧ w.heap.size ≤ b ∧ InC w' b (fun k => w.heap.size ≤ k ∧ k < b) xs false ∧ Keep All w w' := by
  refine enter (fn := Try.f24) (n := 7) Try.func24 rfl rfl (by simp) ?_
  refine W_seq ?_
  refine W_region ?_
  refine o_asc rfl ?_
  refine ops_nil ?_
  refine W_seq ?_
  refine W_region ?_
  refine o_mvt rfl ?_
  refine op_call rfl rfl rfl (sl_Clone w v xs hx hl) ?_; rintro v1 w1 ⟨hx1, hb1, hk1⟩
  obtain ⟨a1, c1, rfl, _⟩ := hx1.form
  refine op_run (r_build ([.slice a1 xs.length c1, .bool false]) (_) ([(0, .slice a1 xs.length c1)]) rfl rfl rfl rfl rfl (rfl)) rfl ?_
  refine o_box (cs := [.slice a1 xs.length c1, .bool false]) rfl rfl rfl ?_; intro w3 b3 e3 hB3 hk3 hs3
  refine o_ast rfl ?_
  refine ops_nil ?_
  refine W_ret ?_
  refine ret1 (.pointer (some ⟨b3, 0, none⟩)) rfl ?_ ?_; rfl
  refine ⟨b3, rfl, by have := hk1.size; omega, ⟨_, hB3, hx1.keep hk3 (fun _ _ => trivial), fun b hb => ⟨(hb1 b hb).1, by have := (hb1 b hb).2; omega⟩⟩, hk1.trans hk3⟩

theorem in_fail (w : World) (b : Nat) (vb : Value) (bad : Bool) (h : Blk w b [vb, .bool bad] 70) :
    Ret Try.prog 32 [.pointer (some ⟨b, 0, none⟩)].toArray w fun r w' => Blk w' b [.slice none 0 0, .bool true] 70 ∧ Keep (· ≠ b) w w' := by
  refine enter (fn := Try.f32) (n := 5) Try.func32 rfl rfl (by simp) ?_
  refine W_region ?_
  refine o_mvt rfl ?_
  refine op_run (r_build ([.slice none 0 0, .bool true]) (_) ([(1, .bool true)]) rfl rfl rfl rfl rfl (rfl)) rfl ?_
  refine op_run (r_nilCheck rfl) rfl ?_
  refine o_storeA (cs := [.slice none 0 0, .bool true]) rfl rfl (by first | rfl | exact dgR_one _ | exact refR_one _ | exact secR_one _ | exact all_c8 _) (by first | rfl | (rw [dgR_len]; rfl) | (rw [refR_len]; rfl) | (rw [secR_len]; rfl) | (rw [List.length_map, tagF_len]; rfl)) h (by exact Nat.le_refl 2) rfl ?_; intro w2 hB2 hk2 hs2
  refine ops_nil ?_
  refine ret0 rfl ?_
  exact ⟨hB2, hk2⟩
theorem InC.failed {w : World} {b : Nat} {A : Nat → Prop} (h : Blk w b [.slice none 0 0, .bool true] 70) : InC w b A [] true := ⟨_, h, Sl.nil _ _, InB.nil⟩


theorem in_take (w : World) (b : Nat) (A : Nat → Prop) (bs : List UInt8) (bad : Bool) (n : Nat) (hn : n < 2 ^ 63) (hAb : ¬ A b) (h : InC w b A bs bad) :
    Ret Try.prog 35 [.pointer (some ⟨b, 0, none⟩), .int .i64 n].toArray w fun r w' =>
      if bad = true ∨ bs.length < n then r = .slice none 0 0 ∧ InC w' b A [] true ∧ Keep (· ≠ b) w w' else By w' r (bs.take n) ∧ InB A r ∧ InC w' b A (bs.drop n) bad ∧ Keep (· ≠ b) w w' := by
  obtain ⟨vb, hB, hx, hA⟩ := h
  have hxl := hx.len_le
  obtain ⟨a, c, rfl, hc, hcm⟩ := hx.form
  refine enter (fn := Try.f35) (n := 38) Try.func35 rfl rfl (by simp) ?_
  refine W_seq ?_
  refine W_region ?_
  refine o_asc rfl ?_
  refine ops_nil ?_
  refine W_seq ?_
  refine W_cut [18] [6, 7, 8, 9, 10, 11, 12, 13, 14, 15, 16, 17, 18] (fun vs w1 => vs = [.bool (decide (bad = true ∨ bs.length < n))] ∧ w1 = w) ?_ ?_
  · refine W_region ?_
    refine o_mvt rfl ?_
    refine op_run (r_nilCheck rfl) rfl ?_
    refine op_run (r_fieldAddr rfl rfl rfl rfl rfl) rfl ?_
    refine op_run (r_load rfl rfl rfl (hB.cell rfl)) rfl ?_
    refine o_mvt rfl ?_
    refine g_split rfl rfl rfl (fun g3 => ?_) (fun g3 => ?_)
    · refine o_mvt (g_yes rfl rfl rfl g3) ?_
      refine o_mvt (g_yes rfl rfl rfl g3) ?_
      refine op_run (r_nilCheck rfl) (g_yes rfl rfl rfl g3) ?_
      refine op_run (r_fieldAddr rfl rfl rfl rfl rfl) (g_yes rfl rfl rfl g3) ?_
      refine op_run (r_load rfl rfl rfl (hB.cell rfl)) (g_yes rfl rfl rfl g3) ?_
      refine op_run (r_len rfl rfl rfl) (g_yes rfl rfl rfl g3) ?_
      refine op_run (r_gtr rfl rfl) (g_yes rfl rfl rfl g3) ?_
      refine o_pkFt rfl g3 rfl ?_
      refine ops_nil ?_
      exact ⟨by (repeat (first | with_reducible exact offM_refl _ _ | refine offM_updc rfl ?_ | refine offM_upd rfl ?_ | refine offM_updo rfl ?_ | refine offM_updo_none ?_ | refine offM_head rfl rfl ?_)), by subst g3; exact congrArg (fun b => [Value.bool b]) (by rw [decide_eq_decide]; simp), rfl⟩
    · refine op_skip (g_no rfl rfl rfl g3) ?_
      refine op_skip (g_no rfl rfl rfl g3) ?_
      refine op_skip (g_no rfl rfl rfl g3) ?_
      refine op_skip (g_no rfl rfl rfl g3) ?_
      refine op_skip (g_no rfl rfl rfl g3) ?_
      refine op_skip (g_no rfl rfl rfl g3) ?_
      refine op_skip (g_no rfl rfl rfl g3) ?_
      refine o_pkTc rfl g3 rfl ?_
      refine ops_nil ?_
      exact ⟨by (repeat (first | with_reducible exact offM_refl _ _ | refine offM_updc rfl ?_ | refine offM_upd rfl ?_ | refine offM_updo rfl ?_ | refine offM_updo_none ?_ | refine offM_head rfl rfl ?_)), by simp at g3; subst g3; rfl, rfl⟩
  · rintro J7 vs w7 ⟨rfl, rfl⟩ -
    refine W_cond_p rfl (fun h8 => ?_) (fun h8 => ?_)
    · refine W_seq ?_
      refine W_region ?_
      refine o_mvt rfl ?_
      refine op_call rfl rfl rfl (in_fail _ b _ _ hB) ?_; rintro v9 w9 ⟨hB9, hk9⟩
      refine ops_nil ?_
      refine W_seq ?_
      refine W_region ?_
      refine o_asc rfl ?_
      refine ops_nil ?_
      refine W_ret ?_
      refine ret1 (.slice none 0 0) rfl ?_ ?_; rfl
      rw [if_pos h8]
      exact ⟨rfl, InC.failed hB9, hk9⟩
    · refine W_skip ?_
      refine W_seq ?_
      refine W_region ?_
      refine o_mvt rfl ?_
      refine op_run (r_nilCheck rfl) rfl ?_
      refine op_run (r_fieldAddr rfl rfl rfl rfl rfl) rfl ?_
      have hnl : n ≤ bs.length := by omega
      refine op_run (r_load rfl rfl rfl (hB.cell rfl)) rfl ?_
      refine o_mvt rfl ?_
      refine o_mvt rfl ?_
      refine op_run (r_sliceS_himx rfl rfl rfl rfl rfl (by omega) (by omega) (by omega)) rfl ?_
      refine o_ast rfl ?_
      refine ops_nil ?_
      refine W_seq ?_
      refine W_region ?_
      refine o_mvt rfl ?_
      refine o_mvt rfl ?_
      refine op_run (r_nilCheck rfl) rfl ?_
      refine op_run (r_fieldAddr rfl rfl rfl rfl rfl) rfl ?_
      refine op_run (r_load rfl rfl rfl (hB.cell rfl)) rfl ?_
      refine o_mvt rfl ?_
      refine op_run (r_sliceS_lo rfl rfl rfl rfl (by omega) (by omega)) rfl ?_
      refine op_run (r_nilCheck rfl) rfl ?_
      refine op_run (r_fieldAddr rfl rfl rfl rfl rfl) rfl ?_
      refine o_store (v := subSl a 1 n bs.length c) rfl rfl rfl rfl hB (by exact Nat.zero_lt_succ _) rfl ?_; intro w15 hB15 hk15 hs15
      refine ops_nil ?_
      refine W_seq ?_
      refine W_region ?_
      refine o_mvt rfl ?_
      refine o_ast rfl ?_
      refine ops_nil ?_
      refine W_ret ?_
      refine ret1 (subSl a 1 0 n n) rfl ?_ ?_; rfl
      rw [if_neg h8]
      have h1 := hx.sub (l := 0) (h := n) (m := n) (by omega) hnl (by omega) (by omega)
      have h2 := hx.sub (l := n) (h := bs.length) (m := c) hnl (by omega) hc (by omega)
      rw [List.drop_zero] at h1
      rw [List.take_length] at h2
      have hne : InB (· ≠ b) (.slice a bs.length c) := fun k hk e => hAb (by have := hA k hk; rwa [e] at this)
      exact ⟨h1.keep hk15 (InB.sub hne), hA.sub, ⟨_, hB15, h2.keep hk15 (InB.sub hne), hA.sub⟩, hk15⟩
end Go.Proofs.Ytcbbodjcgjbfaaa.B
