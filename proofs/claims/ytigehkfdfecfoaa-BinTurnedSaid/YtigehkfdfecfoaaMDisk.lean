/-
  Texts merged (mtpl.py): Disk Disk2 Disk3 Disk4 Disk5 Disk6 One Dv.
-/
import Derived.Test.YtigehkfdfecfoaaMLib
/-! A disk: what lasts, what was written later, the fuse; its small functions. -/
namespace Go.Proofs.Ytigehkfdfecfoaa.B
open Go
set_option linter.unusedVariables false
set_option maxHeartbeats 2000000
set_option maxRecDepth 100000
attribute [local irreducible] W OpsW OpsQ retP
/-- What stands in a sector. -/
abbrev Sec := { l : List UInt8 // l.length = 64 }
def Sec.zero : Sec := ⟨List.replicate 64 0, by simp⟩
def secR (s : Sec) : List Value := s.val.map c8
theorem secR_len (s : Sec) : (secR s).length = 64 := by rw [secR, List.length_map]; exact s.2
theorem secR_one (s : Sec) : (secR s).all one = true := all_c8 s.val
def wrR (x : Nat × Sec) : List Value := .int .i64 x.1 :: secR x.2
theorem wrR_len (x : Nat × Sec) : (wrR x).length = 65 := by rw [wrR, List.length_cons, secR_len]
theorem wrR_one (x : Nat × Sec) : (wrR x).all one = true := by rw [wrR, List.all_cons, secR_one]; rfl
/-- A disk in memory: N sectors L that last, writes T that came later, the fuse f. -/
def DkC (w : World) (b : Nat) (A : Nat → Prop) (N : Nat) (L : List Sec) (T : List (Nat × Sec)) (f : Nat) : Prop :=
  ∃ (g c : Nat) (ex : List Value) (vl : Value), Blk w b [.slice (some ⟨g, 0, none⟩) N c, vl, .int .i64 f] 84 ∧ Blk w g (rows secR L ++ ex) 37 ∧ Own w 88 65 vl T.length (rows wrR T) ∧
    InB (fun k => A k ∧ k ≠ b ∧ k ≠ g) vl ∧ g ≠ b ∧ A b ∧ A g ∧ N ≤ c ∧ c ≤ maxLen ∧ L.length = N ∧ (∀ x ∈ T, x.1 < N) ∧ 1 ≤ N ∧ N ≤ 65536 ∧ f ≤ 9223372036854775807
theorem DkC.keep {w w' : World} {b : Nat} {A C : Nat → Prop} {N : Nat} {L : List Sec} {T : List (Nat × Sec)} {f : Nat} (h : DkC w b A N L T f) (hk : Keep C w w') (hA : ∀ k, A k → C k) : DkC w' b A N L T f := by
  obtain ⟨g, c, ex, vl, hB, hG, hT, hin, hgb, hAb, hAg, hrest⟩ := h
  exact ⟨g, c, ex, vl, hk.blk' hB (hA _ hAb), hk.blk' hG (hA _ hAg), hT.keep hk (fun k hk' => hA _ (hin k hk').1), hin, hgb, hAb, hAg, hrest⟩
theorem DkC.shrink {w : World} {b : Nat} {A : Nat → Prop} {N : Nat} {L : List Sec} {T : List (Nat × Sec)} {f : Nat} (h : DkC w b A N L T f) : ∃ A' : Nat → Prop, DkC w b A' N L T f ∧ ∀ k, A' k → A k ∧ k < w.heap.size := by
  obtain ⟨g, c, ex, vl, hB, hG, hT, hin, hgb, hAb, hAg, hrest⟩ := h
  refine ⟨fun k => A k ∧ k < w.heap.size, ⟨g, c, ex, vl, hB, hG, hT, fun k hk => ⟨⟨(hin k hk).1, hT.lt k hk⟩, (hin k hk).2⟩, hgb, ⟨hAb, hB.lt⟩, ⟨hAg, hG.lt⟩, hrest⟩, fun k hk => hk⟩
theorem DkC.mono {w : World} {b : Nat} {A A' : Nat → Prop} {N : Nat} {L : List Sec} {T : List (Nat × Sec)} {f : Nat} (h : DkC w b A N L T f) (hA : ∀ k, A k → A' k) : DkC w b A' N L T f := by
  obtain ⟨g, c, ex, vl, hB, hG, hT, hin, hgb, hAb, hAg, hrest⟩ := h
  exact ⟨g, c, ex, vl, hB, hG, hT, fun k hk => ⟨hA _ (hin k hk).1, (hin k hk).2⟩, hgb, hA _ hAb, hA _ hAg, hrest⟩

theorem dk_Len (w : World) (b : Nat) (A : Nat → Prop) (N : Nat) (L : List Sec) (T : List (Nat × Sec)) (f : Nat) (h : DkC w b A N L T f) :
    Ret Try.prog 62 [.pointer (some ⟨b, 0, none⟩)].toArray w fun r w' => r = .int .i64 N ∧ w' = w := by
  obtain ⟨g, c, ex, vl, hB, hG, hT, hin, hgb, hAb, hAg, hNc, hcm, hL, hTn, hN1, hN2, hf⟩ := h
  refine enter (fn := Try.f62) (n := 8) Try.func62 rfl rfl (by simp) ?_
  refine W_seq ?_
  refine W_region ?_
  refine o_asc rfl ?_
  refine ops_nil ?_
  refine W_seq ?_
  refine W_region ?_
  refine o_mvt rfl ?_
  refine op_run (r_nilCheck rfl) rfl ?_
  refine op_run (r_fieldAddr rfl rfl rfl rfl rfl) rfl ?_
  refine op_run (r_load rfl rfl rfl (hB.cell rfl)) rfl ?_
  refine op_run (r_len rfl rfl rfl) rfl ?_
  refine o_ast rfl ?_
  refine ops_nil ?_
  refine W_ret ?_
  refine ret1 (.int .i64 N) rfl ?_ ?_; rfl
  exact ⟨rfl, rfl⟩

theorem dk_there (w : World) (b : Nat) (A : Nat → Prop) (N : Nat) (L : List Sec) (T : List (Nat × Sec)) (f : Nat) (at_ : Int) (h : DkC w b A N L T f) :
    Ret Try.prog 43 [.pointer (some ⟨b, 0, none⟩), .int .i64 at_].toArray w fun r w' => r = .int .i64 (if 0 ≤ at_ ∧ at_ < N then 0 else 2) ∧ w' = w := by
  refine enter (fn := Try.f43) (n := 13) Try.func43 rfl rfl (by simp) ?_
  refine W_seq ?_
  refine W_region ?_
  refine o_asc rfl ?_
  refine ops_nil ?_
  refine W_seq ?_
  refine W_cut [12] [5, 6, 7, 8, 9, 10, 11, 12] (fun vs w1 => vs = [.bool (decide (¬ (0 ≤ at_ ∧ at_ < N)))] ∧ w1 = w) ?_ ?_
  · refine W_region ?_
    refine o_mvt rfl ?_
    refine op_run (r_lss rfl rfl) rfl ?_
    refine o_mvt rfl ?_
    refine g_split rfl rfl rfl (fun g2 => ?_) (fun g2 => ?_)
    · refine o_mvt (g_yes rfl rfl rfl g2) ?_
      refine o_mvt (g_yes rfl rfl rfl g2) ?_
      refine op_call rfl rfl (g_yes rfl rfl rfl g2) (dk_Len w b A N L T f h) ?_; rintro v3 w3 ⟨rfl, rfl⟩
      refine op_run (r_geq rfl rfl) (g_yes rfl rfl rfl g2) ?_
      refine o_pkFt rfl g2 rfl ?_
      refine ops_nil ?_
      exact ⟨by (repeat (first | with_reducible exact offM_refl _ _ | refine offM_updc rfl ?_ | refine offM_upd rfl ?_ | refine offM_updo rfl ?_ | refine offM_updo_none ?_ | refine offM_head rfl rfl ?_)), congrArg (fun b => [Value.bool b]) (by have := of_decide_eq_false g2; rw [decide_eq_decide]; omega), rfl⟩
    · refine op_skip (g_no rfl rfl rfl g2) ?_
      refine op_skip (g_no rfl rfl rfl g2) ?_
      refine op_skip (g_no rfl rfl rfl g2) ?_
      refine op_skip (g_no rfl rfl rfl g2) ?_
      refine o_pkTc rfl g2 rfl ?_
      refine ops_nil ?_
      exact ⟨by (repeat (first | with_reducible exact offM_refl _ _ | refine offM_updc rfl ?_ | refine offM_upd rfl ?_ | refine offM_updo rfl ?_ | refine offM_updo_none ?_ | refine offM_head rfl rfl ?_)), congrArg (fun b => [Value.bool b]) (by have := of_decide_eq_true g2; symm; apply decide_eq_true; omega), rfl⟩
  · rintro J6 vs w6 ⟨rfl, rfl⟩ -
    refine W_cond_p rfl (fun h7 => ?_) (fun h7 => ?_)
    · refine W_seq ?_
      refine W_region ?_
      refine o_asc rfl ?_
      refine ops_nil ?_
      refine W_ret ?_
      refine ret1 (.int .i64 2) rfl ?_ ?_; rfl
      exact ⟨by rw [if_neg h7], rfl⟩
    · refine W_skip ?_
      refine W_seq ?_
      refine W_region ?_
      refine o_asc rfl ?_
      refine ops_nil ?_
      refine W_ret ?_
      refine ret1 (.int .i64 0) rfl ?_ ?_; rfl
      exact ⟨by rw [if_pos (Decidable.not_not.1 h7)], rfl⟩

theorem dk_Dead (w : World) (b : Nat) (A : Nat → Prop) (N : Nat) (L : List Sec) (T : List (Nat × Sec)) (f : Nat) (h : DkC w b A N L T f) :
    Ret Try.prog 80 [.pointer (some ⟨b, 0, none⟩)].toArray w fun r w' => r = .bool (decide (f = 1)) ∧ w' = w := by
  obtain ⟨g, c, ex, vl, hB, hG, hT, hin, hgb, hAb, hAg, hNc, hcm, hL, hTn, hN1, hN2, hf⟩ := h
  refine enter (fn := Try.f80) (n := 8) Try.func80 rfl rfl (by simp) ?_
  refine W_seq ?_
  refine W_region ?_
  refine o_asc rfl ?_
  refine ops_nil ?_
  refine W_seq ?_
  refine W_region ?_
  refine o_mvt rfl ?_
  refine op_run (r_nilCheck rfl) rfl ?_
  refine op_run (r_fieldAddr rfl rfl rfl rfl rfl) rfl ?_
  refine op_run (r_load rfl rfl rfl (hB.cell rfl)) rfl ?_
  refine op_run (r_eql rfl rfl) rfl ?_
  refine o_ast rfl ?_
  refine ops_nil ?_
  refine W_ret ?_
  refine ret1 (.bool (decide ((f : Int) = 1))) rfl ?_ ?_; rfl
  exact ⟨congrArg Value.bool (by rw [decide_eq_decide]; omega), rfl⟩

theorem dk_burn (w : World) (b : Nat) (A : Nat → Prop) (N : Nat) (L : List Sec) (T : List (Nat × Sec)) (f : Nat) (h : DkC w b A N L T f) :
    Ret Try.prog 63 [.pointer (some ⟨b, 0, none⟩)].toArray w fun r w' => r = .bool (decide (f ≠ 1)) ∧ DkC w' b A N L T (if f = 1 then f else f - 1) ∧ Keep (· ≠ b) w w' := by
  have h' := h
  obtain ⟨g, c, ex, vl, hB, hG, hT, hin, hgb, hAb, hAg, hNc, hcm, hL, hTn, hN1, hN2, hf⟩ := h'
  refine enter (fn := Try.f63) (n := 14) Try.func63 rfl rfl (by simp) ?_
  refine W_seq ?_
  refine W_region ?_
  refine o_asc rfl ?_
  refine ops_nil ?_
  refine W_seq ?_
  refine W_seq ?_
  refine W_region ?_
  refine o_mvt rfl ?_
  refine op_call rfl rfl rfl (dk_Dead w b A N L T f h) ?_; rintro v1 w1 ⟨rfl, rfl⟩
  refine ops_nil ?_
  refine W_cond_p rfl (fun h2 => ?_) (fun h2 => ?_)
  · refine W_seq ?_
    refine W_region ?_
    refine o_asc rfl ?_
    refine ops_nil ?_
    refine W_ret ?_
    refine ret1 (.bool false) rfl ?_ ?_; rfl
    exact ⟨congrArg Value.bool (by rw [h2]; rfl), by rw [if_pos h2]; exact h, Keep.refl _⟩
  · refine W_skip ?_
    refine W_seq ?_
    refine W_region ?_
    refine o_mvt rfl ?_
    refine o_mvt rfl ?_
    refine op_run (r_nilCheck rfl) rfl ?_
    refine op_run (r_fieldAddr rfl rfl rfl rfl rfl) rfl ?_
    refine op_run (r_load rfl rfl rfl (hB.cell rfl)) rfl ?_
    refine op_run ((r_sub rfl rfl).val (congrArg (Value.int .i64) (show IntKind.i64.wrap ((f : Int) - 1) = (f : Int) - 1 from wrap_i64 (by omega) (by omega)))) rfl ?_
    refine op_run ((r_max rfl rfl).val (congrArg (Value.int .i64) (show (if (0 : Int) > (f : Int) - 1 then (0 : Int) else (f : Int) - 1) = ((f - 1 : Nat) : Int) by split <;> omega))) rfl ?_
    refine op_run (r_nilCheck rfl) rfl ?_
    refine op_run (r_fieldAddr rfl rfl rfl rfl rfl) rfl ?_
    refine o_store (v := (.int .i64 ((f - 1 : Nat) : Int))) rfl rfl rfl rfl hB (by exact Nat.le_refl _) rfl ?_; intro w5 hB5 hk5 hs5
    refine ops_nil ?_
    refine W_seq ?_
    refine W_region ?_
    refine o_asc rfl ?_
    refine ops_nil ?_
    refine W_ret ?_
    refine ret1 (.bool true) rfl ?_ ?_; rfl
    rw [if_neg h2]
    refine ⟨congrArg Value.bool (decide_eq_true h2).symm, ⟨g, c, ex, vl, hB5, hk5.blk' hG hgb, hT.keep hk5 (fun k hk => (hin k hk).2.1), hin, hgb, hAb, hAg, hNc, hcm, hL, hTn, hN1, hN2, by omega⟩, hk5⟩

end Go.Proofs.Ytigehkfdfecfoaa.B
/-! A disk: New, Write, Clone, Image. -/
namespace Go.Proofs.Ytigehkfdfecfoaa.B
open Go
set_option linter.unusedVariables false
set_option maxHeartbeats 2000000
set_option maxRecDepth 100000
attribute [local irreducible] W OpsW OpsQ retP
theorem rows_rep (n : Nat) : rows secR (List.replicate n Sec.zero) = List.replicate (n * 64) (c8 0) := by
  induction n with
  | zero => rfl
  | succ n ih =>
    rw [List.replicate_succ, rows_cons, ih, Nat.add_mul, Nat.one_mul, Nat.add_comm, ← List.replicate_append_replicate]
    congr 1
theorem ti_sec : tinfo Try.prog 37 = some (some (.agg (List.replicate 64 (c8 0)).toArray), 64, 64) := by kernel_rfl
theorem ti_wr : ∃ z, tinfo Try.prog 88 = some (some z, 65, 72) ∧ z.cells.size = 65 := ⟨.agg (.int .i64 0 :: List.replicate 64 (c8 0)).toArray, by kernel_rfl, rfl⟩

theorem secR_inj {s t : Sec} : secR s = secR t ↔ s = t := by
  refine ⟨fun h => Subtype.ext ?_, fun h => by rw [h]⟩
  have hi : Function.Injective c8 := fun a b h => by
    unfold c8 at h
    injection h with h1 h2
    exact UInt8.toNat_inj.1 (by omega)
  unfold secR at h
  exact List.map_inj_right hi |>.1 h
theorem okC_sec (s : Sec) : okC Try.prog 2 37 (secR s) := okC_bytes rfl rfl rfl s.val s.2

theorem ti_secR (s : Sec) : tinfo Try.prog 37 = some (some (.agg (List.replicate 64 (c8 0)).toArray), (secR s).length, 64) := by rw [secR_len]; exact ti_sec

theorem dk_New (w : World) (sz : Int) :
    Ret Try.prog 9 [.int .i64 sz].toArray w fun r w' => ∃ (a : Option Addr) (e : Int), r = .tuple #[.pointer a, .int .i64 e] ∧
      (((sz < 1 ∨ 65536 < sz) ∧ a = none ∧ e = 2 ∧ w' = w) ∨ (¬ (sz < 1 ∨ 65536 < sz) ∧ ∃ b, a = some ⟨b, 0, none⟩ ∧ e = 0 ∧ w.heap.size ≤ b ∧ DkC w' b (fun k => w.heap.size ≤ k) sz.toNat (List.replicate sz.toNat Sec.zero) [] 0 ∧ Keep All w w')) := by
  refine enter (fn := Try.f9) (n := 14) Try.func9 rfl rfl (by simp) ?_
  refine W_seq ?_
  refine W_region ?_
  refine o_asc rfl ?_
  refine o_asc rfl ?_
  refine ops_nil ?_
  refine W_seq ?_
  refine W_cut [9] [4, 5, 6, 7, 8, 9] (fun vs w1 => vs = [.bool (decide (sz < 1 ∨ 65536 < sz))] ∧ w1 = w) ?_ ?_
  · refine W_region ?_
    refine o_mvt rfl ?_
    refine op_run (r_lss rfl rfl) rfl ?_
    refine o_mvt rfl ?_
    refine g_split rfl rfl rfl (fun g2 => ?_) (fun g2 => ?_)
    · refine o_mvt (g_yes rfl rfl rfl g2) ?_
      refine op_run (r_gtr rfl rfl) (g_yes rfl rfl rfl g2) ?_
      refine o_pkFt rfl g2 rfl ?_
      refine ops_nil ?_
      exact ⟨by (repeat (first | with_reducible exact offM_refl _ _ | refine offM_updc rfl ?_ | refine offM_upd rfl ?_ | refine offM_updo rfl ?_ | refine offM_updo_none ?_ | refine offM_head rfl rfl ?_)), congrArg (fun b => [Value.bool b]) (by have := of_decide_eq_false g2; rw [decide_eq_decide]; constructor <;> intro hh <;> omega), rfl⟩
    · refine op_skip (g_no rfl rfl rfl g2) ?_
      refine op_skip (g_no rfl rfl rfl g2) ?_
      refine o_pkTc rfl g2 rfl ?_
      refine ops_nil ?_
      exact ⟨by (repeat (first | with_reducible exact offM_refl _ _ | refine offM_updc rfl ?_ | refine offM_upd rfl ?_ | refine offM_updo rfl ?_ | refine offM_updo_none ?_ | refine offM_head rfl rfl ?_)), congrArg (fun b => [Value.bool b]) (by have := of_decide_eq_true g2; symm; apply decide_eq_true; omega), rfl⟩
  · rintro J5 vs w5 ⟨rfl, rfl⟩ -
    refine W_cond_p rfl (fun h6 => ?_) (fun h6 => ?_)
    · refine W_seq ?_
      refine W_region ?_
      refine o_asc rfl ?_
      refine o_asc rfl ?_
      refine ops_nil ?_
      refine W_ret ?_
      refine ret2 (.pointer none) (.int .i64 2) rfl rfl rfl ?_
      exact ⟨none, 2, rfl, .inl ⟨h6, rfl, rfl, rfl⟩⟩
    · refine W_skip ?_
      refine W_seq ?_
      refine W_region ?_
      refine o_mvt rfl ?_
      obtain ⟨N, rfl⟩ := Int.eq_ofNat_of_zero_le (show 0 ≤ sz by omega)
      refine o_makeN (l := N) (c := N) (u := c8 0) rfl rfl rfl ti_sec rfl rfl (Nat.le_refl _) (by omega) (by omega) rfl ?_; intro w8 b8 e8 hB8 hk8 hs8
      refine op_run (r_build ([.slice (some ⟨b8, 0, none⟩) N N, .slice none 0 0, .int .i64 0]) (_) ([(0, .slice (some ⟨b8, 0, none⟩) N N)]) rfl rfl rfl rfl rfl (rfl)) rfl ?_
      refine o_box (cs := [.slice (some ⟨b8, 0, none⟩) N N, .slice none 0 0, .int .i64 0]) rfl rfl rfl ?_; intro w10 b10 e10 hB10 hk10 hs10
      refine o_ast rfl ?_
      refine o_asc rfl ?_
      refine ops_nil ?_
      refine W_ret ?_
      refine ret2 (.pointer (some ⟨b10, 0, none⟩)) (.int .i64 0) rfl rfl rfl ?_
      refine ⟨_, 0, rfl, .inr ⟨h6, b10, rfl, rfl, by omega, ?_, hk8.trans hk10⟩⟩
      rw [Int.toNat_natCast]
      refine ⟨b8, N, [], .slice none 0 0, hB10, ?_, own_nil _ _ _, InB.nil, by omega, by show w5.heap.size ≤ b10; omega, by show w5.heap.size ≤ b8; omega, Nat.le_refl _, by unfold maxLen; omega, List.length_replicate, (fun x hx => absurd hx (by simp)), by omega, by omega, by omega⟩
      rw [rows_rep, List.append_nil]
      exact hk10.blk' hB8 trivial

theorem dk_Write (w : World) (b : Nat) (A : Nat → Prop) (N : Nat) (L : List Sec) (T : List (Nat × Sec)) (f : Nat) (at_ : Int) (s : Sec) (h : DkC w b A N L T f) (hA : ∀ k, A k → k < w.heap.size) (hTl : T.length < 1000000) :
    Ret Try.prog 36 [.pointer (some ⟨b, 0, none⟩), .int .i64 at_, .agg (secR s).toArray].toArray w fun r w' => r = .int .i64 (if 0 ≤ at_ ∧ at_ < N then 0 else 2) ∧
      DkC w' b (fun k => A k ∨ w.heap.size ≤ k) N L (if (0 ≤ at_ ∧ at_ < N) ∧ f ≠ 1 then T ++ [(at_.toNat, s)] else T) (if (0 ≤ at_ ∧ at_ < N) ∧ f ≠ 1 then f - 1 else f) ∧ Keep (fun k => ¬ A k) w w' := by
  refine enter (fn := Try.f36) (n := 30) Try.func36 rfl rfl (by simp) ?_
  refine W_seq ?_
  refine W_region ?_
  refine o_box (cs := secR s) rfl rfl rfl ?_; intro w1 b1 e1 hB1 hk1 hs1
  have hD1 := h.keep hk1 (fun _ _ => trivial)
  refine o_asc rfl ?_
  refine ops_nil ?_
  refine W_seq ?_
  refine W_region ?_
  refine o_mvt rfl ?_
  refine o_mvt rfl ?_
  refine op_call rfl rfl rfl (dk_there w1 b A N L T f at_ hD1) ?_; rintro v2 w2 ⟨rfl, rfl⟩
  refine o_ast rfl ?_
  refine ops_nil ?_
  refine W_seq ?_
  refine W_cut [16] [11, 12, 13, 14, 15, 16] (fun vs w3 => vs = [.bool (decide ((0 ≤ at_ ∧ at_ < N) ∧ f ≠ 1))] ∧ DkC w3 b A N L T (if (0 ≤ at_ ∧ at_ < N) ∧ f ≠ 1 then f - 1 else f) ∧ Keep (fun k => ¬ A k) w2 w3) ?_ ?_
  · refine W_region ?_
    refine o_mvt rfl ?_
    refine op_run (r_eql rfl rfl) rfl ?_
    refine o_mvt rfl ?_
    refine g_split rfl rfl rfl (fun g4 => ?_) (fun g4 => ?_)
    · refine o_mvt (g_yes rfl rfl rfl g4) ?_
      have hin : 0 ≤ at_ ∧ at_ < N := by
        by_cases hc : 0 ≤ at_ ∧ at_ < N
        · exact hc
        · rw [if_neg hc] at g4; cases g4
      refine op_call rfl rfl (g_yes rfl rfl rfl g4) (dk_burn w2 b A N L T f hD1) ?_; rintro v5 w5 ⟨rfl, hD5, hk5⟩
      have hAb : A b := by obtain ⟨_, _, _, _, _, _, _, _, _, h, _⟩ := hD1; exact h
      refine o_pkTt rfl g4 rfl ?_
      refine ops_nil ?_
      refine ⟨by (repeat (first | with_reducible exact offM_refl _ _ | refine offM_updc rfl ?_ | refine offM_upd rfl ?_ | refine offM_updo rfl ?_ | refine offM_updo_none ?_ | refine offM_head rfl rfl ?_)), congrArg (fun b => [Value.bool b]) (by rw [decide_eq_decide]; exact ⟨fun h => ⟨hin, h⟩, fun h => h.2⟩), ?_, hk5.mono fun k _ hk e => hk (e ▸ hAb)⟩
      by_cases hf1 : f = 1
      · rw [if_pos hf1] at hD5; rw [if_neg (fun h => h.2 hf1)]; exact hD5
      · rw [if_neg hf1] at hD5; rw [if_pos ⟨hin, hf1⟩]; exact hD5
    · refine op_skip (g_no rfl rfl rfl g4) ?_
      refine op_skip (g_no rfl rfl rfl g4) ?_
      refine o_pkFc rfl g4 rfl ?_
      refine ops_nil ?_
      have hin : ¬ (0 ≤ at_ ∧ at_ < N) := fun hc => by rw [if_pos hc] at g4; exact absurd (of_decide_eq_false g4) (by simp)
      refine ⟨by (repeat (first | with_reducible exact offM_refl _ _ | refine offM_updc rfl ?_ | refine offM_upd rfl ?_ | refine offM_updo rfl ?_ | refine offM_updo_none ?_ | refine offM_head rfl rfl ?_)), congrArg (fun b => [Value.bool b]) (decide_eq_false (fun h => hin h.1)).symm, ?_, Keep.refl _⟩
      rw [if_neg (fun h => hin h.1)]; exact hD1
  · rintro J8 vs w8 ⟨rfl, hD8, hk8⟩ -
    refine W_cond_p rfl (fun h9 => ?_) (fun h9 => ?_)
    · obtain ⟨p, rfl⟩ := Int.eq_ofNat_of_zero_le h9.1.1
      rw [if_pos h9] at hD8
      have hb1A : ¬ A b1 := fun h => by have := hA _ h; omega
      have hB8 := hk8.blk' hB1 hb1A
      obtain ⟨g, c, ex, vl, hB, hG, hT, hin, hgb, hAb, hAg, hNc, hcm, hL, hTn, hN1, hN2, hf⟩ := hD8
      obtain ⟨z, hz, hzs⟩ := ti_wr
      refine W_gate 12 (fun w' => Blk w' b [.slice (some ⟨g, 0, none⟩) N c, vl, .int .i64 ((f - 1 : Nat) : Int)] 84 ∧ Blk w' b1 (secR s) 37) (by kernel_rfl) (⟨hB, hB8⟩) (fun hS => ?_)
      refine gt_mvt 0 rfl (by kernel_rfl) (by kernel_rfl) (by kernel_rfl) (by kernel_rfl) rfl hS ?_
      refine gt_mvt 1 rfl (by kernel_rfl) (by kernel_rfl) (by kernel_rfl) (by kernel_rfl) rfl hS ?_
      refine gt_run 2 (fun w' hS' => (r_nilCheck rfl)) rfl (by kernel_rfl) (by kernel_rfl) (by kernel_rfl) (by kernel_rfl) rfl hS ?_
      refine gt_run 3 (fun w' hS' => (r_fieldAddr rfl rfl rfl rfl rfl)) rfl (by kernel_rfl) (by kernel_rfl) (by kernel_rfl) (by kernel_rfl) rfl hS ?_
      refine gt_run 4 (fun w' hS' => (r_load rfl rfl rfl (hS'.1.cell rfl))) rfl (by kernel_rfl) (by kernel_rfl) (by kernel_rfl) (by kernel_rfl) rfl hS ?_
      refine gt_mvt 5 rfl (by kernel_rfl) (by kernel_rfl) (by kernel_rfl) (by kernel_rfl) rfl hS ?_
      refine gt_run 6 (fun w' hS' => (r_loadA (secR s) rfl rfl rfl (by rw [secR_len]; rfl) hS'.2.all)) rfl (by kernel_rfl) (by kernel_rfl) (by kernel_rfl) (by kernel_rfl) rfl hS ?_
      refine gt_run 7 (fun w' hS' => (r_build (wrR (p, s)) (_) ([(0, .int .i64 (p : Int)), (1, .agg (secR s).toArray)]) rfl rfl rfl rfl rfl (fill_two (by kernel_rfl) rfl rfl (secR_len s)))) rfl (by kernel_rfl) (by kernel_rfl) (by kernel_rfl) (by kernel_rfl) rfl hS ?_
      refine gt_one 8 (by kernel_rfl) (one_of rfl ?_)
      refine o_bsA1 (wrR (p, s)) rfl rfl (by rw [wrR_len]; exact hz) (by rw [wrR_len]; rfl) (by rw [wrR_len]; exact Nat.le_of_ble_eq_true rfl) rfl ?_; intro w14 b14 e14 hB14 hk14 hs14
      refine ops_nil ⟨⟨hk14.blk' hS.1 trivial, hk14.blk' hS.2 trivial⟩, fun hS => ?_⟩
      refine gt_one 9 (by kernel_rfl) (one_of rfl ?_)
      refine o_app (c := 1) (wrR (p, s)) rfl rfl rfl hz hzs (by decide) ((hT.keep (Keep.drawn w8) (fun _ _ => trivial)).keep hk14 (fun _ _ => trivial)) (by rw [wrR_len]) hB14.all (wrR_one _) (by unfold maxLen; omega) (by omega) rfl ?_; intro v16 w16 hown16 hk16 hb16
      obtain ⟨a16, c16, rfl, _, _⟩ := hown16.form
      have hGw := hk16.blk' (hk14.blk' ((Keep.drawn w8).blk' hG trivial) trivial) (show some g ≠ vl.ownBlock from fun e => (hin g e.symm).2.2 rfl)
      have h14 : w8.heap.size ≤ w14.heap.size := hk14.size
      have hlt8 : ∀ k, A k → k < w14.heap.size := fun k hk => by have := hA k hk; have := hk8.size; omega
      have hin16 : InB (fun k => (A k ∨ w.heap.size ≤ k) ∧ k ≠ b ∧ k ≠ g) (.slice a16 (T.length + 1) c16) := fun k hk => by
        rcases hb16 k hk with h | h
        · exact ⟨.inl (hin k h).1, (hin k h).2⟩
        · refine ⟨.inr ?_, fun e => ?_, fun e => ?_⟩
          · have := hk8.size; omega
          · subst e; have := hlt8 _ hAb; omega
          · subst e; have := hlt8 _ hAg; omega
      refine ops_nil ⟨⟨hk16.blk' hS.1 (show some b ≠ vl.ownBlock from fun e => (hin b e.symm).2.1 rfl), hk16.blk' hS.2 (show some b1 ≠ vl.ownBlock from fun e => hb1A (hin b1 e.symm).1)⟩, fun hS => ?_⟩
      refine gt_run 10 (fun w' hS' => (r_nilCheck rfl)) rfl (by kernel_rfl) (by kernel_rfl) (by kernel_rfl) (by kernel_rfl) rfl hS ?_
      refine gt_run 11 (fun w' hS' => (r_fieldAddr rfl rfl rfl rfl rfl)) rfl (by kernel_rfl) (by kernel_rfl) (by kernel_rfl) (by kernel_rfl) rfl hS ?_
      refine gt_past 12 (by kernel_rfl) (by kernel_rfl) (one_of rfl ?_)
      refine o_store (v := (.slice a16 (T.length + 1) c16)) rfl rfl rfl rfl hS.1 (by exact Nat.lt_of_sub_eq_succ rfl) rfl ?_; intro w18 hB18 hk18 hs18
      refine ops_nil ?_
      refine gt_done (by kernel_rfl) ?_
      refine W_seq ?_
      refine W_region ?_
      refine o_mvt rfl ?_
      refine o_ast rfl ?_
      refine ops_nil ?_
      refine W_ret ?_
      refine ret1 (.int .i64 (if 0 ≤ (p : Int) ∧ (p : Int) < N then 0 else 2)) rfl ?_ ?_; rfl
      refine ⟨rfl, ?_, ?_⟩
      · rw [if_pos h9, if_pos h9, Int.toNat_natCast]
        refine ⟨g, c, ex, _, hB18, hk18.blk' hGw hgb, ?_, hin16, hgb, .inl hAb, .inl hAg, hNc, hcm, hL, fun x hx => ?_, hN1, hN2, hf⟩
        · rw [List.length_append, rows_app]
          have : rows wrR [(p, s)] = wrR (p, s) := by rw [rows_cons, rows_nil, List.append_nil]
          rw [this]
          exact hown16.keep hk18 (fun k hk => (hin16 k hk).2.1)
        · rw [List.mem_append, List.mem_singleton] at hx
          rcases hx with hx | rfl
          · exact hTn x hx
          · show p < N; omega
      · have h1 : Keep (fun k => ¬ A k) w w14 := (((hk1.all).trans hk8).trans (Keep.drawn w8).all).trans hk14.all
        refine (h1.trans (hk16.mono fun k _ hk e => hk (hin k e.symm).1)).trans (hk18.mono fun k _ hk e => hk (e ▸ hAb))
    · refine W_skip ?_
      refine W_seq ?_
      refine W_region ?_
      refine o_mvt rfl ?_
      refine o_ast rfl ?_
      refine ops_nil ?_
      refine W_ret ?_
      refine ret1 (.int .i64 (if 0 ≤ at_ ∧ at_ < N then 0 else 2)) rfl ?_ ?_; rfl
      rw [if_neg h9] at hD8
      exact ⟨rfl, by rw [if_neg h9, if_neg h9]; exact hD8.mono fun k hk => .inl hk, hk1.all.trans hk8⟩
end Go.Proofs.Ytigehkfdfecfoaa.B
/-! A disk: Clone, Image; land, Sync, Crash. -/
namespace Go.Proofs.Ytigehkfdfecfoaa.B
open Go
set_option linter.unusedVariables false
set_option maxHeartbeats 2000000
set_option maxRecDepth 100000
attribute [local irreducible] W OpsW OpsQ retP
theorem sl_CloneS (w : World) (v : Value) (L : List Sec) (hx : Sl w v L.length 64 (rows secR L)) (hl : L.length ≤ 65536) (h0 : 0 < L.length) :
    Ret Try.prog 38 [v].toArray w fun r w' => Own w' 37 64 r L.length (rows secR L) ∧ InB (fun b => w.heap.size ≤ b ∧ b < w'.heap.size) r ∧ Keep All w w' := by
  obtain ⟨a, c, rfl, hc, hcm⟩ := hx.form
  refine enter (fn := Try.f38) (n := 8) Try.func38 rfl rfl (by simp) ?_
  refine W_seq ?_
  refine W_region ?_
  refine o_asc rfl ?_
  refine ops_nil ?_
  refine W_seq ?_
  refine W_seq ?_
  refine W_region ?_
  refine o_mvt rfl ?_
  refine op_run (r_isNilS rfl rfl) rfl ?_
  refine ops_nil ?_
  refine W_cond rfl (fun h1 => ?_) (fun h1 => ?_)
  · refine W_seq ?_
    refine W_region ?_
    refine o_asc rfl ?_
    refine ops_nil ?_
    refine W_ret ?_
    obtain ⟨a', c', e, h6, h7, h8, h9, _⟩ := hx
    cases e
    cases a with
    | none => have := h9 rfl; omega
    | some y => cases h1
  · refine W_skip ?_
    refine W_seq ?_
    refine W_region ?_
    refine o_bs0 rfl rfl rfl ?_; intro w3 b3 e3 hB3 hk3 hs3
    refine o_mvt rfl ?_
    refine o_appS (v := .slice (some ⟨b3, 0, none⟩) 0 0) rfl rfl (hx.keep hk3 (fun _ _ => trivial)) rfl ti_sec rfl rfl (Own.blk hB3 rfl (by unfold maxLen; omega)) (rows_one secR_one _) (by unfold maxLen; omega) (by omega) rfl ?_; intro v4 w4 hown4 hk4 hb4
    refine o_ast rfl ?_
    refine ops_nil ?_
    refine W_ret ?_
    refine ret1 v4 rfl ?_ ?_; rfl
    refine ⟨by simpa using hown4, fun b hb => ⟨?_, hown4.lt b hb⟩, hk3.own hk4 ?_⟩
    · rcases hb4 b hb with h | h
      · cases h; show w.heap.size ≤ b3; omega
      · omega
    · intro b h; cases h; intro _; show w.heap.size ≤ b3; omega

/-- What is seen: all that was written. -/
def seen (L : List Sec) : List (Nat × Sec) → List Sec
  | [] => L
  | x :: T => seen (L.set x.1 x.2) T
theorem seen_snoc (x : Nat × Sec) : ∀ (T : List (Nat × Sec)) (L : List Sec), seen L (T ++ [x]) = (seen L T).set x.1 x.2
  | [], L => rfl
  | y :: T, L => seen_snoc x T _
theorem seen_len : ∀ (T : List (Nat × Sec)) (L : List Sec), (seen L T).length = L.length
  | [], L => rfl
  | x :: T, L => by rw [seen, seen_len T, List.length_set]
theorem take_snoc {α : Type} {l : List α} {k : Nat} (h : k < l.length) : l.take (k + 1) = l.take k ++ [l[k]] := by rw [List.take_succ_eq_append_getElem h]
theorem lasts_sl {w : World} {g c N : Nat} {ex : List Value} {L : List Sec} (hG : Blk w g (rows secR L ++ ex) 37) (hL : L.length = N) (hc : N ≤ c) (hcm : c ≤ maxLen) : Sl w (.slice (some ⟨g, 0, none⟩) N c) N 64 (rows secR L) := by
  refine ⟨_, c, rfl, hc, hcm, by rw [rows_len secR_len, hL], (fun e => by cases e), fun x hx i u hu => ?_⟩
  injection hx with hx; subst hx
  refine ⟨rfl, hG.cell ?_⟩
  show (rows secR L ++ ex)[0 + i]? = _
  rw [Nat.zero_add, List.getElem?_append_left (List.getElem?_eq_some_iff.1 hu).1]; exact hu

theorem dk_Image (w : World) (b : Nat) (A : Nat → Prop) (N : Nat) (L : List Sec) (T : List (Nat × Sec)) (f : Nat) (h : DkC w b A N L T f) (hA : ∀ k, A k → k < w.heap.size) (hTl : T.length < 1000000) :
    Ret Try.prog 11 [.pointer (some ⟨b, 0, none⟩)].toArray w fun r w' => Own w' 37 64 r N (rows secR (seen L T)) ∧ InB (fun k => w.heap.size ≤ k ∧ k < w'.heap.size) r ∧ Keep All w w' := by
  obtain ⟨g, c, ex, vl, hB, hG, hT, hin, hgb, hAb, hAg, hNc, hcm, hL, hTn, hN1, hN2, hf⟩ := h
  have hsl := lasts_sl hG hL hNc hcm
  obtain ⟨z, hz, hzs⟩ := ti_wr
  obtain ⟨at_, ct, rfl, hct, hctm⟩ := hT.form
  refine enter (fn := Try.f11) (n := 28) Try.func11 rfl rfl (by simp) ?_
  refine W_seq ?_
  refine W_region ?_
  refine o_asc rfl ?_
  refine ops_nil ?_
  refine W_seq ?_
  refine W_region ?_
  refine o_mvt rfl ?_
  refine op_run (r_nilCheck rfl) rfl ?_
  refine op_run (r_fieldAddr rfl rfl rfl rfl rfl) rfl ?_
  refine op_run (r_load rfl rfl rfl (hB.cell rfl)) rfl ?_
  refine op_call rfl rfl rfl (sl_CloneS w _ L (by rw [hL]; exact hsl) (by omega) (by omega)) ?_; rintro v2 w2 ⟨hown2, hin2, hk2⟩
  rw [hL] at hown2
  refine o_ast rfl ?_
  refine ops_nil ?_
  refine W_seq ?_
  refine W_seq ?_
  refine W_region ?_
  refine o_mvt rfl ?_
  refine op_run (r_nilCheck rfl) rfl ?_
  refine op_run (r_fieldAddr rfl rfl rfl rfl rfl) rfl ?_
  refine op_run (r_load rfl rfl rfl ((hk2.blk' hB trivial).cell rfl)) rfl ?_
  refine op_run (r_len rfl rfl rfl) rfl ?_
  refine o_mvc rfl ?_
  refine ops_nil ?_
  refine W_block ?_
  refine W_loop [16] [5, 16, 17, 18, 19, 20, 21, 22, 23, 24, 25, 26] (fun vs w' => ∃ k : Nat, vs = [.int .i64 k] ∧ k ≤ T.length ∧ Own w' 37 64 v2 N (rows secR (seen L (T.take k))) ∧ Keep All w w' ∧ w2.heap.size ≤ w'.heap.size) (fun vs _ => match vs with | [.int _ k] => T.length - k.toNat | _ => 0) ⟨0, rfl, by omega, by simpa [seen] using hown2, hk2, Nat.le_refl _⟩ ?_
  rintro J vs w5 ⟨k, rfl, hk, hown5, hkw5, hsz5⟩ -
  refine W_seq ?_
  refine W_region ?_
  refine op_run (r_lss rfl rfl) rfl ?_
  refine ops_nil ?_
  refine W_seq ?_
  refine W_cond_p rfl (fun h5 => ?_) (fun h5 => ?_)
  · refine W_skip ?_
    refine W_seq ?_
    refine W_block ?_
    refine W_seq ?_
    refine W_region ?_
    have hkT : k < T.length := by omega
    have hinc := inc64' k (by omega)
    have hT5 := hT.keep hkw5 (fun _ _ => trivial)
    obtain ⟨b9, off9, rfl, hc9⟩ := rows_at' wrR_len hT5.sl hkT (by omega)
    have hxN := hTn T[k] (by simp)
    refine op_run (r_idxS rfl rfl rfl hz (by omega) (by omega)) rfl ?_
    refine op_run (r_loadA (wrR T[k]) rfl rfl rfl (by rw [wrR_len]; exact hz) (by rw [Int.toNat_natCast]; exact hc9)) rfl ?_
    refine o_alloc rfl rfl rfl ?_; intro w8 b8 e8 hB8 hk8 hs8
    refine o_storeA (cs := wrR T[k]) rfl rfl (wrR_one _) (by rw [wrR_len]; exact hz) hB8 (by rw [wrR_len]; exact Nat.le_refl _) rfl ?_; intro w9 hB9 hk9 hs9
    rw [splice_all (by rw [wrR_len]; rfl)] at hB9
    have hsz8 := hk8.size
    have hown9 := (hown5.keep hk8 (fun _ _ => trivial)).keep hk9 (fun j hj e => by have := hown5.lt j hj; omega)
    have hkw9 : Keep All w w9 := (hkw5.trans hk8).new hk9 (by have := hkw5.size; omega)
    obtain ⟨g1, c1, ex1, rfl, hc1, hcm1, hG1, hclose⟩ := hown9.open (by omega)
    refine ops_nil ?_
    refine W_region ?_
    refine o_mvt rfl ?_
    refine op_run (r_fieldAddr rfl rfl rfl rfl rfl) rfl ?_
    refine op_run (r_load rfl rfl rfl (hB9.cell rfl)) rfl ?_
    refine op_run (r_fieldAddr rfl rfl rfl rfl rfl) rfl ?_
    refine op_run (r_loadA (secR T[k].2) rfl rfl rfl (by rw [secR_len]; rfl) (hB9.from 1 (fun j hj => by rw [Nat.add_comm]; rfl))) rfl ?_
    refine op_run (r_idxS rfl rfl rfl ti_sec (by omega) (by omega)) rfl ?_
    refine o_storeA (cs := secR T[k].2) rfl rfl (secR_one _) (by rw [secR_len]; rfl) hG1 ?_ rfl ?_; rotate_left; intro w13 hB13 hk13 hs13
    refine ops_nil ?_
    refine W_region ?_
    refine op_run (r_add rfl rfl) rfl ?_
    refine o_mvt rfl ?_
    refine ops_nil ?_
    have hlen : (seen L (T.take k)).length = N := by rw [seen_len, hL]
    rw [Int.toNat_natCast, Nat.zero_add, splice_app (by rw [secR_len, rows_len secR_len, hlen]; omega), rows_set secR_len (by rw [hlen]; exact hxN), ← seen_snoc, ← take_snoc hkT] at hB13
    refine ⟨by (repeat (first | with_reducible exact offM_refl _ _ | refine offM_updc rfl ?_ | refine offM_upd rfl ?_ | refine offM_updo rfl ?_ | refine offM_updo_none ?_ | refine offM_head rfl rfl ?_)), ⟨k + 1, ?_, by omega, hclose _ _ hB13 (by rw [rows_len secR_len, rows_len secR_len, seen_len, seen_len]), hkw9.new hk13 ?_, by omega⟩, ?_⟩
    · rw [← hinc]; rfl
    · exact (hin2 g1 rfl).1
    · show T.length - (IntKind.i64.wrap ((k : Int) + 1)).toNat < T.length - (k : Int).toNat
      rw [hinc]; omega
    rw [secR_len, List.length_append, rows_len secR_len, seen_len, hL, Int.toNat_natCast]; omega
  · refine W_exit ?_
    refine W_seq ?_
    refine W_region ?_
    refine o_mvt rfl ?_
    refine o_ast rfl ?_
    refine ops_nil ?_
    refine W_ret ?_
    refine ret1 v2 rfl ?_ ?_; rfl
    have e : k = T.length := by omega
    subst e
    rw [List.take_length] at hown5
    exact ⟨hown5, fun j hj => ⟨(hin2 j hj).1, hown5.lt j hj⟩, hkw5⟩
end Go.Proofs.Ytigehkfdfecfoaa.B
/-! A disk: land, Sync, Crash. -/
namespace Go.Proofs.Ytigehkfdfecfoaa.B
open Go
set_option linter.unusedVariables false
set_option maxHeartbeats 2000000
set_option maxRecDepth 100000
attribute [local irreducible] W OpsW OpsQ retP
/-- The first k bytes of s, and what stood there behind them. -/
def mix (k : Nat) (s o : Sec) : Sec := ⟨s.val.take k ++ o.val.drop k, by have := s.2; have := o.2; simp; omega⟩
theorem mix_64 (s o : Sec) : mix 64 s o = s := by
  apply Subtype.ext
  have h1 := s.2; have h2 := o.2
  show s.val.take 64 ++ o.val.drop 64 = s.val
  rw [List.take_of_length_le (by omega), List.drop_eq_nil_of_le (by omega), List.append_nil]
theorem mix_0 (s o : Sec) : mix 0 s o = o := by
  apply Subtype.ext
  show s.val.take 0 ++ o.val.drop 0 = o.val
  simp
/-- What lasts when of the i-th write k i bytes landed. -/
def landL (k : Nat → Nat) (L : List Sec) (T : List (Nat × Sec)) : Nat → List Sec
  | 0 => L
  | i + 1 => match T[i]? with
    | some x => (landL k L T i).set x.1 (mix (k i) x.2 ((landL k L T i).getD x.1 Sec.zero))
    | none => landL k L T i
theorem landL_s {k : Nat → Nat} {L : List Sec} {T : List (Nat × Sec)} {i : Nat} (hi : i < T.length) : landL k L T (i + 1) = (landL k L T i).set T[i].1 (mix (k i) T[i].2 ((landL k L T i).getD T[i].1 Sec.zero)) := by
  rw [landL, List.getElem?_eq_getElem hi]
theorem landL_len (k : Nat → Nat) (L : List Sec) (T : List (Nat × Sec)) : ∀ i, (landL k L T i).length = L.length
  | 0 => rfl
  | i + 1 => by
    rw [landL]
    split
    · rw [List.length_set, landL_len k L T i]
    · exact landL_len k L T i

end Go.Proofs.Ytigehkfdfecfoaa.B
/-! A disk: Sync, Crash. -/
namespace Go.Proofs.Ytigehkfdfecfoaa.B
open Go
set_option linter.unusedVariables false
set_option maxHeartbeats 2000000
set_option maxRecDepth 100000
attribute [local irreducible] W OpsW OpsQ retP
theorem landL_64 (L : List Sec) (T : List (Nat × Sec)) : ∀ i, i ≤ T.length → landL (fun _ => 64) L T i = seen L (T.take i)
  | 0, _ => by simp [landL, seen]
  | i + 1, h => by rw [landL_s (by omega), landL_64 L T i (by omega), mix_64, take_snoc (by omega), seen_snoc]

/-- What becomes of the i-th write in a crash. -/
def fate (ps : List UInt8) (i : Nat) : Nat :=
  let p := (ps.getD (i % ps.length) 0).toNat
  if p % 3 = 0 then 0 else if p % 3 = 1 then 64 else p % 64
theorem fate_le (ps : List UInt8) (i : Nat) : fate ps i ≤ 64 := by
  unfold fate; simp only; split
  · omega
  · split <;> omega


/-- What picks are, where none were given. -/
def picks (ps : List UInt8) : List UInt8 := if ps = [] then [0] else ps
end Go.Proofs.Ytigehkfdfecfoaa.B
/-! A disk: Read, by a range over a function. -/
namespace Go.Proofs.Ytigehkfdfecfoaa.B
open Go
set_option linter.unusedVariables false
set_option maxHeartbeats 2000000
set_option maxRecDepth 100000
attribute [local irreducible] W OpsW OpsQ retP
theorem seen_none {p : Nat} : ∀ (T : List (Nat × Sec)) (L : List Sec), (∀ j (h : j < T.length), T[j].1 ≠ p) → (seen L T)[p]? = L[p]?
  | [], L, _ => rfl
  | x :: T, L, h => by
    rw [seen, seen_none T _ (fun j hj => h (j + 1) (by simp; omega)), List.getElem?_set_ne (show x.1 ≠ p from h 0 (by simp))]
theorem seen_some {p : Nat} : ∀ (T : List (Nat × Sec)) (L : List Sec) (j : Nat) (hj : j < T.length), p < L.length → T[j].1 = p → (∀ i (h : i < T.length), j < i → T[i].1 ≠ p) → (seen L T)[p]? = some T[j].2
  | [], _, j, hj, _, _, _ => absurd hj (by simp)
  | x :: T, L, 0, hj, hp, h1, h2 => by
    rw [seen, seen_none T _ (fun j hj => h2 (j + 1) (by simp; omega) (by omega))]
    have h1 : x.1 = p := h1
    rw [h1, List.getElem?_set_self hp]; rfl
  | x :: T, L, j + 1, hj, hp, h1, h2 => by
    rw [seen, seen_some T _ j (by simpa using hj) (by rw [List.length_set]; exact hp) h1 (fun i hi hji => h2 (i + 1) (by simp; omega) (by omega))]; rfl

theorem bk_make (w : World) (v : Value) (hv : one v = true) :
    Ret Try.prog 44 [v].toArray w fun r w' => ∃ b1, r = .func (.func 70) #[] #[.pointer (some ⟨b1, 0, none⟩)] ∧ b1 = w.heap.size ∧ w'.heap.size = b1 + 1 ∧ Blk w' b1 [v] 82 ∧ Keep All w w' := by
  refine enter (fn := Try.f44) (n := 4) Try.func44 rfl rfl (by simp) ?_
  refine W_seq ?_
  refine W_region ?_
  refine o_box (cs := [v]) rfl (cells_one hv) rfl ?_; intro w1 b1 e1 hB1 hk1 hs1
  refine o_asc rfl ?_
  refine ops_nil ?_
  refine W_seq ?_
  refine W_region ?_
  refine op_run (r_makeFunc) rfl ?_
  refine o_ast rfl ?_
  refine ops_nil ?_
  refine W_ret ?_
  refine ret1 (.func (.func 70) #[] #[.pointer (some ⟨b1, 0, none⟩)]) rfl ?_ ?_; rfl
  exact ⟨b1, rfl, e1, hs1, hB1, hk1⟩
/-- What Backward hands over in round k. -/
def bkE (T : List (Nat × Sec)) (k : Nat) (args : Array Value) (_ : World) : Prop := ∃ h : T.length - 1 - k < T.length, args = #[.int .i64 ((T.length - 1 - k : Nat) : Int), .agg (wrR T[T.length - 1 - k]).toArray]
def bkR (T : List (Nat × Sec)) (b1 : Nat) (v : Value) (w : World) : Prop := Blk w b1 [v] 82 ∧ Sl w v T.length 65 (rows wrR T)

theorem bk_walk (T : List (Nat × Sec)) (hTl : T.length < 1000000) (b1 : Nat) (v : Value) (l : Nat) (J : Nat → World → Prop) (Jx : World → Prop) (w : World)
    (hJR : ∀ k w, J k w → bkR T b1 v w) (hJ : ∀ k w w', J k w → Keep All w w' → J k w') (hJx : ∀ w w', Jx w → Keep All w w' → Jx w')
    (hY : ∀ k args w, J k w → k < T.length → bkE T k args w → YieldsB Try.prog l args w fun b w' => (b = true → J (k + 1) w') ∧ (b = false → Jx w')) (h0 : J 0 w) :
    Ret Try.prog 70 [.func (.yield l) #[] #[], .pointer (some ⟨b1, 0, none⟩)].toArray w fun _ w' => J T.length w' ∨ Jx w' := by
  obtain ⟨a, c, rfl, hac, hcm⟩ := (hJR _ _ h0).2.form
  obtain ⟨z, hz, hzs⟩ := ti_wr
  refine enter (fn := Try.f70) (n := 19) Try.func70 rfl rfl (by simp) ?_
  refine W_seq ?_
  refine W_region ?_
  refine op_run (r_load rfl rfl rfl ((hJR _ _ h0).1.cell rfl)) rfl ?_
  refine op_run (r_len rfl rfl rfl) rfl ?_
  refine op_run ((r_sub rfl rfl).val (congrArg (Value.int .i64) (show IntKind.i64.wrap ((T.length : Int) - 1) = (T.length : Int) - 1 from wrap_i64 (by omega) (by omega)))) rfl ?_
  refine o_ast rfl ?_
  refine ops_nil ?_
  refine W_block ?_
  refine W_loop [3] [3, 7, 8, 9, 10, 11, 12, 13, 14, 15, 16, 17, 18] (fun vs w' => ∃ k : Nat, vs = [.int .i64 ((T.length : Int) - 1 - (k : Int))] ∧ k ≤ T.length ∧ J k w') (fun vs _ => match vs with | [.int _ i] => (i + 1).toNat | _ => 0) ⟨0, congrArg (fun z : Int => [Value.int .i64 z]) (show (T.length : Int) - 1 = (T.length : Int) - 1 - ((0 : Nat) : Int) by omega), by omega, h0⟩ ?_
  rintro J0 vs w3 ⟨k, rfl, hk, hJ3⟩ -
  refine W_seq ?_
  refine W_seq ?_
  refine W_region ?_
  refine o_mvt rfl ?_
  refine op_run (r_geq rfl rfl) rfl ?_
  refine ops_nil ?_
  refine W_cond_p rfl (fun h3 => ?_) (fun h3 => ?_)
  · refine W_skip ?_
    refine W_seq ?_
    refine W_block ?_
    refine W_seq ?_
    refine W_region ?_
    refine o_mvt rfl ?_
    refine o_mvt rfl ?_
    have hkT : T.length - 1 - k < T.length := by omega
    have ek : (T.length : Int) - 1 - (k : Int) = ((T.length - 1 - k : Nat) : Int) := by omega
    obtain ⟨b9, off9, rfl, hc9⟩ := rows_at' wrR_len (hJR _ _ hJ3).2 hkT (by omega)
    refine op_run (r_load rfl rfl rfl ((hJR _ _ hJ3).1.cell rfl)) rfl ?_
    refine o_mvt rfl ?_
    refine op_run (r_idxS rfl rfl rfl hz (by omega) (by omega)) rfl ?_
    refine op_run (r_loadA (wrR T[T.length - 1 - k]) rfl rfl rfl (by rw [wrR_len]; exact hz) (by rw [ek, Int.toNat_natCast]; exact hc9)) rfl ?_
    refine op_yield rfl rfl (hY k _ w3 hJ3 (by omega) ⟨hkT, by rw [← ek]; rfl⟩) ?_; rintro b7 w7 ⟨hT7, hF7⟩
    refine op_run (r_not rfl) rfl ?_
    refine ops_nil ?_
    refine W_cond rfl (fun h8 => ?_) (fun h8 => ?_)
    · refine W_ret ?_
      refine ret0' rfl ?_
      exact .inr (hF7 (by simpa using h8))
    · refine W_skip ?_
      refine W_region ?_
      refine o_mvt rfl ?_
      refine op_run ((r_sub rfl rfl).val (congrArg (Value.int .i64) (show IntKind.i64.wrap ((T.length : Int) - 1 - (k : Int) - 1) = (T.length : Int) - 1 - ((k + 1 : Nat) : Int) from (wrap_i64 (by omega) (by omega)).trans (by omega)))) rfl ?_
      refine o_ast rfl ?_
      refine ops_nil ?_
      refine ⟨by (repeat (first | with_reducible exact offM_refl _ _ | refine offM_updc rfl ?_ | refine offM_upd rfl ?_ | refine offM_updo rfl ?_ | refine offM_updo_none ?_ | refine offM_head rfl rfl ?_)), ⟨k + 1, rfl, by omega, hT7 (by simpa using h8)⟩, ?_⟩
      show ((T.length : Int) - 1 - ((k + 1 : Nat) : Int) + 1).toNat < ((T.length : Int) - 1 - (k : Int) + 1).toNat
      omega
  · refine W_exit ?_
    refine ret0 rfl ?_
    have e : k = T.length := by omega
    subst e
    exact .inl hJ3
theorem bk_seq (T : List (Nat × Sec)) (hTl : T.length < 1000000) (b1 : Nat) (v : Value) : SeqW Try.prog 70 #[.pointer (some ⟨b1, 0, none⟩)] T.length (bkE T) (bkR T b1 v) :=
  fun l J Jx w h1 h2 h3 h4 h5 => by have h := bk_walk T hTl b1 v l J Jx w h1 h2 h3 h4 h5; simpa using h
/-- What stays while Read looks for a write. -/
structure RdI (w : World) (b g b1 b2 b3 b12 N c : Nat) (vl : Value) (ex : List Value) (L : List Sec) (T : List (Nat × Sec)) (f p : Nat) (w' : World) : Prop where
  hB : Blk w' b [.slice (some ⟨g, 0, none⟩) N c, vl, .int .i64 f] 84
  hG : Blk w' g (rows secR L ++ ex) 37
  hT : Own w' 88 65 vl T.length (rows wrR T)
  h1 : Blk w' b1 [.int .i64 p] 3
  h2 : Blk w' b2 (List.replicate 64 (c8 0)) 37
  h3 : Blk w' b3 [.int .i64 0] 25
  h12 : Blk w' b12 [vl] 82
  kw : Keep All w w'
theorem RdI.keep {w : World} {b g b1 b2 b3 b12 N c : Nat} {vl : Value} {ex : List Value} {L : List Sec} {T : List (Nat × Sec)} {f p l : Nat} {wa wb : World} (h : RdI w b g b1 b2 b3 b12 N c vl ex L T f p wa) (hk : Keep (· ≠ l) wa wb) (hb : b ≠ l ∧ g ≠ l ∧ b1 ≠ l ∧ b2 ≠ l ∧ b3 ≠ l ∧ b12 ≠ l) (hv : InB (· ≠ l) vl) (hl : w.heap.size ≤ l) : RdI w b g b1 b2 b3 b12 N c vl ex L T f p wb :=
  ⟨hk.blk' h.hB hb.1, hk.blk' h.hG hb.2.1, h.hT.keep hk hv, hk.blk' h.h1 hb.2.2.1, hk.blk' h.h2 hb.2.2.2.1, hk.blk' h.h3 hb.2.2.2.2.1, hk.blk' h.h12 hb.2.2.2.2.2, h.kw.new hk hl⟩
theorem RdI.all {w : World} {b g b1 b2 b3 b12 N c : Nat} {vl : Value} {ex : List Value} {L : List Sec} {T : List (Nat × Sec)} {f p : Nat} {wa wb : World} (h : RdI w b g b1 b2 b3 b12 N c vl ex L T f p wa) (hk : Keep All wa wb) : RdI w b g b1 b2 b3 b12 N c vl ex L T f p wb :=
  ⟨hk.blk' h.hB trivial, hk.blk' h.hG trivial, h.hT.keep hk (fun _ _ => trivial), hk.blk' h.h1 trivial, hk.blk' h.h2 trivial, hk.blk' h.h3 trivial, hk.blk' h.h12 trivial, h.kw.trans hk⟩

theorem dk_Read (w : World) (b : Nat) (A : Nat → Prop) (N : Nat) (L : List Sec) (T : List (Nat × Sec)) (f : Nat) (at_ : Int) (h : DkC w b A N L T f) (hTl : T.length < 1000000) :
    Ret Try.prog 19 [.pointer (some ⟨b, 0, none⟩), .int .i64 at_].toArray w fun r w' => ∃ (s : Sec) (e : Int), r = .tuple #[.agg (secR s).toArray, .int .i64 e] ∧
      (((0 ≤ at_ ∧ at_ < N) ∧ e = 0 ∧ (seen L T)[at_.toNat]? = some s) ∨ (¬ (0 ≤ at_ ∧ at_ < N) ∧ e = 2 ∧ s = Sec.zero)) ∧ Keep All w w' := by
  obtain ⟨z, hz, hzs⟩ := ti_wr
  refine enterM (fn := Try.f19) (n := 36) Try.func19 rfl rfl (by simp) ?_
  refine W_seq ?_
  refine W_region ?_
  refine o_box (cs := [.int .i64 at_]) rfl rfl rfl ?_; intro w1 b1 e1 hB1 hk1 hs1
  refine o_alloc ti_sec rfl rfl ?_; intro w2 b2 e2 hB2 hk2 hs2
  refine o_alloc rfl rfl rfl ?_; intro w3 b3 e3 hB3 hk3 hs3
  have hk3a : Keep All w w3 := (hk1.trans hk2).trans hk3
  have h1 := hk3.blk' (hk2.blk' hB1 trivial) trivial
  have h2 := hk3.blk' hB2 trivial
  have hD3 := h.keep hk3a (fun _ _ => trivial)
  refine ops_nil ?_
  refine W_seq ?_
  refine W_seq ?_
  refine W_region ?_
  refine o_mvt rfl ?_
  refine op_run (r_load rfl rfl rfl (h1.cell rfl)) rfl ?_
  refine op_call rfl rfl rfl (dk_there w3 b A N L T f at_ hD3) ?_; rintro v5 w5 ⟨rfl, rfl⟩
  refine o_ast rfl ?_
  refine ops_nil ?_
  refine W_seq ?_
  refine W_region ?_
  refine o_mvt rfl ?_
  refine op_run (r_neq rfl rfl) rfl ?_
  refine ops_nil ?_
  refine W_cond_p rfl (fun h6 => ?_) (fun h6 => ?_)
  · refine W_seq ?_
    refine W_region ?_
    have hout : ¬ (0 ≤ at_ ∧ at_ < N) := fun hc => h6 (by rw [if_pos hc])
    refine op_run (r_buildA (List.replicate 64 (c8 0)) (List.replicate 64 (c8 0)) ([]) rfl rfl rfl rfl rfl (rfl)) rfl ?_
    refine o_mvt rfl ?_
    refine o_storeA (cs := List.replicate 64 (c8 0)) rfl rfl (by first | rfl | exact binV_one _ | exact dgR_one _ | exact refR_one _ | exact secR_one _ | exact all_c8 _) (by first | rfl | (rw [binV_len]; rfl) | (rw [dgR_len]; rfl) | (rw [refR_len]; rfl) | (rw [secR_len]; rfl) | (rw [List.length_map, tagF_len]; rfl)) h2 (by exact Nat.le_refl _) rfl ?_; intro w8 hB8 hk8 hs8
    rw [splice_all rfl] at hB8
    refine o_store (v := .int .i64 2) rfl (by show (Value.int .i64 (if 0 ≤ at_ ∧ at_ < N then 0 else 2)) = _; rw [if_neg hout]) rfl rfl (hk8.blk' hB3 (show b3 ≠ b2 by omega)) (by exact Nat.le_refl _) rfl ?_; intro w9 hB9 hk9 hs9
    refine ops_nil ?_
    refine W_ret ?_
    refine retAC (List.replicate 64 (c8 0)) (.int .i64 2) rfl rfl rfl rfl rfl rfl rfl rfl ((hk9.blk' hB8 (show b2 ≠ b3 by omega)).all) (hB9.cell rfl) ?_
    exact ⟨Sec.zero, 2, rfl, .inr ⟨hout, rfl, rfl⟩, (hk3a.new hk8 (by omega)).new hk9 (by omega)⟩
  · refine W_skip ?_
    refine W_seq2 ?_
    refine W2_seq ?_
    refine W_region ?_
    refine o_mvt rfl ?_
    refine op_run (r_nilCheck rfl) rfl ?_
    refine op_run (r_fieldAddr rfl rfl rfl rfl rfl) rfl ?_
    have hin0 : 0 ≤ at_ ∧ at_ < N := by
      by_cases hc : 0 ≤ at_ ∧ at_ < N
      · exact hc
      · rw [if_neg hc] at h6; exact absurd h6 (by decide)
    obtain ⟨p, rfl⟩ := Int.eq_ofNat_of_zero_le hin0.1
    have hpN : p < N := by omega
    obtain ⟨g, c, ex, vl, hB, hG, hT, hin, hgb, hAb, hAg, hNc, hcm, hL, hTn, hN1, hN2, hf⟩ := hD3
    obtain ⟨a9, c9, rfl, _, _⟩ := hT.form
    refine op_run (r_load rfl rfl rfl (hB.cell rfl)) rfl ?_
    refine op_call rfl rfl rfl (bk_make w5 (.slice a9 T.length c9) rfl) ?_; rintro v12 w12 ⟨b12, rfl, hb12, hs12, hB12, hk12⟩
    have hR0 : RdI w b g b1 b2 b3 b12 N c (.slice a9 T.length c9) ex L T f p w12 := ⟨hk12.blk' hB trivial, hk12.blk' hG trivial, hT.keep hk12 (fun _ _ => trivial), hk12.blk' h1 trivial, hk12.blk' h2 trivial, hk12.blk' hB3 trivial, hB12, hk3a.trans hk12⟩
    have hlw := hk3a.size
    have hbl := hB.lt
    have hgl := hG.lt
    have hTlt := hT.lt
    refine ops_nil ?_
    refine W_range rfl rfl (bk_seq T hTl b12 (.slice a9 T.length c9)) (fun k args w' h => by obtain ⟨_, rfl⟩ := h; rfl) (fun k w' => RdI w b g b1 b2 b3 b12 N c (.slice a9 T.length c9) ex L T f p w' ∧ ∀ j (h : j < T.length), T.length - k ≤ j → T[j].1 ≠ p) (fun e w' => e = .ret ∧ ∃ j, ∃ hj : j < T.length, T[j].1 = p ∧ (∀ i (h : i < T.length), j < i → T[i].1 ≠ p) ∧ Blk w' b2 (secR T[j].2) 37 ∧ Blk w' b3 [.int .i64 0] 25 ∧ Keep All w w') ?_ ?_ ?_ ?_ ?_ ?_ ?_ ?_
    · exact fun k w' h => ⟨h.1.h12, h.1.hT.sl⟩
    · exact fun k wa wb h hk => ⟨h.1.keep hk (by omega) (fun j hj => by have := hTlt j hj; omega) (by omega), h.2⟩
    · exact fun e wa wb ⟨he, j, hj, h1, h2, h3, h4, h5⟩ hk => ⟨he, j, hj, h1, h2, hk.blk' h3 (by omega), hk.blk' h4 (by omega), h5.new hk (by omega)⟩
    · exact fun w' hk hs => ⟨hR0.all hk, fun j hj h => by omega⟩
    · rintro k18 args18 w18 hI18 hN18 hE18 hs18
      obtain ⟨hj, rfl⟩ := hE18
      obtain ⟨hR, hno⟩ := hI18
      refine W_region ?_
      refine o_alloc (zl := z.cells.toList) hz (by simp) rfl ?_; intro w19 b19 e19 hB19 hk19 hs19
      refine o_storeA (cs := wrR T[T.length - 1 - k18]) rfl rfl (wrR_one _) (by rw [wrR_len]; exact hz) hB19 (by rw [wrR_len, Array.length_toList, hzs]; exact Nat.le_refl _) rfl ?_; intro w20 hB20 hk20 hs20
      rw [splice_all (by rw [wrR_len, Array.length_toList, hzs])] at hB20
      have hkD : Keep (fun b => b = w12.heap.size ∨ b = w12.heap.size + 1) w18 w20 := hk19.all.trans (hk20.mono fun k _ hk e => by omega)
      have hR20 := (hR.all hk19).keep hk20 (by omega) (fun j hj => by have := hTlt j hj; omega) (by omega)
      refine ops_nil ?_
      refine ⟨hkD, ?_⟩; intro w21 hk21 hs21
      have hR21 := hR20.keep hk21 (by omega) (fun j hj => by have := hTlt j hj; omega) (by omega)
      have hB21 := hk21.blk' hB20 (show b19 ≠ w12.heap.size + 1 by omega)
      refine W_block ?_
      refine W_seq ?_
      refine W_region ?_
      refine op_run (r_fieldAddr rfl rfl rfl rfl rfl) rfl ?_
      refine op_run (r_load rfl rfl rfl (hB21.cell rfl)) rfl ?_
      refine op_run (r_load rfl rfl rfl (hR21.h1.cell rfl)) rfl ?_
      refine op_run (r_eql rfl rfl) rfl ?_
      refine ops_nil ?_
      refine W_cond_p rfl (fun h24 => ?_) (fun h24 => ?_)
      · refine W_seq ?_
        refine W_region ?_
        refine op_run (r_fieldAddr rfl rfl rfl rfl rfl) rfl ?_
        refine op_run (r_loadA (secR T[T.length - 1 - k18].2) rfl rfl rfl (by rw [secR_len]; rfl) (hB21.from 1 (fun j hj => by rw [Nat.add_comm]; rfl))) rfl ?_
        refine o_storeA (cs := secR T[T.length - 1 - k18].2) rfl rfl (secR_one _) (by rw [secR_len]; rfl) hR21.h2 (by rw [secR_len, List.length_replicate]; exact Nat.le_refl _) rfl ?_; intro w26 hB26 hk26 hs26
        rw [splice_all (by rw [secR_len, List.length_replicate])] at hB26
        refine o_store (v := (.int .i64 0)) rfl rfl rfl rfl (hk26.blk' hR21.h3 (show b3 ≠ b2 by omega)) (by exact Nat.le_refl _) rfl ?_; intro w27 hB27 hk27 hs27
        refine ops_nil ?_
        refine W_ret ?_
        refine ⟨(hk26.mono fun k _ hk e => by omega).trans (hk27.mono fun k _ hk e => by omega), rfl, T.length - 1 - k18, hj, by omega, fun i hi h => hno i hi (by omega), hk27.blk' hB26 (show b2 ≠ b3 by omega), hB27, (hR21.kw.new hk26 (by omega)).new hk27 (by omega)⟩
      · refine W_skip ?_
        refine ⟨Keep.refl _, hR21, fun j hj h => ?_⟩
        by_cases e : j = T.length - 1 - k18
        · subst e; omega
        · exact hno j hj (by omega)
    · rintro w30 hI30 hD30
      obtain ⟨hR30, hno30⟩ := hI30.resolve_right (fun h => by cases h.1)
      have hno30 : ∀ j (h : j < T.length), T[j].1 ≠ p := fun j hj => hno30 j hj (by omega)
      obtain ⟨s, hs⟩ : ∃ s, L[p]? = some s := ⟨L[p]'(by omega), by simp [hL, hpN]⟩
      have hslL : Sl w30 (.slice (some ⟨g, 0, none⟩) L.length c) L.length 64 (rows secR L) := lasts_sl hR30.hG rfl (by omega) hcm
      obtain ⟨bq, oq, eq, hcq⟩ := rows_at' secR_len (i := p) hslL (by omega) (by omega)
      cases eq
      have hLp : L[p]'(by omega) = s := by rw [List.getElem?_eq_getElem (by omega)] at hs; injection hs
      rw [hLp] at hcq
      refine W_seq ?_
      refine W_gate 7 (fun w' => Keep All w30 w') (by kernel_rfl) (Keep.drawn _) (fun hS => ?_)
      refine gt_mvt 0 rfl (by kernel_rfl) (by kernel_rfl) (by kernel_rfl) (by kernel_rfl) rfl hS ?_
      refine gt_run 1 (fun w' hS' => (r_nilCheck rfl)) rfl (by kernel_rfl) (by kernel_rfl) (by kernel_rfl) (by kernel_rfl) rfl hS ?_
      refine gt_run 2 (fun w' hS' => (r_fieldAddr rfl rfl rfl rfl rfl)) rfl (by kernel_rfl) (by kernel_rfl) (by kernel_rfl) (by kernel_rfl) rfl hS ?_
      refine gt_run 3 (fun w' hS' => (r_load rfl rfl rfl ((hS'.blk' hR30.hB trivial).cell rfl))) rfl (by kernel_rfl) (by kernel_rfl) (by kernel_rfl) (by kernel_rfl) rfl hS ?_
      refine gt_run 4 (fun w' hS' => (r_load rfl rfl rfl ((hS'.blk' hR30.h1 trivial).cell rfl))) rfl (by kernel_rfl) (by kernel_rfl) (by kernel_rfl) (by kernel_rfl) rfl hS ?_
      refine gt_run 5 (fun w' hS' => (r_idxS rfl rfl rfl ti_sec (by omega) (by omega))) rfl (by kernel_rfl) (by kernel_rfl) (by kernel_rfl) (by kernel_rfl) rfl hS ?_
      refine gt_run 6 (fun w' hS' => (r_loadA (secR s) rfl rfl rfl (by rw [secR_len]; rfl) (by rw [Int.toNat_natCast]; exact fun j v hv => hS'.cell (hcq j v hv) trivial))) rfl (by kernel_rfl) (by kernel_rfl) (by kernel_rfl) (by kernel_rfl) rfl hS ?_
      refine gt_past 7 (by kernel_rfl) (by kernel_rfl) (one_of rfl ?_)
      refine o_storeA (cs := secR s) rfl rfl (secR_one _) (by rw [secR_len]; rfl) (hS.blk' hR30.h2 trivial) (by rw [secR_len, List.length_replicate]; exact Nat.le_refl _) rfl ?_; intro w36 hB36 hk36 hs36
      rw [splice_all (by rw [secR_len, List.length_replicate])] at hB36
      refine ops_nil ?_
      refine gt_past 8 (by kernel_rfl) (by kernel_rfl) (one_of rfl ?_)
      refine o_store (v := (.int .i64 0)) rfl rfl rfl rfl (hk36.blk' (hS.blk' hR30.h3 trivial) (show b3 ≠ b2 by omega)) (by exact Nat.le_refl _) rfl ?_; intro w37 hB37 hk37 hs37
      refine ops_nil ?_
      refine gt_done (by kernel_rfl) ?_
      refine W_ret ?_
      refine ⟨hk37.get (hk36.get (hS.get hD30 trivial) (show w12.heap.size ≠ b2 by omega)) (show w12.heap.size ≠ b3 by omega), ?_⟩
      refine retAC (secR s) (.int .i64 0) rfl rfl rfl rfl rfl rfl rfl (by rw [secR_len]; rfl) (((Keep.putObj w37 w12.heap.size _).blk' (hk37.blk' hB36 (show b2 ≠ b3 by omega)) (show b2 ≠ w12.heap.size by omega)).all) (((Keep.putObj w37 w12.heap.size _).blk' hB37 (show b3 ≠ w12.heap.size by omega)).cell rfl) ?_
      exact ⟨s, 0, rfl, .inl ⟨hin0, rfl, by rw [Int.toNat_natCast, seen_none T L hno30]; exact hs⟩, (((hR30.kw.trans hS).new hk36 (by omega)).new hk37 (by omega)).new (Keep.putObj w37 w12.heap.size _) (by omega)⟩
    · rintro w40 hI40 hD40
      obtain ⟨_, j, hj, hjp, hjn, hb2, hb3, hkw⟩ := hI40
      refine retAC (secR T[j].2) (.int .i64 0) rfl rfl rfl rfl rfl rfl rfl (by rw [secR_len]; rfl) (((Keep.putObj w40 w12.heap.size _).blk' hb2 (show b2 ≠ w12.heap.size by omega)).all) (((Keep.putObj w40 w12.heap.size _).blk' hb3 (show b3 ≠ w12.heap.size by omega)).cell rfl) ?_
      exact ⟨T[j].2, 0, rfl, .inl ⟨hin0, rfl, by rw [Int.toNat_natCast]; exact seen_some T L j hj (by omega) hjp hjn⟩, hkw.new (Keep.putObj w40 w12.heap.size _) (by omega)⟩
    · exact fun j w1 h => by cases h.1
end Go.Proofs.Ytigehkfdfecfoaa.B
/-! One disk among other things. -/
namespace Go.Proofs.Ytigehkfdfecfoaa.B
open Go
set_option linter.unusedVariables false
set_option maxHeartbeats 2000000
set_option maxRecDepth 100000
attribute [local irreducible] W OpsW OpsQ retP
theorem landL_other {kk : Nat → Nat} {L : List Sec} {T : List (Nat × Sec)} {p : Nat} (h : ∀ j (hj : j < T.length), T[j].1 ≠ p) : ∀ i, i ≤ T.length → (landL kk L T i)[p]? = L[p]?
  | 0, _ => rfl
  | i + 1, hi => by rw [landL_s (by omega), List.getElem?_set_ne (h i (by omega)), landL_other h i (by omega)]
/-- A disk in memory, apart from the blocks K. -/
def One (w : World) (K : Nat → Prop) (b N : Nat) (L : List Sec) (T : List (Nat × Sec)) (f : Nat) (w' : World) : Prop :=
  ∃ A : Nat → Prop, DkC w' b A N L T f ∧ (∀ j, A j → w.heap.size ≤ j ∧ j < w'.heap.size ∧ ¬ K j) ∧ (∀ j, K j → j < w'.heap.size) ∧ Keep All w w'
section
variable {w : World} {K : Nat → Prop} {b N : Nat} {L : List Sec} {T : List (Nat × Sec)} {f : Nat} {w' : World}
theorem One.kw (h : One w K b N L T f w') : Keep All w w' := by obtain ⟨_, _, _, _, h⟩ := h; exact h
theorem One.keep {w2 : World} (h : One w K b N L T f w') (hk : Keep All w' w2) : One w K b N L T f w2 := by
  obtain ⟨A, h1, h3, h5, h6⟩ := h
  have hs := hk.size
  exact ⟨A, h1.keep hk (fun _ _ => trivial), fun j hj => ⟨(h3 j hj).1, by have := (h3 j hj).2.1; omega, (h3 j hj).2.2⟩, fun j hj => by have := h5 j hj; omega, h6.trans hk⟩
theorem One.mono {K' : Nat → Prop} (h : One w K b N L T f w') (hK : ∀ j, K' j → K j) : One w K' b N L T f w' := by
  obtain ⟨A, h1, h3, h5, h6⟩ := h
  exact ⟨A, h1, fun j hj => ⟨(h3 j hj).1, (h3 j hj).2.1, fun h => (h3 j hj).2.2 (hK j h)⟩, fun j hj => h5 j (hK j hj), h6⟩
theorem One.fresh {wa wb : World} {b0 : Nat} (h : One w K b N L T f w') (hk : Keep All w' wa) (hb : w'.heap.size ≤ b0) (hk2 : Keep (· ≠ b0) wa wb) (hlt : b0 < wb.heap.size) : One w (fun j => K j ∨ j = b0) b N L T f wb := by
  obtain ⟨A, h1, h3, h5, h6⟩ := h
  have hs := hk.size
  have hs2 := hk2.size
  have h6s := h6.size
  refine ⟨A, (h1.keep hk (fun _ _ => trivial)).keep hk2 (fun j hj => by have := (h3 j hj).2.1; omega), fun j hj => ?_, fun j hj => ?_, (h6.trans hk).new hk2 (by omega)⟩
  · have := h3 j hj
    exact ⟨this.1, by omega, fun h => h.elim this.2.2 (fun e => by omega)⟩
  · rcases hj with hj | hj
    · have := h5 j hj; omega
    · omega
theorem One.other {w2 : World} {b0 : Nat} (h : One w K b N L T f w') (hK : K b0) (hb : w.heap.size ≤ b0) (hk : Keep (· ≠ b0) w' w2) : One w K b N L T f w2 := by
  obtain ⟨A, h1, h3, h5, h6⟩ := h
  have hs := hk.size
  exact ⟨A, h1.keep hk (fun j hj e => (h3 j hj).2.2 (e ▸ hK)), fun j hj => ⟨(h3 j hj).1, by have := (h3 j hj).2.1; omega, (h3 j hj).2.2⟩, fun j hj => by have := h5 j hj; omega, h6.new hk hb⟩
theorem One.step {A : Nat → Prop} {A' : Nat → Prop} {L' : List Sec} {T' : List (Nat × Sec)} {f' : Nat} {w2 : World} (h3 : ∀ j, A j → w.heap.size ≤ j ∧ j < w'.heap.size ∧ ¬ K j) (h5 : ∀ j, K j → j < w'.heap.size) (h6 : Keep All w w')
    (hD : DkC w2 b A' N L' T' f') (hA' : ∀ j, A' j → A j ∨ w'.heap.size ≤ j) (hk : Keep (fun k => ¬ A k) w' w2) : One w K b N L' T' f' w2 ∧ Keep K w' w2 := by
  obtain ⟨A2, hD2, hA2⟩ := hD.shrink
  have hs := hk.size
  have h6s := h6.size
  refine ⟨⟨A2, hD2, fun j hj => ?_, fun j hj => by have := h5 j hj; omega, h6.outA hk (fun j hj => (h3 j hj).1)⟩, hk.mono fun k _ hk' hd => (h3 k hd).2.2 hk'⟩
  have hlt := (hA2 j hj).2
  rcases hA' j (hA2 j hj).1 with hd | hn
  · exact ⟨(h3 j hd).1, hlt, (h3 j hd).2.2⟩
  · exact ⟨by omega, hlt, fun hx => by have := h5 j hx; omega⟩
theorem One.write (h : One w K b N L T f w') (at_ : Int) (s : Sec) (hT : T.length < 1000000) :
    Ret Try.prog 36 [.pointer (some ⟨b, 0, none⟩), .int .i64 at_, .agg (secR s).toArray].toArray w' fun r w2 => r = .int .i64 (if 0 ≤ at_ ∧ at_ < N then 0 else 2) ∧
      One w K b N L (if (0 ≤ at_ ∧ at_ < N) ∧ f ≠ 1 then T ++ [(at_.toNat, s)] else T) (if (0 ≤ at_ ∧ at_ < N) ∧ f ≠ 1 then f - 1 else f) w2 ∧ Keep K w' w2 := by
  obtain ⟨A, h1, h3, h5, h6⟩ := h
  refine Calls.mono (dk_Write w' b A N L T f at_ s h1 (fun k hk => (h3 k hk).2.1) hT) fun e w2 ⟨u, he, hu, hD, hk⟩ => ⟨u, he, hu, ?_⟩
  exact One.step h3 h5 h6 hD (fun j hj => hj) hk
theorem One.image (h : One w K b N L T f w') (hT : T.length < 1000000) :
    Ret Try.prog 11 [.pointer (some ⟨b, 0, none⟩)].toArray w' fun r w2 => Own w2 37 64 r (seen L T).length (rows secR (seen L T)) ∧ (seen L T).length = N ∧ N ≤ 65536 ∧ Keep All w' w2 ∧
      One w (fun j => K j ∨ r.ownBlock = some j) b N L T f w2 := by
  obtain ⟨A, h1, h3, h5, h6⟩ := h
  have hL : (seen L T).length = N ∧ N ≤ 65536 := by obtain ⟨g, c, ex, vl, _, _, _, _, _, _, _, _, _, h, _, _, h9, _⟩ := h1; exact ⟨by rw [seen_len]; exact h, h9⟩
  refine Calls.mono (dk_Image w' b A N L T f h1 (fun k hk => (h3 k hk).2.1) hT) fun e w2 ⟨u, he, hO, hin, hk⟩ => ⟨u, he, by rw [hL.1]; exact hO, hL.1, hL.2, hk, ?_⟩
  have hs := hk.size
  refine ⟨A, h1.keep hk (fun _ _ => trivial), fun j hj => ?_, fun j hj => ?_, h6.trans hk⟩
  · have := h3 j hj
    exact ⟨this.1, by omega, fun h => h.elim this.2.2 (fun e => by have := (hin j e).1; omega)⟩
  · rcases hj with hj | hj
    · have := h5 j hj; omega
    · exact (hin j hj).2
end
end Go.Proofs.Ytigehkfdfecfoaa.B
/-! A disk as what is seen of it. -/
namespace Go.Proofs.Ytigehkfdfecfoaa.B
open Go
set_option linter.unusedVariables false
set_option maxHeartbeats 2000000
set_option maxRecDepth 100000
attribute [local irreducible] W OpsW OpsQ retP
/-- The disk at b shows the sectors M; it has had at most n writes; it is apart from the blocks K. -/
def DV (w : World) (K : Nat → Prop) (b N : Nat) (M : List Sec) (n : Nat) (w' : World) : Prop := ∃ L T, One w K b N L T 0 w' ∧ seen L T = M ∧ T.length ≤ n ∧ M.length = N
section
variable {w : World} {K : Nat → Prop} {b N n : Nat} {M : List Sec} {w' : World}
theorem DV.kw (h : DV w K b N M n w') : Keep All w w' := by obtain ⟨_, _, h, _⟩ := h; exact h.kw
theorem DV.len (h : DV w K b N M n w') : M.length = N := by obtain ⟨_, _, _, _, _, h⟩ := h; exact h
theorem DV.keep {w2 : World} (h : DV w K b N M n w') (hk : Keep All w' w2) : DV w K b N M n w2 := by
  obtain ⟨L, T, h1, h2⟩ := h; exact ⟨L, T, h1.keep hk, h2⟩
theorem DV.mono {K' : Nat → Prop} (h : DV w K b N M n w') (hK : ∀ j, K' j → K j) : DV w K' b N M n w' := by
  obtain ⟨L, T, h1, h2⟩ := h; exact ⟨L, T, h1.mono hK, h2⟩
theorem DV.fresh {wa wb : World} {b0 : Nat} (h : DV w K b N M n w') (hk : Keep All w' wa) (hb : w'.heap.size ≤ b0) (hk2 : Keep (· ≠ b0) wa wb) (hlt : b0 < wb.heap.size) : DV w (fun j => K j ∨ j = b0) b N M n wb := by
  obtain ⟨L, T, h1, h2⟩ := h; exact ⟨L, T, h1.fresh hk hb hk2 hlt, h2⟩
theorem DV.other {w2 : World} {b0 : Nat} (h : DV w K b N M n w') (hK : K b0) (hb : w.heap.size ≤ b0) (hk : Keep (· ≠ b0) w' w2) : DV w K b N M n w2 := by
  obtain ⟨L, T, h1, h2⟩ := h; exact ⟨L, T, h1.other hK hb hk, h2⟩
theorem DV.write (h : DV w K b N M n w') (at_ : Int) (s : Sec) (hn : n < 1000000) :
    Ret Try.prog 36 [.pointer (some ⟨b, 0, none⟩), .int .i64 at_, .agg (secR s).toArray].toArray w' fun r w2 => r = .int .i64 (if 0 ≤ at_ ∧ at_ < N then 0 else 2) ∧
      DV w K b N (if 0 ≤ at_ ∧ at_ < N then M.set at_.toNat s else M) (n + 1) w2 ∧ Keep K w' w2 := by
  obtain ⟨L, T, h1, h2, h3, h4⟩ := h
  refine (h1.write at_ s (by omega)).mono fun e w2 ⟨u, he, hu, hD, hk⟩ => ⟨u, he, hu, ?_, hk⟩
  by_cases hr : 0 ≤ at_ ∧ at_ < N
  · rw [if_pos ⟨hr, by decide⟩, if_pos ⟨hr, by decide⟩] at hD
    rw [if_pos hr]
    exact ⟨L, _, hD, by rw [seen_snoc, h2], by rw [List.length_append]; simp; omega, by rw [List.length_set]; exact h4⟩
  · rw [if_neg (fun h => hr h.1), if_neg (fun h => hr h.1)] at hD
    rw [if_neg hr]
    exact ⟨L, T, hD, h2, by omega, h4⟩
theorem DV.read (h : DV w K b N M n w') (at_ : Int) (hn : n < 1000000) :
    Ret Try.prog 19 [.pointer (some ⟨b, 0, none⟩), .int .i64 at_].toArray w' fun r w2 => ∃ (s : Sec) (e : Int), r = .tuple #[.agg (secR s).toArray, .int .i64 e] ∧
      (((0 ≤ at_ ∧ at_ < N) ∧ e = 0 ∧ M[at_.toNat]? = some s) ∨ (¬ (0 ≤ at_ ∧ at_ < N) ∧ e = 2 ∧ s = Sec.zero)) ∧ Keep All w' w2 := by
  obtain ⟨L, T, ⟨A, h1, _⟩, rfl, h3, h4⟩ := h
  exact dk_Read w' b A N L T 0 at_ h1 (by omega)
end
theorem DV.new (w : World) (sz : Int) (h1 : 1 ≤ sz) (h2 : sz ≤ 65536) :
    Ret Try.prog 9 [.int .i64 sz].toArray w fun r w' => ∃ b : Nat, r = .tuple #[.pointer (some ⟨b, 0, none⟩), .int .i64 0] ∧ DV w (fun _ => False) b sz.toNat (List.replicate sz.toNat Sec.zero) 0 w' := by
  refine (dk_New w sz).mono fun e w' ⟨u, he, a, e', hu, hc⟩ => ⟨u, he, ?_⟩
  obtain ⟨_, b, rfl, rfl, hb, hD, hk⟩ := hc.resolve_left (fun h => by omega)
  obtain ⟨A, hD2, hA⟩ := hD.shrink
  exact ⟨b, hu, _, [], ⟨A, hD2, fun j hj => ⟨(hA j hj).1, (hA j hj).2, fun h => h⟩, fun j hj => hj.elim, hk⟩, rfl, Nat.le_refl _, by simp⟩
end Go.Proofs.Ytigehkfdfecfoaa.B
