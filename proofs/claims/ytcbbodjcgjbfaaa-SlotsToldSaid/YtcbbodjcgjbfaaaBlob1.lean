/-
  blob: a Ref is put, and taken.
-/
import Derived.Test.YtcbbodjcgjbfaaaRefR
import Derived.Test.YtcbbodjcgjbfaaaOfRow
import Derived.Test.YtcbbodjcgjbfaaaMono
namespace Go.Proofs.Ytcbbodjcgjbfaaa.B
open Go
set_option linter.unusedVariables false
set_option maxHeartbeats 2000000
set_option maxRecDepth 100000
attribute [local irreducible] W OpsW OpsQ retP
theorem InC.keep' {w w' : World} {b : Nat} {A C : Nat → Prop} {bs : List UInt8} {bad : Bool} (h : InC w b A bs bad) (hk : Keep C w w') (hb : C b) (hA : ∀ k, k < w.heap.size → A k → C k) : InC w' b A bs bad := by
  obtain ⟨vb, h1, ⟨a, c, rfl, h2, h3, h4, h5, h6⟩, h7⟩ := h
  exact ⟨_, hk.blk' h1 hb, ⟨a, c, rfl, h2, h3, h4, h5, fun x hx i u hu => ⟨(h6 x hx i u hu).1, hk.cell (h6 x hx i u hu).2 (hA _ (World.block_lt_of_cell? w _ (h6 x hx i u hu).2) (h7 _ (by rw [hx]; rfl)))⟩⟩, h7⟩

theorem okC_int {P : Program} {t : TypeId} {k : IntKind} {d : Nat} (h : P.underlying t = some (.int k)) (n : Int) : okC P (d + 1) t [.int k n] := by
  unfold okC; rw [h]; exact ⟨n, rfl⟩
theorem okC_ref (r : Rf) : okC Try.prog 3 26 (refR r) := by
  show okC Try.prog (2 + 1) 26 (refR r)
  unfold okC
  rw [Try.underlying26]
  simp only
  refine ⟨by kernel_rfl, by rw [refR_len]; kernel_rfl, ?_⟩
  have c0 : Try.prog.cellsOf 24 = 32 := by kernel_rfl
  have c1 : Try.prog.cellsOf 3 = 1 := by kernel_rfl
  intro f hf
  simp only [List.mem_cons, List.not_mem_nil, or_false] at hf
  rcases hf with rfl | rfl | rfl
  · refine ⟨by kernel_rfl, ?_⟩
    simp only [c0]
    rw [show ((refR r).drop 0).take 32 = dgR r.dig by unfold refR; rw [List.drop_zero]; exact List.take_left' (dgR_len _)]
    exact okC_dgR r.dig
  · refine ⟨by kernel_rfl, ?_⟩
    simp only [c1]
    rw [show ((refR r).drop 32).take 1 = [.int .i64 r.at_] by unfold refR; rw [List.drop_left' (dgR_len _)]; rfl]
    exact okC_int Try.underlying3 _
  · refine ⟨by kernel_rfl, ?_⟩
    simp only [c1]
    rw [show ((refR r).drop 33).take 1 = [.int .i64 r.len] by unfold refR; rw [show 33 = 32 + 1 from rfl, ← List.drop_drop, List.drop_left' (dgR_len _)]; rfl]
    exact okC_int Try.underlying3 _

theorem in_Wrong (w : World) (b : Nat) (A : Nat → Prop) (bs : List UInt8) (bad : Bool) (h : InC w b A bs bad) :
    Ret Try.prog 27 [.pointer (some ⟨b, 0, none⟩)].toArray w fun r w' => r = .bool bad ∧ w' = w := by
  obtain ⟨vb, hB, hx, hA⟩ := h
  refine enter (fn := Try.f27) (n := 7) Try.func27 rfl rfl (by simp) ?_
  refine W_seq ?_
  refine W_region ?_
  refine o_asc rfl ?_
  refine ops_nil ?_
  refine W_seq ?_
  refine W_region ?_
  refine o_mvt rfl ?_
  refine op_run (r_nilCheck rfl) rfl ?_
  refine op_run (r_fieldAddr rfl rfl rfl rfl rfl) rfl ?_
  refine op_run (r_load rfl rfl rfl (hB.cell rfl)) rfl ?_
  refine o_ast rfl ?_
  refine ops_nil ?_
  refine W_ret ?_
  refine ret1 (.bool bad) rfl ?_ ?_; rfl
  exact ⟨rfl, rfl⟩

theorem digR_snd (bs : List UInt8) (bad : Bool) : (digR bs bad).2 = (tkR 32 bs bad).2 := by unfold digR tkR; split <;> rfl
theorem digR_fst (bs : List UInt8) (bad : Bool) : splice (List.replicate 32 (c8 0)) 0 (((tkR 32 bs bad).1.map c8).take (min (tkR 32 bs bad).1.length 32)) = dgR (digR bs bad).1 := by
  unfold digR tkR
  split
  · rfl
  · rename_i h
    have hl : (bs.take 32).length = 32 := by rw [List.length_take]; omega
    simp only [hl, Nat.min_self]
    rw [List.take_of_length_le (by rw [List.length_map, hl]; exact Nat.le_refl _), splice_all (by rw [List.length_map, hl]; rfl)]
    rfl
theorem in_take' (w : World) (b : Nat) (A : Nat → Prop) (bs : List UInt8) (bad : Bool) (n : Nat) (hn : n < 2 ^ 63) (hAb : ¬ A b) (h : InC w b A bs bad) :
    Ret Try.prog 35 [.pointer (some ⟨b, 0, none⟩), .int .i64 n].toArray w fun r w' => By w' r (tkR n bs bad).1 ∧ InB A r ∧ InC w' b A (tkR n bs bad).2.1 (tkR n bs bad).2.2 ∧ Keep (· ≠ b) w w' := by
  refine (in_take w b A bs bad n hn hAb h).mono fun e w' ⟨u, he, hu⟩ => ⟨u, he, ?_⟩
  dsimp only at hu
  unfold tkR
  split
  · rename_i hc
    rw [if_pos hc] at hu
    obtain ⟨rfl, h1, h2⟩ := hu
    exact ⟨Sl.nil _ _, InB.nil, h1, h2⟩
  · rename_i hc
    rw [if_neg hc] at hu
    exact hu

theorem in_Digest (w : World) (b : Nat) (A : Nat → Prop) (bs : List UInt8) (bad : Bool) (hAb : ¬ A b) (hAl : ∀ k, A k → k < w.heap.size) (h : InC w b A bs bad) :
    Ret Try.prog 33 [.pointer (some ⟨b, 0, none⟩)].toArray w fun r w' => r = .agg (dgR (digR bs bad).1).toArray ∧ InC w' b A (digR bs bad).2.1 (digR bs bad).2.2 ∧ Keep (· ≠ b) w w' := by
  have hbl : b < w.heap.size := by obtain ⟨_, hB, _⟩ := h; exact hB.lt
  refine enter (fn := Try.f33) (n := 8) Try.func33 rfl rfl (by simp) ?_
  refine W_seq ?_
  refine W_region ?_
  refine o_alloc rfl rfl rfl ?_; intro w1 b1 e1 hB1 hk1 hs1
  have h1 : InC w1 b A bs bad := h.keep' hk1 trivial (fun _ _ _ => trivial)
  refine ops_nil ?_
  refine W_seq ?_
  refine W_held (Keep (fun k => k ≠ b ∧ k ≠ b1) w1) (by kernel_rfl) (Keep.drawn w1 |>.all) (fun hS => ?_)
  refine any_run 0 (fun w' hS' => (r_sliceA rfl rfl rfl)) rfl (by kernel_rfl) (by kernel_rfl) (by kernel_rfl) rfl hS ?_
  refine any_mvt 1 rfl (by kernel_rfl) (by kernel_rfl) (by kernel_rfl) rfl hS ?_
  refine any_one 2 (by kernel_rfl) (one_of rfl ?_)
  refine op_call rfl rfl rfl (in_take' _ b A bs bad 32 (by decide) hAb (h1.keep' (Keep.drawn w1) trivial (fun _ _ _ => trivial))) ?_; rintro v3 w3 ⟨hby, hin3, hI3, hk3⟩
  refine ops_nil ⟨hS.trans (hk3.mono fun k _ h => h.1), fun hS => ?_⟩
  have hB1 : Blk w1 b1 (List.replicate 32 (c8 0)) 24 := hB1
  have hB3 := hk3.blk' ((Keep.drawn w1).blk' hB1 trivial) (show b1 ≠ b by omega)
  refine any_one 3 (by kernel_rfl) (one_of rfl ?_)
  refine o_copy (cs := ((tkR 32 bs bad).1.map c8)) rfl rfl (hby) rfl rfl (hB3) (by exact Nat.le_refl _) (all_c8 _) rfl ?_; intro w5 hB5 hk5 hs5
  refine ops_nil ⟨hS.trans (hk5.mono fun k _ h => h.2), fun hS => ?_⟩
  rw [digR_fst] at hB5
  refine any_done (by kernel_rfl) ?_
  refine W_seq ?_
  refine W_region ?_
  refine op_run (r_loadA (dgR (digR bs bad).1) rfl rfl rfl (by first | rfl | (rw [dgR_len]; rfl) | (rw [refR_len]; rfl) | (rw [secR_len]; rfl) | (rw [List.length_map, tagF_len]; rfl)) (hB5.all)) rfl ?_
  refine o_storeA (cs := dgR (digR bs bad).1) rfl rfl (by first | rfl | exact dgR_one _ | exact refR_one _ | exact secR_one _ | exact all_c8 _) (by first | rfl | (rw [dgR_len]; rfl) | (rw [refR_len]; rfl) | (rw [secR_len]; rfl) | (rw [List.length_map, tagF_len]; rfl)) hB5 (by rw [dgR_len]; exact Nat.le_refl _) rfl ?_; intro w8 hB8 hk8 hs8
  rw [splice_all (by rw [dgR_len])] at hB8
  refine ops_nil ?_
  refine W_ret ?_
  refine retA (dgR (digR bs bad).1) rfl rfl rfl rfl (by first | rfl | (rw [dgR_len]; rfl) | (rw [refR_len]; rfl) | (rw [secR_len]; rfl) | (rw [List.length_map, tagF_len]; rfl)) hB8.all ?_
  refine ⟨rfl, ?_, ?_⟩
  · rw [digR_snd]
    exact (hI3.keep' hk5 (by omega) (fun k _ hA e => by have := hAl k hA; omega)).keep' hk8 (by omega) (fun k _ hA e => by have := hAl k hA; omega)
  · exact ((hk1.all.trans hS).trans (hk8.mono fun k _ h => h.2)).mono fun k hk h => ⟨h, by omega⟩

theorem bl_Put (w : World) (v : Value) (xs : List UInt8) (r : Rf) (hown : OwnB w 5 v xs) (hlen : xs.length + 60 ≤ 2 ^ 40) :
    Ret Try.prog 28 [v, .agg (refR r).toArray].toArray w fun u w' => OwnB w' 5 u (xs ++ encR r) ∧ Keep (fun b => some b ≠ v.ownBlock) w w' ∧ InB (fun b => v.ownBlock = some b ∨ w.heap.size ≤ b) u := by
  have hx1 := encN_len10 (u64_lt r.at_)
  have hx2 := encN_len10 (u64_lt r.len)
  have hdl := r.dig.2
  refine enter (fn := Try.f28) (n := 18) Try.func28 rfl rfl (by simp) ?_
  refine W_seq ?_
  refine W_region ?_
  refine o_box rfl rfl rfl ?_; intro w1 b1 e1 hB1 hk1 hs1
  have hne : some b1 ≠ v.ownBlock := fun e => by have := hown.lt b1 e.symm; omega
  have hdig : By w1 (.slice (some ⟨b1, 0, none⟩) 32 32) r.dig.val := by
    have := By.of_at (w := w1) (b := b1) (off := 0) (c := 32) (bs := r.dig.val) (fun j u hj => by rw [Nat.zero_add]; exact hB1.cell (refR_dig r hj)) (by omega) (by unfold maxLen; omega)
    rwa [hdl] at this
  refine o_asc rfl ?_
  refine ops_nil ?_
  refine W_seq ?_
  refine W_region ?_
  refine o_mvt rfl ?_
  refine op_run (r_fieldAddr rfl rfl rfl rfl rfl) rfl ?_
  refine op_run (r_sliceA rfl rfl rfl) rfl ?_
  refine o_appS (v := v) rfl rfl hdig rfl ti_u8 rfl rfl (hown.keep hk1 (fun _ _ => trivial)) (all_c8 _) (by unfold maxLen; omega) (by omega) rfl ?_; intro v2 w2 hown2 hk2 hb2
  have hown2 : OwnB w2 5 v2 (xs ++ r.dig.val) := OwnB.app hown2
  have hkA : Keep (fun b => some b ≠ v.ownBlock) w w2 := hk1.all.trans hk2
  have hinA : InB (fun b => v.ownBlock = some b ∨ w.heap.size ≤ b) v2 := fun b hb => (hb2 b hb).imp id fun h => by omega
  have hB2 := hk2.blk' hB1 hne
  refine o_ast rfl ?_
  refine ops_nil ?_
  refine W_seq ?_
  refine W_held (fun w' => Blk w' b1 (refR r) 26) (by kernel_rfl) ((Keep.drawn w2).blk' hB2 trivial) (fun hS => ?_)
  refine any_mvt 0 rfl (by kernel_rfl) (by kernel_rfl) (by kernel_rfl) rfl hS ?_
  refine any_run 1 (fun w' hS' => (r_fieldAddr rfl rfl rfl rfl rfl)) rfl (by kernel_rfl) (by kernel_rfl) (by kernel_rfl) rfl hS ?_
  refine any_run 2 (fun w' hS' => (r_load rfl rfl rfl (hS'.cell (refR_32 r)))) rfl (by kernel_rfl) (by kernel_rfl) (by kernel_rfl) rfl hS ?_
  refine any_run 3 (fun w' hS' => ((r_conv rfl rfl rfl).val (conv_u64 r.at_))) rfl (by kernel_rfl) (by kernel_rfl) (by kernel_rfl) rfl hS ?_
  refine any_run 5 (fun w' hS' => (r_fieldAddr rfl rfl rfl rfl rfl)) rfl (by kernel_rfl) (by kernel_rfl) (by kernel_rfl) rfl hS ?_
  refine any_run 6 (fun w' hS' => (r_load rfl rfl rfl (hS'.cell (refR_33 r)))) rfl (by kernel_rfl) (by kernel_rfl) (by kernel_rfl) rfl hS ?_
  refine any_run 7 (fun w' hS' => ((r_conv rfl rfl rfl).val (conv_u64 r.len))) rfl (by kernel_rfl) (by kernel_rfl) (by kernel_rfl) rfl hS ?_
  refine any_one 4 (by kernel_rfl) (one_of rfl ?_)
  refine op_call rfl rfl rfl (pack_Number _ v2 (xs ++ r.dig.val) (u64 r.at_) (u64_lt _) (hown2.keep (Keep.drawn w2) (fun _ _ => trivial)) (by rw [List.length_append]; omega)) ?_; rintro v6 w6 ⟨hown6, hk6, hb6⟩
  have hz := hkA.size
  have hlt2 := hB2.lt
  have hne2 : some b1 ≠ v2.ownBlock := fun e => by
    rcases hb2 b1 e.symm with h | h
    · exact hne h.symm
    · omega
  have hkB := (hkA.trans (Keep.drawn w2).all).own hk6 (fun b hb hA => (hinA b hb).resolve_left (fun e => hA e.symm))
  have hinB : InB (fun b => v.ownBlock = some b ∨ w.heap.size ≤ b) v6 := fun b hb => (hb6 b hb).elim (hinA b) fun h => .inr (Nat.le_trans hz h)
  have hne6 : some b1 ≠ v6.ownBlock := fun e => by
    rcases hb6 b1 e.symm with h | h
    · exact hne2 h.symm
    · have h : w2.heap.size ≤ b1 := h
      omega
  refine ops_nil ⟨hk6.blk' hS hne2, fun hS => ?_⟩
  refine any_one 8 (by kernel_rfl) (one_of rfl ?_)
  refine op_call rfl rfl rfl (pack_Number _ v6 _ (u64 r.len) (u64_lt _) hown6 (by rw [List.length_append, List.length_append]; omega)) ?_; rintro v8 w8 ⟨hown8, hk8, hb8⟩
  refine ops_nil ⟨hk8.blk' hS hne6, fun hS => ?_⟩
  refine any_ast 9 rfl (by kernel_rfl) (by kernel_rfl) (by kernel_rfl) rfl hS ?_
  refine any_done (by kernel_rfl) ?_
  refine W_ret ?_
  refine ret1 v8 rfl ?_ ?_; rfl
  refine ⟨?_, hkB.own hk8 (fun b hb hA => (hinB b hb).resolve_left (fun e => hA e.symm)), fun b hb => (hb8 b hb).elim (hinB b) fun h => .inr (by have := hkB.size; omega)⟩
  unfold encR
  rw [← List.append_assoc, ← List.append_assoc]
  exact hown8

theorem bl_Take (w : World) (b : Nat) (A : Nat → Prop) (bs : List UInt8) (bad : Bool) (hAb : ¬ A b) (hAl : ∀ k, A k → k < w.heap.size) (h : InC w b A bs bad) :
    Ret Try.prog 26 [.pointer (some ⟨b, 0, none⟩)].toArray w fun r w' => r = .agg (refR (rfR bs bad).1).toArray ∧ InC w' b A (rfR bs bad).2.1 (rfR bs bad).2.2 ∧ Keep (· ≠ b) w w' := by
  have hbl : b < w.heap.size := by obtain ⟨_, hB, _⟩ := h; exact hB.lt
  refine enter (fn := Try.f26) (n := 18) Try.func26 rfl rfl (by simp) ?_
  refine W_seq ?_
  refine W_region ?_
  refine o_alloc rfl rfl rfl ?_; intro w1 b1 e1 hB1 hk1 hs1
  have hB1 : Blk w1 b1 (refR Rf.zero) 26 := by rw [refR_zero]; exact hB1
  have h1 : InC w1 b A bs bad := h.keep' hk1 trivial (fun _ _ _ => trivial)
  refine ops_nil ?_
  refine W_seq ?_
  refine W_region ?_
  refine o_mvt rfl ?_
  refine op_call rfl rfl rfl (in_Digest w1 b A bs bad hAb (fun k hk => by have := hAl k hk; omega) h1) ?_; rintro v2 w2 ⟨rfl, hI2, hk2⟩
  refine op_run (r_fieldAddr rfl rfl rfl rfl rfl) rfl ?_
  refine o_storeA (cs := dgR (digR bs bad).1) rfl rfl (by first | rfl | exact dgR_one _ | exact refR_one _ | exact secR_one _ | exact all_c8 _) (by first | rfl | (rw [dgR_len]; rfl) | (rw [refR_len]; rfl) | (rw [secR_len]; rfl) | (rw [List.length_map, tagF_len]; rfl)) (hk2.blk' hB1 (by omega)) (by rw [dgR_len, refR_len]; decide) rfl ?_; intro w3 hB3 hk3 hs3
  have hB3 : Blk w3 b1 (refR ⟨(digR bs bad).1, 0, 0⟩) 26 := by have h : Blk w3 b1 (splice (refR Rf.zero) 0 (dgR (digR bs bad).1)) 26 := hB3; rwa [refR_setD] at h
  have hAl1 : ∀ k, A k → k < b1 := fun k hk => by have := hAl k hk; omega
  refine ops_nil ?_
  refine W_seq ?_
  refine W_region ?_
  refine o_mvt rfl ?_
  refine op_call rfl rfl rfl (in_Number w3 b A _ _ 65535 hAb (hI2.keep' hk3 (by omega) (fun k _ hk => by have := hAl1 k hk; omega))) ?_; rintro v4 w4 ⟨rfl, hI4, hk4⟩
  refine op_run ((r_conv rfl rfl rfl).val (congrArg (Value.int .i64) (conv_i64 _ (by have := numR_le 65535 (digR bs bad).2.1 (digR bs bad).2.2; omega)))) rfl ?_
  refine o_mvt rfl ?_
  refine op_call rfl rfl rfl (in_Number w4 b A _ _ 65536 hAb hI4) ?_; rintro v5 w5 ⟨rfl, hI5, hk5⟩
  have hB5 := hk5.blk' (hk4.blk' hB3 (by omega)) (by omega)
  refine op_run ((r_conv rfl rfl rfl).val (congrArg (Value.int .i64) (conv_i64 _ (by have := numR_le 65536 (numR 65535 (digR bs bad).2.1 (digR bs bad).2.2).2.1 (numR 65535 (digR bs bad).2.1 (digR bs bad).2.2).2.2; omega)))) rfl ?_
  refine op_run (r_fieldAddr rfl rfl rfl rfl rfl) rfl ?_
  refine o_store (v := .int .i64 ((numR 65535 (digR bs bad).2.1 (digR bs bad).2.2).1 : Int)) rfl rfl rfl rfl hB5 (by rw [refR_len]; decide) rfl ?_; intro w6 hB6 hk6 hs6
  have hB6 : Blk w6 b1 ((refR ⟨(digR bs bad).1, 0, 0⟩).set 32 (.int .i64 ((numR 65535 (digR bs bad).2.1 (digR bs bad).2.2).1 : Int))) 26 := hB6
  rw [refR_set32] at hB6
  refine op_run (r_fieldAddr rfl rfl rfl rfl rfl) rfl ?_
  refine o_store (v := .int .i64 ((numR 65536 (numR 65535 (digR bs bad).2.1 (digR bs bad).2.2).2.1 (numR 65535 (digR bs bad).2.1 (digR bs bad).2.2).2.2).1 : Int)) rfl rfl rfl rfl hB6 (by rw [refR_len]; decide) rfl ?_; intro w7 hB7 hk7 hs7
  have hB7 : Blk w7 b1 ((refR ⟨(digR bs bad).1, ((numR 65535 (digR bs bad).2.1 (digR bs bad).2.2).1 : Int), 0⟩).set 33 (.int .i64 ((numR 65536 (numR 65535 (digR bs bad).2.1 (digR bs bad).2.2).2.1 (numR 65535 (digR bs bad).2.1 (digR bs bad).2.2).2.2).1 : Int))) 26 := hB7
  rw [refR_set33] at hB7
  have hI7 : InC w7 b A (rfR bs bad).2.1 (rfR bs bad).2.2 := (hI5.keep' hk6 (by omega) (fun k _ hk => by have := hAl1 k hk; omega)).keep' hk7 (by omega) (fun k _ hk => by have := hAl1 k hk; omega)
  have hkw : Keep (fun k => k ≠ b ∧ k ≠ b1) w w7 := (((((hk1.all.trans (hk2.mono fun k _ h => h.1)).trans (hk3.mono fun k _ h => h.2)).trans (hk4.mono fun k _ h => h.1)).trans (hk5.mono fun k _ h => h.1)).trans (hk6.mono fun k _ h => h.2)).trans (hk7.mono fun k _ h => h.2)
  refine ops_nil ?_
  refine W_seq ?_
  refine W_seq ?_
  refine W_region ?_
  refine o_mvt rfl ?_
  refine op_call rfl rfl rfl (in_Wrong w7 b A _ _ hI7) ?_; rintro v8 w8 ⟨rfl, rfl⟩
  refine ops_nil ?_
  refine W_cond rfl (fun h9 => ?_) (fun h9 => ?_)
  · refine W_seq ?_
    refine W_region ?_
    refine op_run (r_build ((refR Rf.zero)) (_) ([]) rfl rfl rfl rfl rfl (by rw [refR_zero]; rfl)) rfl ?_
    refine o_storeA (cs := refR Rf.zero) rfl rfl (by first | rfl | exact dgR_one _ | exact refR_one _ | exact secR_one _ | exact all_c8 _) (by first | rfl | (rw [dgR_len]; rfl) | (rw [refR_len]; rfl) | (rw [secR_len]; rfl) | (rw [List.length_map, tagF_len]; rfl)) hB7 (by simp [refR_len]) rfl ?_; intro w11 hB11 hk11 hs11
    rw [splice_all (by simp [refR_len])] at hB11
    refine ops_nil ?_
    refine W_ret ?_
    refine retA (refR Rf.zero) rfl rfl rfl rfl (by first | rfl | (rw [dgR_len]; rfl) | (rw [refR_len]; rfl) | (rw [secR_len]; rfl) | (rw [List.length_map, tagF_len]; rfl)) hB11.all ?_
    have e : (rfR bs bad).1 = Rf.zero := if_pos h9
    refine ⟨by rw [e], hI7.keep' hk11 (by omega) (fun k _ hk => by have := hAl1 k hk; omega), ?_⟩
    exact (hkw.trans (hk11.mono fun k _ h => h.2)).mono fun k hk h => ⟨h, by omega⟩
  · refine W_skip ?_
    refine W_seq ?_
    refine W_region ?_
    refine op_run (r_loadA (refR ⟨(digR bs bad).1, ((numR 65535 (digR bs bad).2.1 (digR bs bad).2.2).1 : Int), ((numR 65536 (numR 65535 (digR bs bad).2.1 (digR bs bad).2.2).2.1 (numR 65535 (digR bs bad).2.1 (digR bs bad).2.2).2.2).1 : Int)⟩) rfl rfl rfl (by first | rfl | (rw [dgR_len]; rfl) | (rw [refR_len]; rfl) | (rw [secR_len]; rfl) | (rw [List.length_map, tagF_len]; rfl)) (hB7.all)) rfl ?_
    refine o_storeA (cs := refR ⟨(digR bs bad).1, ((numR 65535 (digR bs bad).2.1 (digR bs bad).2.2).1 : Int), ((numR 65536 (numR 65535 (digR bs bad).2.1 (digR bs bad).2.2).2.1 (numR 65535 (digR bs bad).2.1 (digR bs bad).2.2).2.2).1 : Int)⟩) rfl rfl (by first | rfl | exact dgR_one _ | exact refR_one _ | exact secR_one _ | exact all_c8 _) (by first | rfl | (rw [dgR_len]; rfl) | (rw [refR_len]; rfl) | (rw [secR_len]; rfl) | (rw [List.length_map, tagF_len]; rfl)) hB7 (by simp [refR_len]) rfl ?_; intro w14 hB14 hk14 hs14
    rw [splice_all (by simp [refR_len])] at hB14
    refine ops_nil ?_
    refine W_ret ?_
    refine retA (refR (rfR bs bad).1) rfl rfl rfl rfl (by first | rfl | (rw [dgR_len]; rfl) | (rw [refR_len]; rfl) | (rw [secR_len]; rfl) | (rw [List.length_map, tagF_len]; rfl)) (by rw [show (rfR bs bad).1 = _ from if_neg (show ¬ (rfR bs bad).2.2 = true by rw [h9]; simp)]; exact hB14.all) ?_
    refine ⟨rfl, hI7.keep' hk14 (by omega) (fun k _ hk => by have := hAl1 k hk; omega), ?_⟩
    exact (hkw.trans (hk14.mono fun k _ h => h.2)).mono fun k hk h => ⟨h, by omega⟩
end Go.Proofs.Ytcbbodjcgjbfaaa.B
