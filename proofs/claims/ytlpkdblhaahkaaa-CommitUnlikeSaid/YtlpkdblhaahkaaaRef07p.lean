/-
  The document's Refs are put. (The same text as in Ref14: never import both.)
-/
import Derived.Test.YtlpkdblhaahkaaaMRef
namespace Go.Proofs.Ytlpkdblhaahkaaa.B
open Go
set_option linter.unusedVariables false
set_option maxHeartbeats 2000000
set_option maxRecDepth 100000
attribute [local irreducible] W OpsW OpsQ retP
theorem rf07_Put (w : World) (v : Value) (xs : List UInt8) (r : Rf) (hown : OwnB w 5 v xs) (hlen : xs.length + 60 ≤ 2 ^ 40) :
    Ret Try.prog 39 [v, .agg (refR r).toArray].toArray w fun u w' => OwnB w' 5 u (xs ++ encR r) ∧ Keep (fun b => some b ≠ v.ownBlock) w w' ∧ InB (fun b => v.ownBlock = some b ∨ w.heap.size ≤ b) u := by
  have hx1 := encN_len10 (u64_lt r.at_)
  have hx2 := encN_len10 (u64_lt r.len)
  have hdl := r.dig.2
  refine enter (fn := Try.f39) (n := 26) Try.func39 rfl rfl (by simp) ?_
  refine W_seq ?_
  refine W_region ?_
  refine o_box rfl rfl rfl ?_; intro w1 b1 e1 hB1 hk1 hs1
  have hne : some b1 ≠ v.ownBlock := fun e => by have := hown.lt b1 e.symm; omega
  refine o_asc rfl ?_
  refine ops_nil ?_
  refine W_seq ?_
  refine W_seq ?_
  refine W_region ?_
  refine o_asc rfl ?_
  refine ops_nil ?_
  refine W_block ?_
  refine W_loop [0, 5] [0, 5, 6, 7, 8, 9, 10, 11, 12, 13, 14, 15, 16] (fun vs w' => ∃ (u : Value) (k : Nat), vs = [u, .int .i64 k] ∧ k ≤ 32 ∧ OwnB w' 5 u (xs ++ r.dig.val.take k) ∧ Keep (fun b => some b ≠ v.ownBlock) w w' ∧ Blk w' b1 (refR r) 28 ∧ InB (fun b => (v.ownBlock = some b ∨ w.heap.size ≤ b) ∧ b ≠ b1) u ∧ w1.heap.size ≤ w'.heap.size) (fun vs _ => match vs with | [_, .int _ k] => 32 - k.toNat | _ => 0) ⟨v, 0, rfl, by omega, by rw [List.take_zero, List.append_nil]; exact hown.keep hk1 (fun _ _ => trivial), hk1.all, hB1, (fun b hb => ⟨.inl hb, fun e => hne (e ▸ hb.symm)⟩), Nat.le_refl _⟩ ?_
  rintro J2 vs w2 ⟨u, k, rfl, hk, hown2, hkA, hB2, hinA, hz2⟩ -
  refine W_seq ?_
  refine W_seq ?_
  refine W_region ?_
  refine o_mvt rfl ?_
  refine op_run (r_lss rfl rfl) rfl ?_
  refine ops_nil ?_
  refine W_cond_p rfl (fun h3 => ?_) (fun h3 => ?_)
  · refine W_skip ?_
    refine W_seq ?_
    refine W_block ?_
    refine W_region ?_
    refine o_mvt rfl ?_
    refine o_mvt rfl ?_
    refine op_run (r_fieldAddr rfl rfl rfl rfl rfl) rfl ?_
    have hkl : k < 32 := by omega
    have hinck := inc64' k (by omega)
    have hk32 : k < r.dig.val.length := by omega
    refine op_run (r_idxA1 rfl rfl rfl rfl (by omega) (by omega)) rfl ?_
    refine op_run (r_load rfl rfl rfl (by rw [Int.toNat_natCast]; show w2.cell? ⟨b1, 0 + 0 + k, none⟩ = some (c8 r.dig.val[k]); rw [Nat.zero_add]; exact hB2.cell (refR_dig r (get_c8 hk32)))) rfl ?_
    refine o_bs1 (v := c8 r.dig.val[k]) rfl rfl rfl rfl rfl rfl ?_; intro w6 b6 e6 hB6 hk6 hs6
    refine o_app1 (v := u) rfl rfl hB6 rfl rfl ti_u8 rfl (hown2.keep hk6 (fun _ _ => trivial)) (by rw [List.length_append, List.length_take]; unfold maxLen; omega) (by rw [List.length_append, List.length_take]; omega) rfl ?_; intro v7 w7 hown7 hk7 hb7
    refine o_ast rfl ?_
    refine ops_nil ?_
    refine W_region ?_
    refine o_mvt rfl ?_
    refine op_run (r_add rfl rfl) rfl ?_
    refine o_ast rfl ?_
    refine ops_nil ?_
    have hown7' : OwnB w7 5 v7 (xs ++ r.dig.val.take (k + 1)) := by
      have h := OwnB.snoc hown7
      rwa [List.append_assoc, ← List.take_succ_eq_append_getElem hk32] at h
    have hB7 := hk7.blk' (hk6.blk' hB2 trivial) (fun e => (hinA b1 e.symm).2 rfl)
    refine ⟨by (repeat (first | with_reducible exact offM_refl _ _ | refine offM_updc rfl ?_ | refine offM_upd rfl ?_ | refine offM_updo rfl ?_ | refine offM_updo_none ?_ | refine offM_head rfl rfl ?_)), ⟨v7, k + 1, ?_, by omega, hown7', (hkA.trans hk6.all).own hk7 (fun b hb hA => (hinA b hb).1.resolve_left (fun e => hA e.symm)), hB7, fun b hb => ?_, by have := hk6.size; have := hk7.size; omega⟩, ?_⟩
    · rw [← hinck]; rfl
    · rcases hb7 b hb with h1 | h1
      · exact hinA b h1
      · have := hk6.size; have := hkA.size; have := hB2.lt; exact ⟨.inr (by omega), by omega⟩
    · show 32 - (IntKind.i64.wrap ((k : Int) + 1)).toNat < 32 - (k : Int).toNat
      rw [hinck]; omega
  · refine W_exit ?_
    refine W_seq ?_
    have hkp : k = 32 := by omega
    subst hkp
    rw [List.take_of_length_le (by omega)] at hown2
    refine W_held (fun w' => Blk w' b1 (refR r) 28) (by kernel_rfl) ((Keep.drawn w2).blk' hB2 trivial) (fun hS => ?_)
    refine any_mvt 0 rfl (by kernel_rfl) (by kernel_rfl) (by kernel_rfl) rfl hS ?_
    refine any_run 1 (fun w' hS' => (r_fieldAddr rfl rfl rfl rfl rfl)) rfl (by kernel_rfl) (by kernel_rfl) (by kernel_rfl) rfl hS ?_
    refine any_run 2 (fun w' hS' => (r_load rfl rfl rfl (hS'.cell (refR_32 r)))) rfl (by kernel_rfl) (by kernel_rfl) (by kernel_rfl) rfl hS ?_
    refine any_run 3 (fun w' hS' => ((r_conv rfl rfl rfl).val (conv_u64 r.at_))) rfl (by kernel_rfl) (by kernel_rfl) (by kernel_rfl) rfl hS ?_
    refine any_run 5 (fun w' hS' => (r_fieldAddr rfl rfl rfl rfl rfl)) rfl (by kernel_rfl) (by kernel_rfl) (by kernel_rfl) rfl hS ?_
    refine any_run 6 (fun w' hS' => (r_load rfl rfl rfl (hS'.cell (refR_33 r)))) rfl (by kernel_rfl) (by kernel_rfl) (by kernel_rfl) rfl hS ?_
    refine any_run 7 (fun w' hS' => ((r_conv rfl rfl rfl).val (conv_u64 r.len))) rfl (by kernel_rfl) (by kernel_rfl) (by kernel_rfl) rfl hS ?_
    refine any_one 4 (by kernel_rfl) (one_of rfl ?_)
    refine op_call rfl rfl rfl (ref01_Number _ u (xs ++ r.dig.val) (u64 r.at_) (u64_lt _) (hown2.keep (Keep.drawn w2) (fun _ _ => trivial)) (by rw [List.length_append]; omega)) ?_; rintro v12 w12 ⟨hown6, hk6, hb6⟩
    have hz := hkA.size
    have hlt2 := hB2.lt
    have hne2 : some b1 ≠ u.ownBlock := fun e => (hinA b1 e.symm).2 rfl
    have hkB := (hkA.trans (Keep.drawn w2).all).own hk6 (fun b hb hA => (hinA b hb).1.resolve_left (fun e => hA e.symm))
    have hinB : InB (fun b => v.ownBlock = some b ∨ w.heap.size ≤ b) v12 := fun b hb => (hb6 b hb).elim (fun h => (hinA b h).1) fun h => .inr (Nat.le_trans hz h)
    have hne6 : some b1 ≠ v12.ownBlock := fun e => by
      rcases hb6 b1 e.symm with h | h
      · exact hne2 h.symm
      · have h : w2.heap.size ≤ b1 := h
        omega
    refine ops_nil ⟨hk6.blk' hS hne2, fun hS => ?_⟩
    refine any_one 8 (by kernel_rfl) (one_of rfl ?_)
    refine op_call rfl rfl rfl (ref01_Number _ v12 _ (u64 r.len) (u64_lt _) hown6 (by rw [List.length_append, List.length_append]; omega)) ?_; rintro v14 w14 ⟨hown8, hk8, hb8⟩
    refine ops_nil ⟨hk8.blk' hS hne6, fun hS => ?_⟩
    refine any_ast 9 rfl (by kernel_rfl) (by kernel_rfl) (by kernel_rfl) rfl hS ?_
    refine any_done (by kernel_rfl) ?_
    refine W_ret ?_
    refine ret1 v14 rfl ?_ ?_; rfl
    refine ⟨?_, hkB.own hk8 (fun b hb hA => (hinB b hb).resolve_left (fun e => hA e.symm)), fun b hb => (hb8 b hb).elim (hinB b) fun h => .inr (by have := hkB.size; omega)⟩
    unfold encR
    rw [← List.append_assoc, ← List.append_assoc]
    exact hown8
end Go.Proofs.Ytlpkdblhaahkaaa.B
