/-
  The cell: its counter and its root, as bytes and back.
-/
import Derived.Test.YthjmobiidlolhaaBuild
import Derived.Test.YthjmobiidlolhaaPackN
namespace Go.Proofs.Ythjmobiidlolhaa.B
open Go
set_option linter.unusedVariables false
attribute [local irreducible] W OpsW OpsQ retP
/-- A counter's eight bytes, the greatest first. -/
def be8 (n : Nat) : List UInt8 := [(n / 256 ^ 7).toUInt8, (n / 256 ^ 6).toUInt8, (n / 256 ^ 5).toUInt8, (n / 256 ^ 4).toUInt8, (n / 256 ^ 3).toUInt8, (n / 256 ^ 2).toUInt8, (n / 256).toUInt8, n.toUInt8]
def unbe (l : List UInt8) : Nat := l.foldl (fun a x => a * 256 + x.toNat) 0
theorem unbe_snoc (l : List UInt8) (x : UInt8) : unbe (l ++ [x]) = unbe l * 256 + x.toNat := by unfold unbe; simp
theorem unbe_fold : ∀ (l : List UInt8) (a k : Nat), a < 256 ^ k → l.foldl (fun a x => a * 256 + x.toNat) a < 256 ^ (k + l.length) := by
  intro l
  induction l with
  | nil => intro a k h; simpa using h
  | cons x l ih =>
    intro a k h
    rw [List.foldl_cons, List.length_cons]
    have hx := x.toNat_lt
    have := ih (a * 256 + x.toNat) (k + 1) (by rw [Nat.pow_succ]; omega)
    rwa [show k + (l.length + 1) = k + 1 + l.length by omega]
theorem unbe_lt (l : List UInt8) : unbe l < 256 ^ l.length := by simpa [unbe] using unbe_fold l 0 0 (by simp)
theorem u8_eq {n : Nat} {x : UInt8} (h : n % 256 = x.toNat) : n.toUInt8 = x := by apply UInt8.toNat_inj.1; simpa using h
theorem be8_unbe (l : List UInt8) (hl : l.length = 8) : be8 (unbe l) = l := by
  match l, hl with
  | [a, b, c, d, e, f, g, h], _ =>
    have := a.toNat_lt; have := b.toNat_lt; have := c.toNat_lt; have := d.toNat_lt; have := e.toNat_lt; have := f.toNat_lt; have := g.toNat_lt; have := h.toNat_lt
    simp only [be8, unbe, List.foldl_cons, List.foldl_nil]
    simp only [List.cons.injEq, and_true]
    refine ⟨u8_eq ?_, u8_eq ?_, u8_eq ?_, u8_eq ?_, u8_eq ?_, u8_eq ?_, u8_eq ?_, u8_eq ?_⟩ <;> omega
def cellC (n : Nat) (d : List UInt8) : List Value := .int .u64 n :: d.map c8
theorem cellC_one (n : Nat) (d : List UInt8) : (cellC n d).all one = true := by unfold cellC; rw [List.all_cons, all_c8]; rfl
theorem sh_or (a : Nat) (x : UInt8) (ha : a < 256 ^ 7) : bitw .or .u64 (IntKind.u64.wrap ((a : Int) * 2 ^ (min (8 : Int).toNat IntKind.u64.bits))) (IntKind.u64.wrap (x.toNat : Int)) = ((a * 256 + x.toNat : Nat) : Int) := by
  have hx := x.toNat_lt
  have e1 : IntKind.u64.wrap ((a : Int) * 2 ^ (min (8 : Int).toNat IntKind.u64.bits)) = ((a * 2 ^ 8 : Nat) : Int) := by
    rw [wrap_u64]; show ((a : Int) * 2 ^ 8) % _ = _; omega
  have e2 : IntKind.u64.wrap (x.toNat : Int) = (x.toNat : Int) := by rw [wrap_u64]; omega
  rw [e1, e2, bitw_or rfl _ _ (by show _ < 2 ^ 64; omega) (by show _ < 2 ^ 64; omega)]
  rw [← Nat.shiftLeft_eq, ← Nat.shiftLeft_add_eq_or_of_lt (by omega) a, Nat.shiftLeft_eq]
theorem be8_at (n k : Nat) (hk : k < 8) : IntKind.u8.wrap (((n : Nat) : Int).fdiv (2 ^ (min (IntKind.i64.wrap (8 * IntKind.i64.wrap (7 - (k : Int)))).toNat IntKind.u64.bits))) = (((be8 n)[k]'(by simpa [be8] using hk)).toNat : Int) := by
  have e : (IntKind.i64.wrap (8 * IntKind.i64.wrap (7 - (k : Int)))) = ((8 * (7 - k) : Nat) : Int) := by
    rw [wrap_i64 (n := 7 - (k : Int)) (by omega) (by omega), wrap_i64 (by omega) (by omega)]; omega
  rw [e, fdiv_nat, wrap_u8]
  have hm : ∀ s, s < 64 → min s IntKind.u64.bits = s := fun s h => Nat.min_eq_left (by show s ≤ 64; omega)
  rw [hm _ (by omega)]
  have h8 : k = 0 ∨ k = 1 ∨ k = 2 ∨ k = 3 ∨ k = 4 ∨ k = 5 ∨ k = 6 ∨ k = 7 := by omega
  rcases h8 with rfl | rfl | rfl | rfl | rfl | rfl | rfl | rfl <;> simp [be8]
theorem fill_two {pl : List (Nat × Nat)} {zl cs : List Value} {v : Value} {m : Nat} (hp : pl = [(0, 1), (1, m)]) (hz : zl.length = m + 1) (h1 : one v = true) (hc : cs.length = m) :
    fillV (fun i => pl[i]?) zl [(0, v), (1, .agg cs.toArray)] = some (v :: cs) := by
  subst hp
  match zl, hz with
  | z :: zl, hz =>
    have hz : zl.length = m := by simpa using hz
    have hv := cells_one h1
    have hd : zl.drop m = [] := List.drop_eq_nil_of_le (by omega)
    have ha : (Value.agg cs.toArray).cells = cs.toArray := rfl
    simp only [fillV, List.getElem?_cons_zero, List.getElem?_cons_succ, hv, ha, splice]
    simp [hc, hz, hd, Nat.add_comm]
theorem fill_snd {pl : List (Nat × Nat)} {z : Value} {zl cs : List Value} {m : Nat} (hp : pl = [(0, 1), (1, m)]) (hz : zl.length = m) (hc : cs.length = m) :
    fillV (fun i => pl[i]?) (z :: zl) [(1, .agg cs.toArray)] = some (z :: cs) := by
  subst hp
  have hd : zl.drop m = [] := List.drop_eq_nil_of_le (by omega)
  have ha : (Value.agg cs.toArray).cells = cs.toArray := rfl
  simp only [fillV, List.getElem?_cons_zero, List.getElem?_cons_succ, ha, splice]
  simp [hc, hz, hd, Nat.add_comm]

theorem cell_New (w : World) (n : Nat) (d : List UInt8) (hd : d.length = 32) : Ret Try.prog 22 [.int .u64 n, .agg (d.map c8).toArray].toArray w fun r w' => ∃ b, r = .pointer (some ⟨b, 0, none⟩) ∧ w.heap.size ≤ b ∧ Blk w' b (cellC n d) 56 ∧ Keep All w w' := by
  refine enter (fn := Try.f22) (n := 9) Try.func22 rfl rfl (by simp) ?_
  refine W_seq ?_
  refine W_region ?_
  refine o_box (cs := d.map c8) rfl rfl rfl ?_; intro w1 b1 e1 hB1 hk1 hs1
  refine o_asc rfl ?_
  refine ops_nil ?_
  refine W_seq ?_
  refine W_region ?_
  refine o_mvt rfl ?_
  refine op_run (r_loadA (d.map c8) rfl rfl rfl (by rw [List.length_map, hd]; rfl) hB1.all) rfl ?_
  refine op_run (r_build (cellC n d) (_) ([(0, .int .u64 n), (1, .agg (d.map c8).toArray)]) rfl rfl rfl rfl rfl (fill_two (by kernel_rfl) rfl rfl (by simpa using hd))) rfl ?_
  refine o_box (cs := cellC n d) rfl rfl rfl ?_; intro w4 b4 e4 hB4 hk4 hs4
  refine o_ast rfl ?_
  refine ops_nil ?_
  refine W_ret ?_
  refine ret1 (.pointer (some ⟨b4, 0, none⟩)) rfl ?_ ?_; rfl
  exact ⟨b4, rfl, by have := hk1.size; omega, hB4, hk1.trans hk4⟩

theorem cell_Load (w : World) (l : List UInt8) (hl : l.length = 40) : Ret Try.prog 19 [.agg (l.map c8).toArray].toArray w fun r w' => ∃ b, r = .pointer (some ⟨b, 0, none⟩) ∧ w.heap.size ≤ b ∧ Blk w' b (cellC (unbe (l.take 8)) (l.drop 8)) 56 ∧ Keep All w w' := by
  refine enter (fn := Try.f19) (n := 30) Try.func19 rfl rfl (by simp) ?_
  refine W_seq ?_
  refine W_region ?_
  refine o_box (cs := l.map c8) rfl rfl rfl ?_; intro w1 b1 e1 hB1 hk1 hs1
  refine o_asc rfl ?_
  refine ops_nil ?_
  refine W_seq ?_
  refine W_region ?_
  refine op_run (r_sliceA_lo rfl rfl rfl rfl (by decide) (by decide)) rfl ?_
  refine op_run (r_toArr rfl rfl (by decide)) rfl ?_
  refine op_run (r_loadA ((l.drop 8).map c8) rfl rfl rfl (by rw [List.length_map, List.length_drop, hl]; rfl) (hB1.from 8 (fun j hj => by simp))) rfl ?_
  refine op_run (r_build (cellC 0 (l.drop 8)) (_) ([(1, .agg ((l.drop 8).map c8).toArray)]) rfl rfl rfl rfl rfl (fill_snd (by kernel_rfl) rfl (by simp [hl]))) rfl ?_
  refine o_box (cs := cellC 0 (l.drop 8)) rfl rfl rfl ?_; intro w6 b6 e6 hB6 hk6 hs6
  refine o_ast rfl ?_
  refine ops_nil ?_
  refine W_seq ?_
  refine W_seq ?_
  refine W_region ?_
  refine op_run (r_sliceA_hi rfl rfl rfl rfl (by decide) (by decide)) rfl ?_
  refine op_run (r_len rfl rfl rfl) rfl ?_
  refine o_mvc rfl ?_
  refine ops_nil ?_
  refine W_block ?_
  refine W_loop [13] [5, 13, 14, 15, 16, 17, 18, 19, 20, 21, 22, 23, 24, 25, 26, 27, 28] (fun vs w' => ∃ k : Nat, vs = [.int .i64 k] ∧ k ≤ 8 ∧ Blk w' b6 (cellC (unbe (l.take k)) (l.drop 8)) 56 ∧ Keep (· ≠ b6) w6 w') (fun vs _ => match vs with | [.int _ k] => 8 - k.toNat | _ => 0) ⟨0, rfl, by omega, hB6, Keep.refl _⟩ ?_
  rintro J vs w7 ⟨k, rfl, hk, hB, hkw⟩ -
  refine W_seq ?_
  refine W_region ?_
  refine op_run (r_lss rfl rfl) rfl ?_
  refine ops_nil ?_
  refine W_seq ?_
  refine W_cond_p rfl (fun h9 => ?_) (fun h9 => ?_)
  · refine W_skip ?_
    refine W_seq ?_
    refine W_block ?_
    refine W_seq ?_
    refine W_region ?_
    have hk8 : k < 8 := by have := of_decide_eq_true (show decide ((k : Int) < 8) = true from decide_eq_true h9); omega
    have hinc := inc64 k (by omega)
    have hget : (l.map c8)[k]? = some (c8 (l[k]'(by omega))) := get_c8 (by omega)
    have hb1 := hkw.blk' (hk6.blk' hB1 trivial) (by have := hB1.lt; show b1 ≠ b6; have := hk6.size; omega)
    have hstep : unbe (l.take (k + 1)) = unbe (l.take k) * 256 + (l[k]'(by omega)).toNat := by
      rw [List.take_succ_eq_append_getElem (by omega), unbe_snoc]
    have hlt : unbe (l.take k) < 256 ^ 7 := by
      refine Nat.lt_of_lt_of_le (unbe_lt _) (Nat.pow_le_pow_right (by omega) ?_)
      rw [List.length_take]; omega
    refine op_run (r_idxS1 rfl rfl rfl rfl (by omega) (by omega)) rfl ?_
    refine op_run (r_load rfl rfl rfl (hb1.cell (by simpa using hget))) rfl ?_
    refine o_ast rfl ?_
    refine ops_nil ?_
    refine W_region ?_
    refine o_mvt rfl ?_
    refine o_mvt rfl ?_
    refine op_run (r_nilCheck rfl) rfl ?_
    refine op_run (r_fieldAddr rfl rfl rfl rfl rfl) rfl ?_
    refine op_run (r_load rfl rfl rfl (hB.cell rfl)) rfl ?_
    refine op_run (r_shl rfl rfl (by decide)) rfl ?_
    refine o_mvt rfl ?_
    refine op_run (r_conv rfl rfl rfl) rfl ?_
    refine op_run (r_or rfl rfl) rfl ?_
    refine op_run (r_nilCheck rfl) rfl ?_
    refine op_run (r_fieldAddr rfl rfl rfl rfl rfl) rfl ?_
    refine o_store (v := .int .u64 (unbe (l.take (k + 1)) : Nat)) rfl (.trans rfl (congrArg (Value.int .u64) ((sh_or _ _ hlt).trans (by rw [hstep])))) rfl rfl hB (by exact Nat.zero_lt_succ _) rfl ?_; intro w13 hB13 hk13 hs13
    refine ops_nil ?_
    refine W_region ?_
    refine op_run (r_add rfl rfl) rfl ?_
    refine o_mvt rfl ?_
    refine ops_nil ?_
    refine ⟨by (repeat (first | with_reducible exact offM_refl _ _ | refine offM_updc rfl ?_ | refine offM_upd rfl ?_ | refine offM_updo rfl ?_ | refine offM_updo_none ?_ | refine offM_head rfl rfl ?_)), ⟨k + 1, ?_, by omega, hB13, hkw.trans hk13⟩, ?_⟩
    · rw [← hinc]; rfl
    · show 8 - (IntKind.i64.wrap ((k : Int) + 1)).toNat < 8 - (k : Int).toNat
      rw [hinc]; omega
  · refine W_exit ?_
    refine W_seq ?_
    refine W_region ?_
    refine o_mvt rfl ?_
    refine o_ast rfl ?_
    refine ops_nil ?_
    refine W_ret ?_
    refine ret1 (.pointer (some ⟨b6, 0, none⟩)) rfl ?_ ?_; rfl
    have hk8 : k = 8 := by have := of_decide_eq_false (show decide ((k : Int) < 8) = false from decide_eq_false h9); omega
    subst hk8
    exact ⟨b6, rfl, by have := hk1.size; omega, hB, ((hk1.trans hk6).new hkw (by have := hk1.size; omega))⟩
theorem cell_Get (w : World) (b n : Nat) (d : List UInt8) (hd : d.length = 32) (hb : Blk w b (cellC n d) 56) :
    Ret Try.prog 20 [.pointer (some ⟨b, 0, none⟩)].toArray w fun r w' => r = .tuple #[.int .u64 n, .agg (d.map c8).toArray] ∧ Keep All w w' := by
  refine enter (fn := Try.f20) (n := 12) Try.func20 rfl rfl (by simp) ?_
  refine W_seq ?_
  refine W_region ?_
  refine o_asc rfl ?_
  refine o_alloc rfl rfl rfl ?_; intro w1 b1 e1 hB1 hk1 hs1
  refine ops_nil ?_
  refine W_seq ?_
  refine W_held (fun w' => Blk w' b (cellC n d) 56) (by kernel_rfl) (hk1.blk' hb trivial) (fun hS => ?_)
  refine any_mvt 0 rfl (by kernel_rfl) (by kernel_rfl) (by kernel_rfl) rfl hS ?_
  refine any_run 1 (fun w' hS' => (r_nilCheck rfl)) rfl (by kernel_rfl) (by kernel_rfl) (by kernel_rfl) rfl hS ?_
  refine any_run 2 (fun w' hS' => (r_fieldAddr rfl rfl rfl rfl rfl)) rfl (by kernel_rfl) (by kernel_rfl) (by kernel_rfl) rfl hS ?_
  refine any_run 3 (fun w' hS' => (r_load rfl rfl rfl (hS'.cell rfl))) rfl (by kernel_rfl) (by kernel_rfl) (by kernel_rfl) rfl hS ?_
  refine any_mvt 4 rfl (by kernel_rfl) (by kernel_rfl) (by kernel_rfl) rfl hS ?_
  refine any_run 5 (fun w' hS' => (r_nilCheck rfl)) rfl (by kernel_rfl) (by kernel_rfl) (by kernel_rfl) rfl hS ?_
  refine any_run 6 (fun w' hS' => (r_fieldAddr rfl rfl rfl rfl rfl)) rfl (by kernel_rfl) (by kernel_rfl) (by kernel_rfl) rfl hS ?_
  refine any_run 7 (fun w' hS' => (r_loadA (d.map c8) rfl rfl rfl (by rw [List.length_map, hd]; rfl) (hS'.from 1 (fun j hj => by simp [cellC, Nat.add_comm])))) rfl (by kernel_rfl) (by kernel_rfl) (by kernel_rfl) rfl hS ?_
  refine any_ast 8 rfl (by kernel_rfl) (by kernel_rfl) (by kernel_rfl) rfl hS ?_
  refine any_one 9 (by kernel_rfl) (one_of rfl ?_)
  refine o_storeA (cs := d.map c8) rfl rfl (all_c8 _) (by rw [List.length_map, hd]; rfl) ((Keep.drawn w1).blk' hB1 trivial) (by simp [hd]) rfl ?_; intro w5 hB5 hk5 hs5
  refine ops_nil ⟨hk5.get hS (by have := hb.lt; show b ≠ b1; omega), fun hS => ?_⟩
  refine any_done (by kernel_rfl) ?_
  refine W_ret ?_
  refine retTA _ (d.map c8) rfl rfl rfl rfl rfl (by rw [List.length_map, hd]; rfl) (by rw [splice_all (by simp [hd])] at hB5; exact hB5.all) ?_
  exact ⟨rfl, (hk1.trans (Keep.drawn w1)).new hk5 (by omega)⟩

theorem cell_Bytes (w : World) (b n : Nat) (d : List UInt8) (hd : d.length = 32) (hb : Blk w b (cellC n d) 56) :
    Ret Try.prog 21 [.pointer (some ⟨b, 0, none⟩)].toArray w fun r w' => r = .agg ((be8 n ++ d).map c8).toArray ∧ Keep All w w' := by
  have hbl : (be8 n).length = 8 := rfl
  refine enter (fn := Try.f21) (n := 26) Try.func21 rfl rfl (by simp) ?_
  refine W_seq ?_
  refine W_region ?_
  refine o_alloc rfl rfl rfl ?_; intro w1 b1 e1 hB1 hk1 hs1
  refine ops_nil ?_
  refine W_seq ?_
  refine W_seq ?_
  refine W_region ?_
  refine o_mvc rfl ?_
  refine ops_nil ?_
  refine W_block ?_
  have hbb : b ≠ b1 := by have := hb.lt; omega
  refine W_loop [4] [3, 4, 5, 6, 7, 8, 9, 10, 11, 12, 13, 14, 15, 16, 17, 18] (fun vs w' => ∃ (k : Nat) (l : List Value), vs = [.int .i64 k] ∧ k ≤ 8 ∧ Blk w' b1 l 40 ∧ l.length = 40 ∧ (∀ i, i < k → l[i]? = ((be8 n).map c8)[i]?) ∧ Keep (· ≠ b1) w1 w') (fun vs _ => match vs with | [.int _ k] => 8 - k.toNat | _ => 0) ⟨0, _, rfl, by omega, hB1, rfl, (fun i h => by omega), Keep.refl _⟩ ?_
  rintro J vs w2 ⟨k, l, rfl, hk, hB, hl, hall, hkw⟩ -
  have hcb := hkw.blk' (hk1.blk' hb trivial) hbb
  refine W_seq ?_
  refine W_region ?_
  refine op_run (r_lss rfl rfl) rfl ?_
  refine ops_nil ?_
  refine W_seq ?_
  refine W_cond_p rfl (fun h3 => ?_) (fun h3 => ?_)
  · refine W_skip ?_
    refine W_seq ?_
    refine W_block ?_
    refine W_seq ?_
    refine W_region ?_
    refine o_mvt rfl ?_
    refine o_ast rfl ?_
    refine ops_nil ?_
    refine W_region ?_
    refine o_mvt rfl ?_
    refine o_mvt rfl ?_
    refine op_run (r_nilCheck rfl) rfl ?_
    refine op_run (r_fieldAddr rfl rfl rfl rfl rfl) rfl ?_
    have hk8 : k < 8 := by have := of_decide_eq_true (show decide ((k : Int) < 8) = true from decide_eq_true h3); omega
    have hinc := inc64 k (by omega)
    refine op_run (r_load rfl rfl rfl (hcb.cell rfl)) rfl ?_
    refine o_mvt rfl ?_
    refine op_run (r_sub rfl rfl) rfl ?_
    refine op_run (r_mul rfl rfl) rfl ?_
    refine op_run (r_shr rfl rfl (by rw [wrap_i64 (n := 7 - (k : Int)) (by omega) (by omega), wrap_i64 (by omega) (by omega)]; omega)) rfl ?_
    refine op_run (r_conv rfl rfl rfl) rfl ?_
    refine op_run (r_idxA1 rfl rfl rfl rfl (by omega) (by omega)) rfl ?_
    refine o_store (v := c8 ((be8 n)[k]'(by omega))) rfl (.trans rfl (congrArg (Value.int .u8) (be8_at n k hk8))) rfl rfl hB (by rw [hl]; show 0 + (k : Int).toNat < 40; omega) rfl ?_; intro w7 hB7 hk7 hs7
    refine ops_nil ?_
    refine W_region ?_
    refine op_run (r_add rfl rfl) rfl ?_
    refine o_mvt rfl ?_
    refine ops_nil ?_
    refine ⟨by (repeat (first | with_reducible exact offM_refl _ _ | refine offM_updc rfl ?_ | refine offM_upd rfl ?_ | refine offM_updo rfl ?_ | refine offM_updo_none ?_ | refine offM_head rfl rfl ?_)), ⟨k + 1, _, ?_, by omega, hB7, by rw [List.length_set, hl], ?_, hkw.trans hk7⟩, ?_⟩
    · rw [← hinc]; rfl
    · intro i hi
      rw [show 0 + (k : Int).toNat = k by omega]
      by_cases e : k = i
      · subst e; rw [List.getElem?_set_self (by omega), get_c8 (by omega)]
      · rw [List.getElem?_set_ne e]; exact hall i (by omega)
    · show 8 - (IntKind.i64.wrap ((k : Int) + 1)).toNat < 8 - (k : Int).toNat
      rw [hinc]; omega
  · refine W_exit ?_
    refine W_seq ?_
    have hk8 : k = 8 := by have := of_decide_eq_false (show decide ((k : Int) < 8) = false from decide_eq_false h3); omega
    subst hk8
    refine W_tail 5 (by kernel_rfl) (by kernel_rfl) ?_; intro w9 hk9 hs9
    refine q_run (still1 (r_sliceA_lo rfl rfl rfl rfl (by decide) (by decide))) rfl ?_
    refine q_mvt rfl ?_
    refine q_run (still1 (r_nilCheck rfl)) rfl ?_
    refine q_run (still1 (r_fieldAddr rfl rfl rfl rfl rfl)) rfl ?_
    refine q_run (still1 (r_sliceA rfl rfl rfl)) rfl ?_
    refine q_nil ?_
    refine o_copy (cs := d.map c8) rfl rfl ((hk9.blk' hcb trivial).sl (by simpa using hd) (by unfold maxLen; omega) (fun j hj => by simp [cellC, Nat.add_comm])) rfl rfl ((hk9.blk' hB trivial)) (by rw [hl]; decide) (all_c8 _) rfl ?_; intro w11 hB11 hk11 hs11
    refine ops_nil ?_
    refine W_seq ?_
    refine W_region ?_
    have hfin : splice l (0 + (8 : Int).toNat * 1) ((d.map c8).take (min 32 (40 - (8 : Int).toNat))) = (be8 n ++ d).map c8 := by
      have e1 : l.take 8 = (be8 n).map c8 := by
        apply List.ext_getElem?
        intro i
        rw [List.getElem?_take]
        split
        · exact hall i (by omega)
        · rw [List.getElem?_eq_none]; simp [hbl]; omega
      show l.take 8 ++ (d.map c8).take 32 ++ l.drop (8 + ((d.map c8).take 32).length) = _
      rw [e1, List.take_of_length_le (by simp [hd]), List.drop_eq_nil_of_le (by simp [hd, hl])]
      simp
    have hB11 : Blk w11 b1 (splice l (0 + (8 : Int).toNat * 1) ((d.map c8).take (min 32 (40 - (8 : Int).toNat)))) 40 := hB11
    rw [hfin] at hB11
    have hlen : ((be8 n ++ d).map c8).length = 40 := by simp [hd, hbl]
    refine op_run (r_loadA ((be8 n ++ d).map c8) rfl rfl rfl (by rw [hlen]; rfl) hB11.all) rfl ?_
    refine o_storeA (cs := (be8 n ++ d).map c8) rfl rfl (all_c8 _) (by rw [hlen]; rfl) hB11 (by omega) rfl ?_; intro w13 hB13 hk13 hs13
    refine ops_nil ?_
    refine W_ret ?_
    refine retA ((be8 n ++ d).map c8) rfl rfl rfl rfl (by rw [hlen]; rfl) (by rw [splice_all rfl] at hB13; exact hB13.all) ?_
    exact ⟨rfl, hk1.new (((hkw.trans hk9.all).trans hk11).trans hk13) (by omega)⟩

theorem cell_Advance (w : World) (b n : Nat) (d e : List UInt8) (hd : d.length = 32) (he : e.length = 32) (hn : n < 2 ^ 64) (hb : Blk w b (cellC n d) 56) :
    Ret Try.prog 26 [.pointer (some ⟨b, 0, none⟩), .agg (e.map c8).toArray].toArray w fun r w' =>
      if n = 18446744073709551615 then r = .int .i64 9 ∧ Keep All w w' else r = .int .i64 0 ∧ Blk w' b (cellC (n + 1) e) 56 ∧ Keep (· ≠ b) w w' := by
  have hbl := hb.lt
  refine enter (fn := Try.f26) (n := 19) Try.func26 rfl rfl (by simp) ?_
  refine W_seq ?_
  refine W_region ?_
  refine o_box (cs := e.map c8) rfl rfl rfl ?_; intro w1 b1 e1 hB1 hk1 hs1
  refine o_asc rfl ?_
  refine ops_nil ?_
  refine W_seq ?_
  refine W_seq ?_
  refine W_region ?_
  refine o_mvt rfl ?_
  refine op_run (r_nilCheck rfl) rfl ?_
  refine op_run (r_fieldAddr rfl rfl rfl rfl rfl) rfl ?_
  refine op_run (r_load rfl rfl rfl ((hk1.blk' hb trivial).cell rfl)) rfl ?_
  refine op_run (r_eql rfl rfl) rfl ?_
  refine ops_nil ?_
  refine W_cond_p rfl (fun h3 => ?_) (fun h3 => ?_)
  · refine W_seq ?_
    refine W_region ?_
    refine o_asc rfl ?_
    refine ops_nil ?_
    refine W_ret ?_
    refine ret1 (.int .i64 9) rfl ?_ ?_; rfl
    have hm : n = 18446744073709551615 := by have := of_decide_eq_true (show decide ((n : Int) = 18446744073709551615) = true from decide_eq_true h3); omega
    rw [if_pos hm]; exact ⟨rfl, hk1⟩
  · refine W_skip ?_
    refine W_seq ?_
    have hm : n ≠ 18446744073709551615 := by have := of_decide_eq_false (show decide ((n : Int) = 18446744073709551615) = false from decide_eq_false h3); omega
    have hw : IntKind.u64.wrap ((n : Int) + 1) = ((n + 1 : Nat) : Int) := by rw [wrap_u64]; omega
    refine W_tail 9 (by kernel_rfl) (by kernel_rfl) ?_; intro w5 hk5 hs5
    refine q_mvt rfl ?_
    refine q_mvt rfl ?_
    refine q_run (still1 (r_nilCheck rfl)) rfl ?_
    refine q_run (still1 (r_fieldAddr rfl rfl rfl rfl rfl)) rfl ?_
    refine q_run (still1 (r_load rfl rfl rfl ((hk5.blk' (hk1.blk' hb trivial) trivial).cell rfl))) rfl ?_
    refine q_run (still1 ((r_add rfl rfl).val (congrArg (Value.int .u64) hw))) rfl ?_
    refine q_run (still1 (r_loadA (e.map c8) rfl rfl rfl (by rw [List.length_map, he]; rfl) (hk5.blk' hB1 trivial).all)) rfl ?_
    refine q_run (still1 (r_build (cellC (n + 1) e) (_) ([(0, .int .u64 ((n + 1 : Nat) : Int)), (1, .agg (e.map c8).toArray)]) rfl rfl rfl rfl rfl (fill_two (by kernel_rfl) rfl rfl (by simpa using he)))) rfl ?_
    refine q_run (still1 (r_nilCheck rfl)) rfl ?_
    refine q_nil ?_
    refine o_storeA (cs := cellC (n + 1) e) rfl rfl (cellC_one _ _) (by rw [show (cellC (n + 1) e).length = 33 by simp [cellC, he]]; rfl) (hk5.blk' (hk1.blk' hb trivial) trivial) (by simp [cellC, hd, he]) rfl ?_; intro w9 hB9 hk9 hs9
    refine ops_nil ?_
    refine W_seq ?_
    refine W_region ?_
    refine o_asc rfl ?_
    refine ops_nil ?_
    refine W_ret ?_
    refine ret1 (.int .i64 0) rfl ?_ ?_; rfl
    rw [if_neg hm]
    rw [splice_all (by simp [cellC, hd, he])] at hB9
    exact ⟨rfl, hB9, (hk1.trans hk5).all.trans hk9⟩
end Go.Proofs.Ythjmobiidlolhaa.B
