/-
  sporranref12.Named, sporranref15: may, Changes, add, Event.
-/
import Derived.Test.YtkckphbdjkjfgaaImgP
import Derived.Sort.Walk0
namespace Go.Proofs.Ytkckphbdjkjfgaa.B
open Go
set_option linter.unusedVariables false
set_option maxHeartbeats 2000000
set_option maxRecDepth 100000
attribute [local irreducible] W OpsW OpsQ retP
section
variable {P : Program} {F : Fr} {w : World} {dst : Option Tmp} {ty : TypeId} {pos : String} {after : Array Edge} {g : Option (Nat × Bool)}
theorem r_lssStr {t t' : TypeId} {x y : Operand} {a b : List UInt8} (hx : ev F x = .string ⟨a.toArray⟩) (hy : ev F y = .string ⟨b.toArray⟩) : Run1 P F ⟨dst, .binOp .lss t x y t', ty, pos, after, g⟩ w (.bool (decide (a < b))) w := by
  unfold Run1
  simp [execOp, hx, hy, eqGuard, binOp, Op.stringOp, ByteArray.toList_eq, Go.Proofs.bytesLess_eq]
end
theorem rf12_Named (w : World) (bs : List UInt8) (hl : bs.length ≤ 2 ^ 40) : Ret Try.prog 46 [strA bs].toArray w fun r w' => r = .bool (decide (namedB bs)) ∧ w' = w := by
  have hsz := baSize bs
  refine enter (fn := Try.f46) (n := 28) Try.func46 rfl rfl (by simp) ?_
  refine W_seq ?_
  refine W_region ?_
  refine o_asc rfl ?_
  refine ops_nil ?_
  refine W_seq ?_
  refine W_seq ?_
  refine W_region ?_
  refine o_asc rfl ?_
  refine ops_nil ?_
  refine W_block ?_
  refine W_loop [3] [2, 3, 4, 5, 6, 7, 8, 9, 10, 11, 12, 13, 14, 15, 16, 17, 18, 19] (fun vs w' => ∃ k : Nat, vs = [.int .i64 k] ∧ k ≤ bs.length ∧ (∀ x ∈ bs.take k, ¬ (x.toNat ≤ 32 ∨ 126 < x.toNat)) ∧ w' = w) (fun vs _ => match vs with | [.int _ y] => bs.length - y.toNat | _ => 0) ⟨0, rfl, Nat.zero_le _, (fun x h => by cases h), rfl⟩ ?_
  rintro J1 vs w1 ⟨k, rfl, hk, hgood, rfl⟩ -
  refine W_seq ?_
  refine W_seq ?_
  refine W_region ?_
  refine o_mvt rfl ?_
  refine o_mvt rfl ?_
  refine op_run (r_len_str rfl rfl rfl) rfl ?_
  refine op_run (r_lss rfl rfl) rfl ?_
  refine ops_nil ?_
  refine W_cond_p rfl (fun h2 => ?_) (fun h2 => ?_)
  · refine W_skip ?_
    refine W_seq ?_
    have hkl : k < bs.length := by rw [hsz] at h2; omega
    obtain ⟨x, hx⟩ : ∃ x, bs[k]? = some x := ⟨_, List.getElem?_eq_getElem hkl⟩
    have hxa : (⟨bs.toArray⟩ : ByteArray)[((k : Nat) : Int).toNat]? = some x := by rw [Int.toNat_natCast]; exact baGet hx
    have hinc := inc64' k (by omega)
    refine W_block ?_
    refine W_cut [19] [10, 11, 12, 13, 14, 15, 16, 17, 18, 19] (fun vs w3 => vs = [.bool (decide (x.toNat ≤ 32 ∨ 126 < x.toNat))] ∧ w3 = w1) ?_ ?_
    · refine W_region ?_
      refine o_mvt rfl ?_
      refine o_mvt rfl ?_
      refine op_run (r_indexStr (b := x) rfl rfl rfl (by omega) (hxa)) rfl ?_
      refine op_run (r_lss rfl rfl) rfl ?_
      refine o_mvt rfl ?_
      refine g_split rfl rfl rfl (fun g5 => ?_) (fun g5 => ?_)
      · refine o_mvt (g_yes rfl rfl rfl g5) ?_
        refine o_mvt (g_yes rfl rfl rfl g5) ?_
        refine op_run (r_indexStr (b := x) rfl rfl rfl (by omega) (hxa)) (g_yes rfl rfl rfl g5) ?_
        refine op_run (r_gtr rfl rfl) (g_yes rfl rfl rfl g5) ?_
        refine o_pkFt rfl g5 rfl ?_
        refine ops_nil ?_
        exact ⟨by (repeat (first | with_reducible exact offM_refl _ _ | refine offM_updc rfl ?_ | refine offM_upd rfl ?_ | refine offM_updo rfl ?_ | refine offM_updo_none ?_ | refine offM_head rfl rfl ?_)), congrArg (fun b => [Value.bool b]) (by have g := of_decide_eq_false g5; rw [decide_eq_decide]; constructor <;> intro h <;> omega), rfl⟩
      · refine op_skip (g_no rfl rfl rfl g5) ?_
        refine op_skip (g_no rfl rfl rfl g5) ?_
        refine op_skip (g_no rfl rfl rfl g5) ?_
        refine op_skip (g_no rfl rfl rfl g5) ?_
        refine o_pkTc rfl g5 rfl ?_
        refine ops_nil ?_
        exact ⟨by (repeat (first | with_reducible exact offM_refl _ _ | refine offM_updc rfl ?_ | refine offM_upd rfl ?_ | refine offM_updo rfl ?_ | refine offM_updo_none ?_ | refine offM_head rfl rfl ?_)), congrArg (fun b => [Value.bool b]) (by have g := of_decide_eq_true g5; symm; apply decide_eq_true; omega), rfl⟩
    · rintro J9 vs w9 ⟨rfl, rfl⟩ -
      refine W_cond_p rfl (fun h10 => ?_) (fun h10 => ?_)
      · refine W_seq ?_
        refine W_region ?_
        refine o_asc rfl ?_
        refine ops_nil ?_
        refine W_ret ?_
        refine ret1 (.bool false) rfl ?_ ?_; rfl
        exact ⟨congrArg Value.bool (decide_eq_false fun h => h.1 x (List.mem_of_getElem? hx) h10).symm, rfl⟩
      · refine W_skip ?_
        refine W_region ?_
        refine o_mvt rfl ?_
        refine op_run (r_add rfl rfl) rfl ?_
        refine o_ast rfl ?_
        refine ops_nil ?_
        refine ⟨by (repeat (first | with_reducible exact offM_refl _ _ | refine offM_updc rfl ?_ | refine offM_upd rfl ?_ | refine offM_updo rfl ?_ | refine offM_updo_none ?_ | refine offM_head rfl rfl ?_)), ⟨k + 1, congrArg (fun z : Int => [Value.int .i64 z]) hinc, by omega, fun y hy => ?_, rfl⟩, ?_⟩
        · rw [List.take_succ_eq_append_getElem hkl, (List.getElem?_eq_some_iff.1 hx).2] at hy
          rcases List.mem_append.1 hy with h | h
          · exact hgood y h
          · rw [List.mem_singleton.1 h]; exact h10
        · show bs.length - (IntKind.i64.wrap ((k : Int) + 1)).toNat < bs.length - (k : Int).toNat
          rw [hinc]; omega
  · refine W_exit ?_
    refine W_seq ?_
    refine W_region ?_
    refine o_mvt rfl ?_
    refine op_run (r_len_str rfl rfl rfl) rfl ?_
    refine op_run (r_geq rfl rfl) rfl ?_
    refine o_mvt rfl ?_
    have hke : k = bs.length := by rw [hsz] at h2; omega
    rw [hke, List.take_length] at hgood
    refine g_split rfl rfl rfl (fun g13 => ?_) (fun g13 => ?_)
    · refine o_mvt (g_yes rfl rfl rfl g13) ?_
      refine op_run (r_len_str rfl rfl rfl) (g_yes rfl rfl rfl g13) ?_
      refine op_run (r_leq rfl rfl) (g_yes rfl rfl rfl g13) ?_
      refine o_pkTt rfl g13 rfl ?_
      refine o_ast rfl ?_
      refine ops_nil ?_
      refine W_ret ?_
      refine ret1 (.bool (decide (((⟨bs.toArray⟩ : ByteArray).size : Int) ≤ 20))) rfl ?_ ?_; rfl
      have g13 := of_decide_eq_true g13
      rw [hsz] at g13 ⊢
      refine ⟨congrArg Value.bool ?_, rfl⟩
      rw [decide_eq_decide]
      unfold namedB
      constructor
      · intro h
        exact ⟨hgood, fun e => by rw [e] at g13; simp at g13, by omega⟩
      · intro h; have := h.2.2; omega
    · refine op_skip (g_no rfl rfl rfl g13) ?_
      refine op_skip (g_no rfl rfl rfl g13) ?_
      refine op_skip (g_no rfl rfl rfl g13) ?_
      refine o_pkFc rfl g13 rfl ?_
      refine o_ast rfl ?_
      refine ops_nil ?_
      refine W_ret ?_
      refine ret1 (.bool false) rfl ?_ ?_; rfl
      have g13 := of_decide_eq_false g13
      rw [hsz] at g13
      refine ⟨congrArg Value.bool (decide_eq_false ?_).symm, rfl⟩
      intro h
      exact h.2.1 (List.eq_nil_of_length_eq_zero (by omega))
theorem rf15_may (w : World) (nm : List UInt8) (q : Int) (hl : nm.length ≤ 2 ^ 40) : Ret Try.prog 33 [strA nm, .int .i64 q].toArray w fun r w' => r = .bool (decide (namedB nm ∧ 0 ≤ q ∧ q ≤ 1048576)) ∧ w' = w := by
  refine enter (fn := Try.f33) (n := 15) Try.func33 rfl rfl (by simp) ?_
  refine W_seq ?_
  refine W_region ?_
  refine o_asc rfl ?_
  refine ops_nil ?_
  refine W_seq ?_
  refine W_region ?_
  refine o_mvt rfl ?_
  refine op_call rfl rfl rfl (rf12_Named w nm hl) ?_; rintro v1 w1 ⟨rfl, rfl⟩
  refine o_mvt rfl ?_
  refine g_split rfl rfl rfl (fun g2 => ?_) (fun g2 => ?_)
  · refine o_mvt (g_yes rfl rfl rfl g2) ?_
    refine op_run (r_geq rfl rfl) (g_yes rfl rfl rfl g2) ?_
    refine o_pkTt rfl g2 rfl ?_
    refine o_mvt rfl ?_
    refine g_split rfl rfl rfl (fun g3 => ?_) (fun g3 => ?_)
    · refine o_mvt (g_yes rfl rfl rfl g3) ?_
      refine op_run (r_leq rfl rfl) (g_yes rfl rfl rfl g3) ?_
      refine o_pkTt rfl g3 rfl ?_
      refine o_ast rfl ?_
      refine ops_nil ?_
      refine W_ret ?_
      refine ret1 (.bool (decide (q ≤ 1048576))) rfl ?_ ?_; rfl
      have g2 := of_decide_eq_true g2
      have g3 := of_decide_eq_true g3
      exact ⟨congrArg Value.bool (by rw [decide_eq_decide]; exact ⟨fun h => ⟨g2, by omega, h⟩, fun h => h.2.2⟩), rfl⟩
    · refine op_skip (g_no rfl rfl rfl g3) ?_
      refine op_skip (g_no rfl rfl rfl g3) ?_
      refine o_pkFc rfl g3 rfl ?_
      refine o_ast rfl ?_
      refine ops_nil ?_
      refine W_ret ?_
      refine ret1 (.bool false) rfl ?_ ?_; rfl
      have g3 := of_decide_eq_false g3
      exact ⟨congrArg Value.bool (decide_eq_false fun h => by have := h.2.1; omega).symm, rfl⟩
  · refine op_skip (g_no rfl rfl rfl g2) ?_
    refine op_skip (g_no rfl rfl rfl g2) ?_
    refine o_pkFc rfl g2 rfl ?_
    refine o_mvt rfl ?_
    refine op_skip (g_no rfl rfl rfl rfl) ?_
    refine op_skip (g_no rfl rfl rfl rfl) ?_
    refine o_pkFc rfl rfl rfl ?_
    refine o_ast rfl ?_
    refine ops_nil ?_
    refine W_ret ?_
    refine ret1 (.bool false) rfl ?_ ?_; rfl
    have g2 := of_decide_eq_false g2
    exact ⟨congrArg Value.bool (decide_eq_false fun h => g2 h.1).symm, rfl⟩
theorem rf15_Changes (w : World) (k : Int) : Ret Try.prog 22 [.int .i64 k].toArray w fun r w' => r = .bool (decide (chgD k)) ∧ w' = w := by
  refine enter (fn := Try.f22) (n := 25) Try.func22 rfl rfl (by simp) ?_
  refine W_seq ?_
  refine W_region ?_
  refine o_asc rfl ?_
  refine ops_nil ?_
  refine W_seq ?_
  refine W_region ?_
  refine o_mvt rfl ?_
  refine op_run (r_eql rfl rfl) rfl ?_
  refine o_mvt rfl ?_
  refine g_split rfl rfl rfl (fun g1 => ?_) (fun g1 => ?_)
  · refine o_mvt (g_yes rfl rfl rfl g1) ?_
    refine op_run (r_eql rfl rfl) (g_yes rfl rfl rfl g1) ?_
    refine o_pkFt rfl g1 rfl ?_
    refine o_mvt rfl ?_
    refine g_split rfl rfl rfl (fun g2 => ?_) (fun g2 => ?_)
    · refine o_mvt (g_yes rfl rfl rfl g2) ?_
      refine op_run (r_eql rfl rfl) (g_yes rfl rfl rfl g2) ?_
      refine o_pkFt rfl g2 rfl ?_
      refine o_mvt rfl ?_
      refine g_split rfl rfl rfl (fun g3 => ?_) (fun g3 => ?_)
      · refine o_mvt (g_yes rfl rfl rfl g3) ?_
        refine op_run (r_eql rfl rfl) (g_yes rfl rfl rfl g3) ?_
        refine o_pkFt rfl g3 rfl ?_
        refine o_mvt rfl ?_
        refine g_split rfl rfl rfl (fun g4 => ?_) (fun g4 => ?_)
        · refine o_mvt (g_yes rfl rfl rfl g4) ?_
          refine op_run (r_eql rfl rfl) (g_yes rfl rfl rfl g4) ?_
          refine o_pkFt rfl g4 rfl ?_
          refine o_mvt rfl ?_
          refine g_split rfl rfl rfl (fun g5 => ?_) (fun g5 => ?_)
          · refine o_mvt (g_yes rfl rfl rfl g5) ?_
            refine op_run (r_eql rfl rfl) (g_yes rfl rfl rfl g5) ?_
            refine o_pkFt rfl g5 rfl ?_
            refine o_ast rfl ?_
            refine ops_nil ?_
            refine W_ret ?_
            refine ret1 (.bool (decide (k = 7))) rfl ?_ ?_; rfl
            have g1 := of_decide_eq_false g1
            have g2 := of_decide_eq_false g2
            have g3 := of_decide_eq_false g3
            have g4 := of_decide_eq_false g4
            have g5 := of_decide_eq_false g5
            exact ⟨congrArg Value.bool (by rw [decide_eq_decide]; unfold chgD; constructor <;> intro h <;> omega), rfl⟩
          · refine op_skip (g_no rfl rfl rfl g5) ?_
            refine op_skip (g_no rfl rfl rfl g5) ?_
            refine o_pkTc rfl g5 rfl ?_
            refine o_ast rfl ?_
            refine ops_nil ?_
            refine W_ret ?_
            refine ret1 (.bool true) rfl ?_ ?_; rfl
            have g := of_decide_eq_true g5
            exact ⟨congrArg Value.bool (decide_eq_true (by unfold chgD; omega)).symm, rfl⟩
        · refine op_skip (g_no rfl rfl rfl g4) ?_
          refine op_skip (g_no rfl rfl rfl g4) ?_
          refine o_pkTc rfl g4 rfl ?_
          refine o_mvt rfl ?_
          refine op_skip (g_no rfl rfl rfl rfl) ?_
          refine op_skip (g_no rfl rfl rfl rfl) ?_
          refine o_pkTc rfl rfl rfl ?_
          refine o_ast rfl ?_
          refine ops_nil ?_
          refine W_ret ?_
          refine ret1 (.bool true) rfl ?_ ?_; rfl
          have g := of_decide_eq_true g4
          exact ⟨congrArg Value.bool (decide_eq_true (by unfold chgD; omega)).symm, rfl⟩
      · refine op_skip (g_no rfl rfl rfl g3) ?_
        refine op_skip (g_no rfl rfl rfl g3) ?_
        refine o_pkTc rfl g3 rfl ?_
        refine o_mvt rfl ?_
        refine op_skip (g_no rfl rfl rfl rfl) ?_
        refine op_skip (g_no rfl rfl rfl rfl) ?_
        refine o_pkTc rfl rfl rfl ?_
        refine o_mvt rfl ?_
        refine op_skip (g_no rfl rfl rfl rfl) ?_
        refine op_skip (g_no rfl rfl rfl rfl) ?_
        refine o_pkTc rfl rfl rfl ?_
        refine o_ast rfl ?_
        refine ops_nil ?_
        refine W_ret ?_
        refine ret1 (.bool true) rfl ?_ ?_; rfl
        have g := of_decide_eq_true g3
        exact ⟨congrArg Value.bool (decide_eq_true (by unfold chgD; omega)).symm, rfl⟩
    · refine op_skip (g_no rfl rfl rfl g2) ?_
      refine op_skip (g_no rfl rfl rfl g2) ?_
      refine o_pkTc rfl g2 rfl ?_
      refine o_mvt rfl ?_
      refine op_skip (g_no rfl rfl rfl rfl) ?_
      refine op_skip (g_no rfl rfl rfl rfl) ?_
      refine o_pkTc rfl rfl rfl ?_
      refine o_mvt rfl ?_
      refine op_skip (g_no rfl rfl rfl rfl) ?_
      refine op_skip (g_no rfl rfl rfl rfl) ?_
      refine o_pkTc rfl rfl rfl ?_
      refine o_mvt rfl ?_
      refine op_skip (g_no rfl rfl rfl rfl) ?_
      refine op_skip (g_no rfl rfl rfl rfl) ?_
      refine o_pkTc rfl rfl rfl ?_
      refine o_ast rfl ?_
      refine ops_nil ?_
      refine W_ret ?_
      refine ret1 (.bool true) rfl ?_ ?_; rfl
      have g := of_decide_eq_true g2
      exact ⟨congrArg Value.bool (decide_eq_true (by unfold chgD; omega)).symm, rfl⟩
  · refine op_skip (g_no rfl rfl rfl g1) ?_
    refine op_skip (g_no rfl rfl rfl g1) ?_
    refine o_pkTc rfl g1 rfl ?_
    refine o_mvt rfl ?_
    refine op_skip (g_no rfl rfl rfl rfl) ?_
    refine op_skip (g_no rfl rfl rfl rfl) ?_
    refine o_pkTc rfl rfl rfl ?_
    refine o_mvt rfl ?_
    refine op_skip (g_no rfl rfl rfl rfl) ?_
    refine op_skip (g_no rfl rfl rfl rfl) ?_
    refine o_pkTc rfl rfl rfl ?_
    refine o_mvt rfl ?_
    refine op_skip (g_no rfl rfl rfl rfl) ?_
    refine op_skip (g_no rfl rfl rfl rfl) ?_
    refine o_pkTc rfl rfl rfl ?_
    refine o_mvt rfl ?_
    refine op_skip (g_no rfl rfl rfl rfl) ?_
    refine op_skip (g_no rfl rfl rfl rfl) ?_
    refine o_pkTc rfl rfl rfl ?_
    refine o_ast rfl ?_
    refine ops_nil ?_
    refine W_ret ?_
    refine ret1 (.bool true) rfl ?_ ?_; rfl
    have g := of_decide_eq_true g1
    exact ⟨congrArg Value.bool (decide_eq_true (by unfold chgD; omega)).symm, rfl⟩
theorem rf15_Event (w : World) (o : OpV) (hs : o.small) : Ret Try.prog 23 [.agg (opR o).toArray].toArray w fun r w' => OwnB w' 5 r (eventB o) ∧ InB (fun z => w.heap.size ≤ z) r ∧ Keep All w w' := by
  have hn1 := hs.1
  have hn2 := hs.2
  have hb1 := encB_len o.name (by omega)
  have hb2 := encB_len o.other (by omega)
  have hbl := o.block.2
  have he1 := encN_len10 (u64_lt o.kind)
  have he2 := encN_len10 (u64_lt o.number)
  have he3 := encN_len10 (u64_lt o.quota)
  refine enter (fn := Try.f23) (n := 37) Try.func23 rfl rfl (by simp) ?_
  refine W_seq ?_
  refine W_region ?_
  refine o_box rfl rfl rfl ?_; intro w1 b1 e1 hB1 hk1 hs1
  have hB1 : Blk w1 b1 (opR o) 26 := hB1
  refine o_asc rfl ?_
  refine ops_nil ?_
  refine W_seq ?_
  refine W_region ?_
  refine o_bs0 rfl rfl rfl ?_; intro w2 b2 e2 hB2 hk2 hs2
  refine op_run (r_fieldAddr rfl rfl rfl rfl rfl) rfl ?_
  refine op_run (r_load rfl rfl rfl ((hk2.blk' hB1 trivial).cell rfl)) rfl ?_
  refine op_run ((r_conv rfl rfl rfl).val (conv_u64 o.kind)) rfl ?_
  refine op_call rfl rfl rfl (ref01_Number w2 _ [] (u64 o.kind) (u64_lt _) (Own.blk hB2 rfl (Nat.zero_le _)) (by decide)) ?_; rintro v4 w4 ⟨hO4, hk4, hin4⟩
  have hkA := hk1.trans hk2
  have hk04 : Keep All w w4 := hkA.own hk4 (fun z hz _ => by have hz : some b2 = some z := hz; injection hz with hz; have := hk1.size; omega)
  have hB4 : Blk w4 b1 (opR o) 26 := hk4.blk' (hk2.blk' hB1 trivial) (fun e => by have e : some b1 = some b2 := e; injection e with e; have := hB1.lt; omega)
  have hi4 : InB (fun z => w1.heap.size ≤ z) v4 := hin4.mono fun z hz => by
    rcases hz with h | h
    · have h : some b2 = some z := h; injection h with h; omega
    · have := hk2.size; omega
  rw [List.nil_append] at hO4
  refine o_ast rfl ?_
  refine ops_nil ?_
  refine W_seq ?_
  refine W_region ?_
  refine o_mvt rfl ?_
  refine op_run (r_fieldAddr rfl rfl rfl rfl rfl) rfl ?_
  refine op_run (r_load rfl rfl rfl (hB4.cell rfl)) rfl ?_
  refine op_run ((r_conv rfl rfl rfl).val (conv_u64 o.number)) rfl ?_
  refine op_call rfl rfl rfl (ref01_Number w4 v4 _ (u64 o.number) (u64_lt _) hO4 (by omega)) ?_; rintro v6 w6 ⟨hO6, hk6, hin6⟩
  have hk06 : Keep All w w6 := hk04.own hk6 (fun z hz _ => by have := hi4 z hz; have := hk1.size; omega)
  have hB6 : Blk w6 b1 (opR o) 26 := hk6.blk' hB4 (fun e => by have := hi4 b1 e.symm; have := hB1.lt; omega)
  have hi6 : InB (fun z => w1.heap.size ≤ z) v6 := hin6.mono fun z hz => by
    rcases hz with h | h
    · exact hi4 z h
    · have := hk04.size; have := hk4.size; have := hk2.size; omega
  refine o_ast rfl ?_
  refine ops_nil ?_
  refine W_seq ?_
  refine W_region ?_
  refine o_mvt rfl ?_
  refine op_run (r_fieldAddr rfl rfl rfl rfl rfl) rfl ?_
  refine op_run (r_load rfl rfl rfl (hB6.cell rfl)) rfl ?_
  refine op_run ((r_conv rfl rfl rfl).val (conv_u64 o.quota)) rfl ?_
  refine op_call rfl rfl rfl (ref01_Number w6 v6 _ (u64 o.quota) (u64_lt _) hO6 (by rw [List.length_append]; omega)) ?_; rintro v8 w8 ⟨hO8, hk8, hin8⟩
  have hk08 : Keep All w w8 := hk06.own hk8 (fun z hz _ => by have := hi6 z hz; have := hk1.size; omega)
  have hB8 : Blk w8 b1 (opR o) 26 := hk8.blk' hB6 (fun e => by have := hi6 b1 e.symm; have := hB1.lt; omega)
  have hi8 : InB (fun z => w1.heap.size ≤ z) v8 := hin8.mono fun z hz => by
    rcases hz with h | h
    · exact hi6 z h
    · have := hk6.size; have := hk4.size; have := hk2.size; omega
  have e8 : (encN (u64 o.kind) ++ encN (u64 o.number)) ++ encN (u64 o.quota) = encE o 3 := by unfold encE numsE; simp
  rw [e8] at hO8
  have hpl := encE_len o 3
  refine o_ast rfl ?_
  refine ops_nil ?_
  refine W_seq ?_
  refine W_region ?_
  refine o_mvt rfl ?_
  refine op_run (r_fieldAddr rfl rfl rfl rfl rfl) rfl ?_
  refine op_run (r_load rfl rfl rfl (hB8.cell rfl)) rfl ?_
  refine o_strB rfl rfl rfl rfl (by unfold maxLen; omega) rfl ?_; intro w10 b10 c10 hby10 e10 hk10 hs10
  refine op_call rfl rfl rfl (ref01_Bytes w10 v8 (.slice (some ⟨b10, 0, none⟩) o.name.length c10) (encE o 3) o.name (hO8.keep hk10 (fun _ _ => trivial)) (fun w' hk => Sl.keep hby10 hk (fun z hz e => by have hz : some b10 = some z := hz; injection hz with hz; have := hO8.lt z e.symm; omega)) (by omega)) ?_; rintro v11 w11 ⟨hO11, hk11, hin11⟩
  have hk010 := hk08.trans hk10
  have hk011 : Keep All w w11 := hk010.own hk11 (fun z hz _ => by have := hi8 z hz; have := hk1.size; omega)
  have hB11 : Blk w11 b1 (opR o) 26 := hk11.blk' (hk10.blk' hB8 trivial) (fun e => by have := hi8 b1 e.symm; have := hB1.lt; omega)
  have hi11 : InB (fun z => w1.heap.size ≤ z) v11 := hin11.mono fun z hz => by
    rcases hz with h | h
    · exact hi8 z h
    · have := hk10.size; have := hk8.size; have := hk6.size; have := hk4.size; have := hk2.size; omega
  refine o_ast rfl ?_
  refine ops_nil ?_
  refine W_seq ?_
  refine W_region ?_
  refine o_mvt rfl ?_
  refine op_run (r_fieldAddr rfl rfl rfl rfl rfl) rfl ?_
  refine op_run (r_load rfl rfl rfl (hB11.cell rfl)) rfl ?_
  refine o_strB rfl rfl rfl rfl (by unfold maxLen; omega) rfl ?_; intro w13 b13 c13 hby13 e13 hk13 hs13
  refine op_call rfl rfl rfl (ref01_Bytes w13 v11 (.slice (some ⟨b13, 0, none⟩) o.other.length c13) (encE o 3 ++ encB o.name) o.other (hO11.keep hk13 (fun _ _ => trivial)) (fun w' hk => Sl.keep hby13 hk (fun z hz e => by have hz : some b13 = some z := hz; injection hz with hz; have := hO11.lt z e.symm; omega)) (by rw [List.length_append]; omega)) ?_; rintro v14 w14 ⟨hO14, hk14, hin14⟩
  have hk013 := hk011.trans hk13
  have hk014 : Keep All w w14 := hk013.own hk14 (fun z hz _ => by have := hi11 z hz; have := hk1.size; omega)
  have hB14 : Blk w14 b1 (opR o) 26 := hk14.blk' (hk13.blk' hB11 trivial) (fun e => by have := hi11 b1 e.symm; have := hB1.lt; omega)
  have hi14 : InB (fun z => w1.heap.size ≤ z) v14 := hin14.mono fun z hz => by
    rcases hz with h | h
    · exact hi11 z h
    · have := hk13.size; have := hk11.size; have := hk10.size; have := hk8.size; have := hk6.size; have := hk4.size; have := hk2.size; omega
  have hz1 := hk1.size
  refine o_ast rfl ?_
  refine ops_nil ?_
  refine W_seq ?_
  refine W_seq ?_
  refine W_region ?_
  refine op_run (r_fieldAddr rfl rfl rfl rfl rfl) rfl ?_
  refine op_run (r_load rfl rfl rfl (hB14.cell rfl)) rfl ?_
  refine op_run (r_eql rfl rfl) rfl ?_
  refine ops_nil ?_
  refine W_cond_p rfl (fun h16 => ?_) (fun h16 => ?_)
  · refine W_region ?_
    refine o_mvt rfl ?_
    refine op_run (r_fieldAddr rfl rfl rfl rfl rfl) rfl ?_
    refine op_run (r_sliceA rfl rfl rfl) rfl ?_
    refine o_app (v := v14) (c := 48) (m := ((encE o 3 ++ encB o.name) ++ encB o.other).length) (k := 48) (o.block.val.map c8) rfl rfl rfl ti_u8 rfl (by decide) hO14 (by rw [List.length_map, hbl]) (fun j u hj => by rw [Addr.add_lit]; exact hB14.cell (opR_blk o hj)) (all_c8 _) (by rw [List.length_append, List.length_append]; unfold maxLen; omega) (by rw [List.length_append, List.length_append]; omega) rfl ?_; intro v17 w17 hown17 hk17 hb17
    refine o_ast rfl ?_
    refine ops_nil ?_
    refine W_seq ?_
    refine W_region ?_
    refine o_mvt rfl ?_
    refine o_ast rfl ?_
    refine ops_nil ?_
    refine W_ret ?_
    refine ret1 v17 rfl ?_ ?_; rfl
    have e17 : eventB o = headE o ++ o.block.val := by unfold eventB; rw [if_pos h16]
    refine ⟨?_, hb17.mono fun z hz => ?_, hk014.own hk17 (fun z hz _ => by have := hi14 z hz; omega)⟩
    · rw [e17]
      show Own w17 _ 1 v17 _ ((headE o ++ o.block.val).map c8)
      rw [List.map_append, List.length_append, hbl]
      exact hown17
    · rcases hz with h | h
      · have := hi14 z h; omega
      · have := hk014.size; omega
  · refine W_skip ?_
    refine W_seq ?_
    refine W_region ?_
    refine o_mvt rfl ?_
    refine o_ast rfl ?_
    refine ops_nil ?_
    refine W_ret ?_
    refine ret1 v14 rfl ?_ ?_; rfl
    have e17 : eventB o = headE o := by unfold eventB; rw [if_neg h16, List.append_nil]
    rw [e17]
    exact ⟨hO14, hi14.mono fun z hz => by omega, hk014⟩
end Go.Proofs.Ytkckphbdjkjfgaa.B
