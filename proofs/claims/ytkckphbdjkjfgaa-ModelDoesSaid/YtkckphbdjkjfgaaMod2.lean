/-
  model: New, named, add.
-/
import Derived.Test.YtkckphbdjkjfgaaMod1
import Derived.Test.YtkckphbdjkjfgaaStr
namespace Go.Proofs.Ytkckphbdjkjfgaa.B
open Go
set_option linter.unusedVariables false
set_option maxHeartbeats 2000000
set_option maxRecDepth 100000
attribute [local irreducible] W OpsW OpsQ retP
theorem baGet {bs : List UInt8} {i : Nat} {b : UInt8} (h : bs[i]? = some b) : (⟨bs.toArray⟩ : ByteArray)[i]? = some b := by
  obtain ⟨hi, he⟩ := List.getElem?_eq_some_iff.1 h
  have hs : i < (⟨bs.toArray⟩ : ByteArray).size := by show i < bs.toArray.size; simpa using hi
  rw [getElem?_pos (⟨bs.toArray⟩ : ByteArray) i hs]
  exact congrArg some he
section
variable {P : Program} {F : Fr} {w : World} {dst : Option Tmp} {ty : TypeId} {pos : String} {after : Array Edge} {g : Option (Nat × Bool)}
theorem r_indexStr {x y : Operand} {t : TypeId} {s : ByteArray} {b : UInt8} {k : IntKind} {i : Int} (hx : ev F x = .string s) (hy : ev F y = .int k i) (ht : P.underlying t = some .string) (h0 : 0 ≤ i) (hv : s[i.toNat]? = some b) :
    Run1 P F ⟨dst, .index t x y, ty, pos, after, g⟩ w (c8 b) w := by
  unfold Run1; simp [execOp, hx, hy, Instr.index, asIntOf, run_underlying ht, h0, hv, c8]
theorem r_neqStr {t t' : TypeId} {x y : Operand} {a b : List UInt8} (hx : ev F x = .string ⟨a.toArray⟩) (hy : ev F y = .string ⟨b.toArray⟩) : Run1 P F ⟨dst, .binOp .neq t x y t', ty, pos, after, g⟩ w (.bool (!decide (a = b))) w := by
  unfold Run1; simp [execOp, hx, hy, eqGuard, binOp, Op.stringOp]
  rw [Bool.eq_iff_iff]; simp
end
theorem baSize (bs : List UInt8) : (⟨bs.toArray⟩ : ByteArray).size = bs.length := by show bs.toArray.size = _; simp
theorem md_New (w : World) : Ret Try.prog 10 [].toArray w fun r w' => ∃ mb bm, r = .pointer (some ⟨mb, 0, none⟩) ∧ w.heap.size ≤ mb ∧ w.heap.size ≤ bm ∧ mb ≠ bm ∧ Blk w' mb [.map (some bm)] 58 ∧ MapG strA w' bm [] ∧ Keep All w w' := by
  refine enter (fn := Try.f10) (n := 4) Try.func10 rfl rfl (by simp) ?_
  refine W_seq ?_
  refine W_region ?_
  refine o_asc rfl ?_
  refine ops_nil ?_
  refine W_seq ?_
  refine W_region ?_
  refine o_makeMapG strA rfl ?_; intro w1 b1 e1 hM1 hk1 hs1
  refine op_run (r_build ([.map (some b1)]) (_) ([(0, .map (some b1))]) rfl rfl rfl rfl rfl (rfl)) rfl ?_
  refine o_box (cs := [.map (some b1)]) rfl rfl rfl ?_; intro w3 b3 e3 hB3 hk3 hs3
  refine o_ast rfl ?_
  refine ops_nil ?_
  refine W_ret ?_
  refine ret1 (.pointer (some ⟨b3, 0, none⟩)) rfl ?_ ?_; rfl
  exact ⟨b3, b1, rfl, by omega, by omega, by omega, hB3, hM1.keep hk3 trivial, hk1.trans hk3⟩
def namedB (bs : List UInt8) : Prop := (∀ x ∈ bs, ¬ (x.toNat ≤ 32 ∨ 126 < x.toNat)) ∧ bs ≠ [] ∧ bs.length ≤ 20
instance (bs : List UInt8) : Decidable (namedB bs) := inferInstanceAs (Decidable (_ ∧ _))
theorem md_named (w : World) (bs : List UInt8) (hl : bs.length ≤ 2 ^ 40) : Ret Try.prog 37 [strA bs].toArray w fun r w' => r = .bool (decide (namedB bs)) ∧ w' = w := by
  have hsz := baSize bs
  refine enter (fn := Try.f37) (n := 27) Try.func37 rfl rfl (by simp) ?_
  refine W_seq ?_
  refine W_region ?_
  refine o_asc rfl ?_
  refine ops_nil ?_
  refine W_seq ?_
  refine W_seq ?_
  refine W_region ?_
  refine o_mvt rfl ?_
  refine op_run (r_len_str rfl rfl rfl) rfl ?_
  refine o_mvc rfl ?_
  refine ops_nil ?_
  refine W_block ?_
  refine W_loop [6] [2, 3, 6, 7, 8, 9, 10, 11, 12, 13, 14, 15, 16, 17, 18, 19] (fun vs w' => ∃ k : Nat, vs = [.int .i64 k] ∧ k ≤ bs.length ∧ (∀ x ∈ bs.take k, ¬ (x.toNat ≤ 32 ∨ 126 < x.toNat)) ∧ w' = w) (fun vs _ => match vs with | [.int _ y] => bs.length - y.toNat | _ => 0) ⟨0, rfl, Nat.zero_le _, (fun x h => by cases h), rfl⟩ ?_
  rintro J1 vs w1 ⟨k, rfl, hk, hgood, rfl⟩ -
  refine W_seq ?_
  refine W_region ?_
  refine op_run (r_lss rfl rfl) rfl ?_
  refine ops_nil ?_
  refine W_seq ?_
  refine W_cond_p rfl (fun h2 => ?_) (fun h2 => ?_)
  · refine W_skip ?_
    refine W_seq ?_
    refine W_block ?_
    refine W_seq ?_
    refine W_region ?_
    have hkl : k < bs.length := by rw [hsz] at h2; omega
    obtain ⟨x, hx⟩ : ∃ x, bs[k]? = some x := ⟨_, List.getElem?_eq_getElem hkl⟩
    have hxa : (⟨bs.toArray⟩ : ByteArray)[((k : Nat) : Int).toNat]? = some x := by rw [Int.toNat_natCast]; exact baGet hx
    have hinc := inc64' k (by omega)
    refine o_mvt rfl ?_
    refine o_ast rfl ?_
    refine ops_nil ?_
    refine W_cut [18] [9, 10, 11, 12, 13, 14, 15, 16, 17, 18] (fun vs w3 => vs = [.bool (decide (x.toNat ≤ 32 ∨ 126 < x.toNat))] ∧ w3 = w1) ?_ ?_
    · refine W_region ?_
      refine o_mvt rfl ?_
      refine o_mvt rfl ?_
      refine op_run (r_indexStr (b := x) rfl rfl rfl (by omega) (hxa)) rfl ?_
      refine op_run (r_leq rfl rfl) rfl ?_
      refine o_mvt rfl ?_
      refine g_split rfl rfl rfl (fun g5 => ?_) (fun g5 => ?_)
      · refine o_mvt (g_yes rfl rfl rfl g5) ?_
        refine o_mvt (g_yes rfl rfl rfl g5) ?_
        refine op_run (r_indexStr (b := x) rfl rfl rfl (by omega) (hxa)) (g_yes rfl rfl rfl g5) ?_
        refine op_run (r_gtr rfl rfl) (g_yes rfl rfl rfl g5) ?_
        refine o_pkFt rfl g5 rfl ?_
        refine ops_nil ?_
        exact ⟨by (repeat (first | with_reducible exact offM_refl _ _ | refine offM_updc rfl ?_ | refine offM_upd rfl ?_ | refine offM_updo rfl ?_ | refine offM_updo_none ?_ | refine offM_head rfl rfl ?_)), congrArg (fun b => [Value.bool b]) (by have g := of_decide_eq_false g5; rw [decide_eq_decide]; constructor <;> intro h <;> omega), rfl⟩
      · refine op_skip (g_no rfl rfl rfl g5) ?_
        refine op_skip (g_no rfl rfl rfl g5) ?_
        refine op_skip (g_no rfl rfl rfl g5) ?_
        refine op_skip (g_no rfl rfl rfl g5) ?_
        refine o_pkTc rfl g5 rfl ?_
        refine ops_nil ?_
        exact ⟨by (repeat (first | with_reducible exact offM_refl _ _ | refine offM_updc rfl ?_ | refine offM_upd rfl ?_ | refine offM_updo rfl ?_ | refine offM_updo_none ?_ | refine offM_head rfl rfl ?_)), congrArg (fun b => [Value.bool b]) (by have g := of_decide_eq_true g5; symm; apply decide_eq_true; omega), rfl⟩
    · rintro J9 vs w9 ⟨rfl, rfl⟩ -
      refine W_cond_p rfl (fun h10 => ?_) (fun h10 => ?_)
      · refine W_seq ?_
        refine W_region ?_
        refine o_asc rfl ?_
        refine ops_nil ?_
        refine W_ret ?_
        refine ret1 (.bool false) rfl ?_ ?_; rfl
        exact ⟨congrArg Value.bool (decide_eq_false fun h => h.1 x (List.mem_of_getElem? hx) h10).symm, rfl⟩
      · refine W_skip ?_
        refine W_region ?_
        refine op_run (r_add rfl rfl) rfl ?_
        refine o_mvt rfl ?_
        refine ops_nil ?_
        refine ⟨by (repeat (first | with_reducible exact offM_refl _ _ | refine offM_updc rfl ?_ | refine offM_upd rfl ?_ | refine offM_updo rfl ?_ | refine offM_updo_none ?_ | refine offM_head rfl rfl ?_)), ⟨k + 1, congrArg (fun z : Int => [Value.int .i64 z]) hinc, by omega, fun y hy => ?_, rfl⟩, ?_⟩
        · rw [List.take_succ_eq_append_getElem hkl, (List.getElem?_eq_some_iff.1 hx).2] at hy
          rcases List.mem_append.1 hy with h | h
          · exact hgood y h
          · rw [List.mem_singleton.1 h]; exact h10
        · show bs.length - (IntKind.i64.wrap ((k : Int) + 1)).toNat < bs.length - (k : Int).toNat
          rw [hinc]; omega
  · refine W_exit ?_
    refine W_seq ?_
    refine W_region ?_
    refine o_mvt rfl ?_
    have hke : k = bs.length := by rw [hsz] at h2; omega
    rw [hke, List.take_length] at hgood
    refine op_run (r_neqStr (b := []) rfl rfl) rfl ?_
    refine o_mvt rfl ?_
    refine g_split rfl rfl rfl (fun g14 => ?_) (fun g14 => ?_)
    · refine o_mvt (g_yes rfl rfl rfl g14) ?_
      refine op_run (r_len_str rfl rfl rfl) (g_yes rfl rfl rfl g14) ?_
      refine op_run (r_leq rfl rfl) (g_yes rfl rfl rfl g14) ?_
      refine o_pkTt rfl g14 rfl ?_
      refine o_ast rfl ?_
      refine ops_nil ?_
      refine W_ret ?_
      refine ret1 (.bool (decide (((⟨bs.toArray⟩ : ByteArray).size : Int) ≤ 20))) rfl ?_ ?_; rfl
      refine ⟨congrArg Value.bool ?_, rfl⟩
      have g : ¬ bs = [] := by simpa using g14
      rw [decide_eq_decide, hsz]
      exact ⟨fun h => ⟨hgood, g, by omega⟩, fun h => by have := h.2.2; omega⟩
    · refine op_skip (g_no rfl rfl rfl g14) ?_
      refine op_skip (g_no rfl rfl rfl g14) ?_
      refine op_skip (g_no rfl rfl rfl g14) ?_
      refine o_pkFc rfl g14 rfl ?_
      refine o_ast rfl ?_
      refine ops_nil ?_
      refine W_ret ?_
      refine ret1 (.bool false) rfl ?_ ?_; rfl
      have g : bs = [] := by simpa using g14
      exact ⟨congrArg Value.bool (decide_eq_false fun h => h.2.1 g).symm, rfl⟩
theorem ti_ptrV : tinfo Try.prog 60 = some (some (.pointer none), 1, 8) := by kernel_rfl
end Go.Proofs.Ytkckphbdjkjfgaa.B
