/-
  sporranref12.Named.
-/
import Derived.Test.YtkmciohghhffnaaGreatVImgP
import Derived.Sort.Walk0
namespace Go.Proofs.YtkmciohghhffnaaGreat.B
open Go
set_option linter.unusedVariables false
set_option maxHeartbeats 2000000
set_option maxRecDepth 100000
attribute [local irreducible] W OpsW OpsQ retP
section
variable {P : Program} {F : Fr} {w : World} {dst : Option Tmp} {ty : TypeId} {pos : String} {after : Array Edge} {g : Option (Nat × Bool)}
theorem r_lssStr {t t' : TypeId} {x y : Operand} {a b : List UInt8} (hx : ev F x = .string ⟨a.toArray⟩) (hy : ev F y = .string ⟨b.toArray⟩) : Run1 P F ⟨dst, .binOp .lss t x y t', ty, pos, after, g⟩ w (.bool (decide (a < b))) w := by
  unfold Run1
  simp [execOp, hx, hy, eqGuard, binOp, Op.stringOp, ByteArray.toList_eq, Go.Proofs.bytesLess_eq]
end
theorem rf12_Named (w : World) (bs : List UInt8) (hl : bs.length ≤ 2 ^ 40) : Ret Tryz.prog 47 [strA bs].toArray w fun r w' => r = .bool (decide (namedB bs)) ∧ w' = w := by
  have hsz := baSize bs
  refine enter (fn := Tryz.f47) (n := 28) Tryz.func47 rfl rfl (by simp) ?_
  refine W_seq ?_
  refine W_region ?_
  refine o_asc rfl ?_
  refine ops_nil ?_
  refine W_seq ?_
  refine W_seq ?_
  refine W_region ?_
  refine o_asc rfl ?_
  refine ops_nil ?_
  refine W_block ?_
  refine W_loop [3] [2, 3, 4, 5, 6, 7, 8, 9, 10, 11, 12, 13, 14, 15, 16, 17, 18, 19] (fun vs w' => ∃ k : Nat, vs = [.int .i64 k] ∧ k ≤ bs.length ∧ (∀ x ∈ bs.take k, ¬ (x.toNat ≤ 32 ∨ 126 < x.toNat)) ∧ w' = w) (fun vs _ => match vs with | [.int _ y] => bs.length - y.toNat | _ => 0) ⟨0, rfl, Nat.zero_le _, (fun x h => by cases h), rfl⟩ ?_
  rintro J1 vs w1 ⟨k, rfl, hk, hgood, rfl⟩ -
  refine W_seq ?_
  refine W_seq ?_
  refine W_region ?_
  refine o_mvt rfl ?_
  refine o_mvt rfl ?_
  refine op_run (r_len_str rfl rfl rfl) rfl ?_
  refine op_run (r_lss rfl rfl) rfl ?_
  refine ops_nil ?_
  refine W_cond_p rfl (fun h2 => ?_) (fun h2 => ?_)
  · refine W_skip ?_
    refine W_seq ?_
    have hkl : k < bs.length := by rw [hsz] at h2; omega
    obtain ⟨x, hx⟩ : ∃ x, bs[k]? = some x := ⟨_, List.getElem?_eq_getElem hkl⟩
    have hxa : (⟨bs.toArray⟩ : ByteArray)[((k : Nat) : Int).toNat]? = some x := by rw [Int.toNat_natCast]; exact baGet hx
    have hinc := inc64' k (by omega)
    refine W_block ?_
    refine W_cut [19] [10, 11, 12, 13, 14, 15, 16, 17, 18, 19] (fun vs w3 => vs = [.bool (decide (x.toNat ≤ 32 ∨ 126 < x.toNat))] ∧ w3 = w1) ?_ ?_
    · refine W_region ?_
      refine o_mvt rfl ?_
      refine o_mvt rfl ?_
      refine op_run (r_indexStr (b := x) rfl rfl rfl (by omega) (hxa)) rfl ?_
      refine op_run (r_lss rfl rfl) rfl ?_
      refine o_mvt rfl ?_
      refine g_split rfl rfl rfl (fun g5 => ?_) (fun g5 => ?_)
      · refine o_mvt (g_yes rfl rfl rfl g5) ?_
        refine o_mvt (g_yes rfl rfl rfl g5) ?_
        refine op_run (r_indexStr (b := x) rfl rfl rfl (by omega) (hxa)) (g_yes rfl rfl rfl g5) ?_
        refine op_run (r_gtr rfl rfl) (g_yes rfl rfl rfl g5) ?_
        refine o_pkFt rfl g5 rfl ?_
        refine ops_nil ?_
        exact ⟨by (repeat (first | with_reducible exact offM_refl _ _ | refine offM_updc rfl ?_ | refine offM_upd rfl ?_ | refine offM_updo rfl ?_ | refine offM_updo_none ?_ | refine offM_head rfl rfl ?_)), congrArg (fun b => [Value.bool b]) (by have g := of_decide_eq_false g5; rw [decide_eq_decide]; constructor <;> intro h <;> omega), rfl⟩
      · refine op_skip (g_no rfl rfl rfl g5) ?_
        refine op_skip (g_no rfl rfl rfl g5) ?_
        refine op_skip (g_no rfl rfl rfl g5) ?_
        refine op_skip (g_no rfl rfl rfl g5) ?_
        refine o_pkTc rfl g5 rfl ?_
        refine ops_nil ?_
        exact ⟨by (repeat (first | with_reducible exact offM_refl _ _ | refine offM_updc rfl ?_ | refine offM_upd rfl ?_ | refine offM_updo rfl ?_ | refine offM_updo_none ?_ | refine offM_head rfl rfl ?_)), congrArg (fun b => [Value.bool b]) (by have g := of_decide_eq_true g5; symm; apply decide_eq_true; omega), rfl⟩
    · rintro J9 vs w9 ⟨rfl, rfl⟩ -
      refine W_cond_p rfl (fun h10 => ?_) (fun h10 => ?_)
      · refine W_seq ?_
        refine W_region ?_
        refine o_asc rfl ?_
        refine ops_nil ?_
        refine W_ret ?_
        refine ret1 (.bool false) rfl ?_ ?_; rfl
        exact ⟨congrArg Value.bool (decide_eq_false fun h => h.1 x (List.mem_of_getElem? hx) h10).symm, rfl⟩
      · refine W_skip ?_
        refine W_region ?_
        refine o_mvt rfl ?_
        refine op_run (r_add rfl rfl) rfl ?_
        refine o_ast rfl ?_
        refine ops_nil ?_
        refine ⟨by (repeat (first | with_reducible exact offM_refl _ _ | refine offM_updc rfl ?_ | refine offM_upd rfl ?_ | refine offM_updo rfl ?_ | refine offM_updo_none ?_ | refine offM_head rfl rfl ?_)), ⟨k + 1, congrArg (fun z : Int => [Value.int .i64 z]) hinc, by omega, fun y hy => ?_, rfl⟩, ?_⟩
        · rw [List.take_succ_eq_append_getElem hkl, (List.getElem?_eq_some_iff.1 hx).2] at hy
          rcases List.mem_append.1 hy with h | h
          · exact hgood y h
          · rw [List.mem_singleton.1 h]; exact h10
        · show bs.length - (IntKind.i64.wrap ((k : Int) + 1)).toNat < bs.length - (k : Int).toNat
          rw [hinc]; omega
  · refine W_exit ?_
    refine W_seq ?_
    refine W_region ?_
    refine o_mvt rfl ?_
    refine op_run (r_len_str rfl rfl rfl) rfl ?_
    refine op_run (r_geq rfl rfl) rfl ?_
    refine o_mvt rfl ?_
    have hke : k = bs.length := by rw [hsz] at h2; omega
    rw [hke, List.take_length] at hgood
    refine g_split rfl rfl rfl (fun g13 => ?_) (fun g13 => ?_)
    · refine o_mvt (g_yes rfl rfl rfl g13) ?_
      refine op_run (r_len_str rfl rfl rfl) (g_yes rfl rfl rfl g13) ?_
      refine op_run (r_leq rfl rfl) (g_yes rfl rfl rfl g13) ?_
      refine o_pkTt rfl g13 rfl ?_
      refine o_ast rfl ?_
      refine ops_nil ?_
      refine W_ret ?_
      refine ret1 (.bool (decide (((⟨bs.toArray⟩ : ByteArray).size : Int) ≤ 20))) rfl ?_ ?_; rfl
      have g13 := of_decide_eq_true g13
      rw [hsz] at g13 ⊢
      refine ⟨congrArg Value.bool ?_, rfl⟩
      rw [decide_eq_decide]
      unfold namedB
      constructor
      · intro h
        exact ⟨hgood, fun e => by rw [e] at g13; simp at g13, by omega⟩
      · intro h; have := h.2.2; omega
    · refine op_skip (g_no rfl rfl rfl g13) ?_
      refine op_skip (g_no rfl rfl rfl g13) ?_
      refine op_skip (g_no rfl rfl rfl g13) ?_
      refine o_pkFc rfl g13 rfl ?_
      refine o_ast rfl ?_
      refine ops_nil ?_
      refine W_ret ?_
      refine ret1 (.bool false) rfl ?_ ?_; rfl
      have g13 := of_decide_eq_false g13
      rw [hsz] at g13
      refine ⟨congrArg Value.bool (decide_eq_false ?_).symm, rfl⟩
      intro h
      exact h.2.1 (List.eq_nil_of_length_eq_zero (by omega))

end Go.Proofs.YtkmciohghhffnaaGreat.B
