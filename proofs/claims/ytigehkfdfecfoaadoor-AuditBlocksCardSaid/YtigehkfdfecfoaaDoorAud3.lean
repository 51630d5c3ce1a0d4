/-
  slices.Grow of nothing; slices.Concat of rows of bytes.
-/
import Derived.Test.YtigehkfdfecfoaaDoorRowsK
import Derived.Test.YtigehkfdfecfoaaDoorMSha
import Derived.Lib.AppendZeros
namespace Go.Proofs.YtigehkfdfecfoaaDoor.B
open Go
set_option linter.unusedVariables false
set_option maxHeartbeats 2000000
set_option maxRecDepth 100000
attribute [local irreducible] W OpsW OpsQ retP
section
variable {f0 : Bool} {c0 : Ctx} {P : Program} {n : Nat} {ops : Array Oper} {F : Fr} {w : World} {K : Fr → World → Prop} {rest : List Oper} {dst : Option Tmp} {ty : TypeId} {pos : String} {after : Array Edge} {g : Option (Nat × Bool)}
/-- append of zeros to nothing: 'append(nil, make([]T, k)...)'. -/
theorem o_zeros {s x : Operand} {t tn e : TypeId} {z : Value} {by_ : Nat} {kn : IntKind} {k : Nat}
    (hs : ev F s = .slice none 0 0) (hx : ev F x = .int .i64 k) (ht : P.underlying t = some (.slice e)) (htn : P.underlying tn = some (.int kn)) (hi : tinfo P e = some (some z, 1, by_)) (hz : one z = true) (h0 : 0 < k) (h63 : k ≤ maxLen) (hby : k * by_ ≤ 281474976710656)
    (hg : wantedF ops F ⟨dst, .call ⟨.builtin .append, #[s, x], #[t, tn]⟩, ty, pos, after, g⟩ = true)
    (h : ∀ w' b c l, b = w.heap.size → Blk w' b l e → l.length = c → k ≤ c → c ≤ maxLen → Keep All w w' → w'.heap.size = b + 1 → OpsW f0 c0 P n ops rest (updo n F dst (.slice (some ⟨b, 0, none⟩) k c)) w' K) :
    OpsW f0 c0 P n ops (⟨dst, .call ⟨.builtin .append, #[s, x], #[t, tn]⟩, ty, pos, after, g⟩ :: rest) F w K := by
  obtain ⟨i, hi1, hi2, hi3, hi4⟩ := tinfo_info hi
  have hr := Lib.run_append_nil_zeros (P := P) w t tn ty e i z .i64 kn ht htn hi1 hi2 k h0 (by omega) (by unfold maxLen at h63; omega) (by rw [hi4]; exact hby)
  have hge := grownCap_ge w k 0 e
  have hle := grownCap_le_maxLen w k 0 e (by first | exact h63 | (unfold maxLen at h63; omega))
  have hzs : z.cells.size = 1 := by rw [cells_one hz]; rfl
  refine op_run0 (v := .slice (some ⟨w.heap.size, 0, none⟩) k (grownCap w k 0 e)) ?_ hg (h (w.drew.alloc (.cells (Builtin.zeroCells z.cells k ++ Builtin.zeroCells z.cells (grownCap w k 0 e - k)) e)) w.heap.size (grownCap w k 0 e) (Builtin.zeroCells z.cells k ++ Builtin.zeroCells z.cells (grownCap w k 0 e - k)).toList rfl ?_ ?_ hge hle ((Keep.drawn w).trans (Keep.alloc w.drew _)) ?_)
  · (try unfold Run1); simp [execOp, resolve, invoke, builtin, hs, hx, hr]
  · show _ = _
    rw [Array.toArray_toList]
    exact heap_alloc_new w.drew _
  · simp only [Array.length_toList, Array.size_append, size_zeroCells, hzs]; omega
  · exact size_alloc w.drew _
end
theorem ti_bss3 : tinfo Tryd.prog 34 = some (some (.slice none 0 0), 1, 24) := by kernel_rfl
theorem sl_GrowN (w : World) (n : Nat) (hn : n ≤ 2 ^ 40) : Ret Tryd.prog 34 [.slice none 0 0, .int .i64 n].toArray w fun r w' => Own w' 34 1 r 0 [] ∧ InB (fun z => w.heap.size ≤ z) r ∧ Keep All w w' := by
  refine enter (fn := Tryd.f34) (n := 27) Tryd.func34 rfl rfl (by simp) ?_
  refine W_seq ?_
  refine W_region ?_
  refine o_asc rfl ?_
  refine ops_nil ?_
  refine W_seq ?_
  refine W_seq ?_
  refine W_region ?_
  refine o_mvt rfl ?_
  refine op_run (r_lss rfl rfl) rfl ?_
  refine ops_nil ?_
  refine W_no rfl (decide_eq_false (by omega)) ?_
  refine W_skip ?_
  refine W_seq ?_
  refine W_seq ?_
  refine W_region ?_
  refine o_mvt rfl ?_
  refine o_mvt rfl ?_
  refine op_run (r_cap rfl rfl rfl) rfl ?_
  refine o_mvt rfl ?_
  refine op_run (r_len rfl rfl rfl) rfl ?_
  refine op_run ((r_sub rfl rfl).val (congrArg (Value.int .i64) (show IntKind.i64.wrap (((0 : Nat) : Int) - ((0 : Nat) : Int)) = 0 from by decide))) rfl ?_
  refine op_run ((r_sub rfl rfl).val (congrArg (Value.int .i64) (show IntKind.i64.wrap ((n : Int) - 0) = (n : Int) from (wrap_i64 (by omega) (by omega)).trans (by omega)))) rfl ?_
  refine o_ast rfl ?_
  refine ops_nil ?_
  refine W_seq ?_
  refine W_region ?_
  refine o_mvt rfl ?_
  refine op_run (r_gtr rfl rfl) rfl ?_
  refine ops_nil ?_
  refine W_cond_p rfl (fun h10 => ?_) (fun h10 => ?_)
  · refine W_region ?_
    refine o_mvt rfl ?_
    refine o_mvt rfl ?_
    refine op_run (r_cap rfl rfl rfl) rfl ?_
    refine op_run (r_sliceS_hi rfl rfl rfl rfl (by decide) (by decide)) rfl ?_
    refine o_mvt rfl ?_
    refine o_zeros (k := n) rfl rfl rfl rfl ti_bss3 rfl (by omega) (by unfold maxLen; omega) (by omega) rfl ?_; intro w12 b12 c12 l12 e12 hB12 hl12 hn12 hm12 hk12 hs12
    refine o_mvt rfl ?_
    refine op_run (r_len rfl rfl rfl) rfl ?_
    refine op_run (r_sliceS_hi rfl rfl rfl rfl (by decide) (by omega)) rfl ?_
    refine o_ast rfl ?_
    refine ops_nil ?_
    refine W_seq ?_
    refine W_region ?_
    refine o_mvt rfl ?_
    refine o_ast rfl ?_
    refine ops_nil ?_
    refine W_ret ?_
    refine ret1 (subSl (some ⟨b12, 0, none⟩) 1 0 0 c12) rfl ?_ ?_; rfl
    have hO : Own w12 34 1 (.slice (some ⟨b12, 0, none⟩) 0 c12) 0 [] := ⟨rfl, .inr ⟨b12, c12, l12.toArray, rfl, Nat.zero_le _, hB12, Nat.zero_le _, hm12, by simpa using hl12, rfl⟩⟩
    have e : subSl (some ⟨b12, 0, none⟩) 1 0 0 c12 = .slice (some ⟨b12, 0, none⟩) 0 c12 := by
      unfold subSl
      split
      · rfl
      · rw [Option.map_some, Nat.zero_mul, Addr.add_zero']; rfl
    rw [e]
    exact ⟨hO, fun z hz => by obtain rfl : b12 = z := Option.some.inj hz; omega, hk12⟩
  · refine W_skip ?_
    refine W_seq ?_
    refine W_region ?_
    refine o_mvt rfl ?_
    refine o_ast rfl ?_
    refine ops_nil ?_
    refine W_ret ?_
    refine ret1 (.slice none 0 0) rfl ?_ ?_; rfl
    exact ⟨own_nil _ _ _, InB.nil, Keep.refl _⟩
end Go.Proofs.YtigehkfdfecfoaaDoor.B
