/-
  audit.Check.
-/
import Derived.Test.YtigehkfdfecfoaaDoorAud5
namespace Go.Proofs.YtigehkfdfecfoaaDoor.B
open Go
set_option linter.unusedVariables false
set_option maxHeartbeats 2000000
set_option maxRecDepth 100000
attribute [local irreducible] W OpsW OpsQ retP
attribute [local irreducible] numR
theorem au_each (w : World) (n : Nat) (root : Dig) (v : Value) (hv1 : one v = true) : Ret Tryd.prog 17 [.int .u64 n, .agg (dgR root).toArray, v].toArray w fun r w' => ∃ bR bX bC, r = .func (.func 31) #[] #[.pointer (some ⟨bR, 0, none⟩), .pointer (some ⟨bX, 0, none⟩), .pointer (some ⟨bC, 0, none⟩)] ∧
    Blk w' bR (dgR root) 28 ∧ Blk w' bX [v] 24 ∧ Blk w' bC [.int .u64 n] 23 ∧ (w.heap.size ≤ bR ∧ w.heap.size ≤ bX ∧ w.heap.size ≤ bC) ∧ Keep All w w' := by
  refine enter (fn := Tryd.f17) (n := 8) Tryd.func17 rfl rfl (by simp) ?_
  refine W_seq ?_
  refine W_region ?_
  refine o_box rfl rfl rfl ?_; intro w1 b1 e1 hB1 hk1 hs1
  refine o_box rfl rfl rfl ?_; intro w2 b2 e2 hB2 hk2 hs2
  refine o_box (v := v) (cs := [v]) rfl (cells_one hv1) rfl ?_; intro w3 b3 e3 hB3 hk3 hs3
  refine o_asc rfl ?_
  refine ops_nil ?_
  refine W_seq ?_
  refine W_region ?_
  refine op_run (r_makeFunc) rfl ?_
  refine o_ast rfl ?_
  refine ops_nil ?_
  refine W_ret ?_
  refine ret1 (.func (.func 31) #[] #[.pointer (some ⟨b2, 0, none⟩), .pointer (some ⟨b3, 0, none⟩), .pointer (some ⟨b1, 0, none⟩)]) rfl ?_ ?_; rfl
  have hz1 := hk1.size
  have hz2 := hk2.size
  exact ⟨b2, b3, b1, rfl, hk3.blk' hB2 trivial, hB3, hk3.blk' (hk2.blk' hB1 trivial) trivial, ⟨by omega, by omega, by omega⟩, (hk1.trans hk2).trans hk3⟩
end Go.Proofs.YtigehkfdfecfoaaDoor.B
