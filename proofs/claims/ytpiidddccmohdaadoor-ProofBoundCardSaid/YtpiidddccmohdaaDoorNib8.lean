/-
  The document's nibbles of a key.
-/
import Derived.Test.YtpiidddccmohdaaDoorNibs
import Derived.Test.YtpiidddccmohdaaDoorMTag
import Derived.Test.YtpiidddccmohdaaDoorRowsK
namespace Go.Proofs.YtpiidddccmohdaaDoor.B
open Go
set_option linter.unusedVariables false
set_option maxHeartbeats 2000000
set_option maxRecDepth 100000
attribute [local irreducible] W OpsW OpsQ retP
theorem tm2 (n : Nat) : (n : Int).tmod 2 = ((n % 2 : Nat) : Int) := by rw [Int.tmod_eq_emod_of_nonneg (by omega)]; omega
theorem rf08_Nibble (w : World) (key : Dig) (at_ : Nat) (x : UInt8) (hx : (nibs key.val)[at_]? = some x) : Ret Tryd.prog 21 [.agg (dgR key).toArray, .int .i64 at_].toArray w fun r w' => r = c8 x ∧ Keep All w w' := by
  have hat : at_ < 64 := by have := (List.getElem?_eq_some_iff.1 hx).1; rw [nibs_len, key.2] at this; omega
  obtain ⟨b, hb⟩ : ∃ b, key.val[at_ / 2]? = some b := ⟨_, List.getElem?_eq_getElem (by rw [key.2]; omega)⟩
  have hbl := b.toNat_lt
  refine enter (fn := Tryd.f21) (n := 18) Tryd.func21 rfl rfl (by simp) ?_
  refine W_seq ?_
  refine W_region ?_
  refine o_box rfl rfl rfl ?_; intro w1 b1 e1 hB1 hk1 hs1
  have hB1 : Blk w1 b1 (dgR key) 23 := hB1
  refine o_asc rfl ?_
  refine ops_nil ?_
  refine W_seq ?_
  refine W_seq ?_
  refine W_region ?_
  refine o_mvt rfl ?_
  refine op_run ((r_rem rfl rfl (by decide)).val (congrArg (Value.int .i64) (tm2 at_))) rfl ?_
  refine op_run (r_eql rfl rfl) rfl ?_
  refine ops_nil ?_
  refine W_cond_p rfl (fun h2 => ?_) (fun h2 => ?_)
  · refine W_seq ?_
    refine W_region ?_
    refine o_mvt rfl ?_
    refine op_run ((r_quo rfl rfl (by decide)).val (congrArg (Value.int .i64) (show IntKind.i64.wrap ((at_ : Int).tdiv 2) = ((at_ / 2 : Nat) : Int) from by rw [Int.tdiv_eq_ediv_of_nonneg (by omega), wrap_i64 (by omega) (by omega)]; omega))) rfl ?_
    refine op_run (r_idxA1 rfl rfl rfl rfl (by omega) (by omega)) rfl ?_
    refine op_run (r_load rfl rfl rfl (v := c8 b) (hB1.cell (show (dgR key)[0 + ((at_ / 2 : Nat) : Int).toNat]? = some (c8 b) by rw [Int.toNat_natCast, Nat.zero_add]; unfold dgR; rw [List.getElem?_map, hb]; rfl))) rfl ?_
    refine op_run ((r_quo rfl rfl (by decide)).val (congrArg (Value.int .u8) (show IntKind.u8.wrap (((b.toNat : Nat) : Int).tdiv 16) = (((hiN b).toNat : Nat) : Int) from by rw [Int.tdiv_eq_ediv_of_nonneg (by omega), hiN_nat]; exact (show IntKind.u8.wrap (((b.toNat : Nat) : Int) / 16) = (((b.toNat : Nat) : Int) / 16) % 256 from rfl).trans (by omega)))) rfl ?_
    refine o_ast rfl ?_
    refine ops_nil ?_
    refine W_ret ?_
    refine ret1 (c8 (hiN b)) rfl ?_ ?_; rfl
    have h := nibs_hi key.val (at_ / 2)
    rw [show 2 * (at_ / 2) = at_ by omega, hx, hb] at h
    injection h with h
    exact ⟨by rw [h], hk1⟩
  · refine W_skip ?_
    refine W_seq ?_
    refine W_region ?_
    refine o_mvt rfl ?_
    refine op_run ((r_quo rfl rfl (by decide)).val (congrArg (Value.int .i64) (show IntKind.i64.wrap ((at_ : Int).tdiv 2) = ((at_ / 2 : Nat) : Int) from by rw [Int.tdiv_eq_ediv_of_nonneg (by omega), wrap_i64 (by omega) (by omega)]; omega))) rfl ?_
    refine op_run (r_idxA1 rfl rfl rfl rfl (by omega) (by omega)) rfl ?_
    refine op_run (r_load rfl rfl rfl (v := c8 b) (hB1.cell (show (dgR key)[0 + ((at_ / 2 : Nat) : Int).toNat]? = some (c8 b) by rw [Int.toNat_natCast, Nat.zero_add]; unfold dgR; rw [List.getElem?_map, hb]; rfl))) rfl ?_
    refine op_run ((r_rem rfl rfl (by decide)).val (congrArg (Value.int .u8) (show ((b.toNat : Nat) : Int).tmod 16 = (((loN b).toNat : Nat) : Int) from by rw [Int.tmod_eq_emod_of_nonneg (by omega), loN_nat]; omega))) rfl ?_
    refine o_ast rfl ?_
    refine ops_nil ?_
    refine W_ret ?_
    refine ret1 (c8 (loN b)) rfl ?_ ?_; rfl
    have h := nibs_lo key.val (at_ / 2)
    rw [show 2 * (at_ / 2) + 1 = at_ by omega, hx, hb] at h
    injection h with h
    exact ⟨by rw [h], hk1⟩
end Go.Proofs.YtpiidddccmohdaaDoor.B
