/-
  The document's blobs: Sectors, Of, Laid.
-/
import Derived.Test.YtigehkfdfecfoaaBlob4
namespace Go.Proofs.Ytigehkfdfecfoaa.B
open Go
set_option linter.unusedVariables false
set_option maxHeartbeats 2000000
set_option maxRecDepth 100000
attribute [local irreducible] W OpsW OpsQ retP
theorem sectorsN_step {m : Nat} (h : 64 < m) : sectorsN m = sectorsN (m - 64) + 1 := by unfold sectorsN; omega
theorem sectorsN_one {m : Nat} (h : m ≤ 64) : sectorsN m = 1 := by unfold sectorsN; omega

theorem rf07_Of (w : World) (at_ : Int) (v : Value) (bs : List UInt8) (hv : By w v bs) (hl : bs.length ≤ 100000) : Ret Try.prog 34 [.int .i64 at_, v].toArray w fun r w' => r = .agg (refR (ofR at_ bs)).toArray ∧ Keep All w w' := by
  obtain ⟨a0, c0, rfl, hc0, hcm0⟩ := hv.form
  refine enter (fn := Try.f34) (n := 12) Try.func34 rfl rfl (by simp) ?_
  refine W_seq ?_
  refine W_region ?_
  refine o_alloc rfl rfl rfl ?_; intro w1 b1 e1 hB1 hk1 hs1
  refine ops_nil ?_
  refine W_seq ?_
  refine W_region ?_
  refine o_mvt rfl ?_
  refine o_bs1 (v := _) rfl rfl rfl rfl rfl rfl ?_; intro w2 b2 e2 hB2 hk2 hs2
  refine op_call rfl rfl rfl (rf_Tagged w2 _ 3 [bs] (rowsB_one hB2 ((hv.k hk1).k hk2)) (tag_1 _ hl)) ?_; rintro v3 w3 ⟨rfl, hk3⟩
  refine o_mvt rfl ?_
  refine o_mvt rfl ?_
  refine op_run (r_len rfl rfl rfl) rfl ?_
  refine op_run (r_build (refR (ofR at_ bs)) (_) ([(0, .agg (dgR (tagD 3 [bs])).toArray), (1, .int .i64 at_), (2, .int .i64 (bs.length : Int))]) rfl rfl rfl rfl rfl (fill_ref (by kernel_rfl) rfl)) rfl ?_
  refine o_storeA (cs := refR (ofR at_ bs)) rfl rfl (by first | rfl | exact binV_one _ | exact dgR_one _ | exact refR_one _ | exact secR_one _ | exact all_c8 _) (by first | rfl | (rw [binV_len]; rfl) | (rw [dgR_len]; rfl) | (rw [refR_len]; rfl) | (rw [secR_len]; rfl) | (rw [List.length_map, tagF_len]; rfl)) (hk3.blk' (hk2.blk' hB1 trivial) trivial) (by exact Nat.le_of_eq (by simp [refR_len])) rfl ?_; intro w5 hB5 hk5 hs5
  rw [splice_all (by simp [refR_len])] at hB5
  refine ops_nil ?_
  refine W_ret ?_
  refine retA (refR (ofR at_ bs)) rfl rfl rfl rfl (by first | rfl | (rw [binV_len]; rfl) | (rw [dgR_len]; rfl) | (rw [refR_len]; rfl) | (rw [secR_len]; rfl) | (rw [List.length_map, tagF_len]; rfl)) hB5.all ?_
  exact ⟨rfl, ((hk1.trans hk2).trans hk3).new hk5 (by omega)⟩

theorem padS_nil : secR (padS []) = List.replicate 64 (c8 0) := by unfold secR padS; simp
theorem padS_val (l : List UInt8) : (padS l).val = l.take 64 ++ List.replicate (64 - (l.take 64).length) 0 := rfl
theorem padS_set {l : List UInt8} {k : Nat} {x : UInt8} (hk : k < 64) (hx : l[k]? = some x) : (secR (padS (l.take k))).set k (c8 x) = secR (padS (l.take (k + 1))) := by
  obtain ⟨h1, h2⟩ := List.getElem?_eq_some_iff.1 hx
  have e1 : ((l.take k).take 64) = l.take k := by rw [List.take_take, Nat.min_eq_right (by omega)]
  have e2 : ((l.take (k + 1)).take 64) = l.take (k + 1) := by rw [List.take_take, Nat.min_eq_right (by omega)]
  have l1 : (l.take k).length = k := by rw [List.length_take]; omega
  have l2 : (l.take (k + 1)).length = k + 1 := by rw [List.length_take]; omega
  unfold secR
  rw [padS_val, padS_val, e1, e2, l1, l2, List.map_append, List.set_append_right _ _ (by rw [List.length_map]; omega), List.length_map, l1, Nat.sub_self, show 64 - k = (64 - (k + 1)) + 1 by omega, List.replicate_succ, List.map_cons, List.set_cons_zero, List.take_succ_eq_append_getElem h1, h2]
  simp
theorem padS_take {l : List UInt8} {k : Nat} (h : k = 64 ∨ l.length ≤ k) : padS (l.take k) = padS l := by
  apply Subtype.ext
  rw [padS_val, padS_val]
  rcases h with rfl | h
  · rw [List.take_take, Nat.min_self]
  · rw [List.take_of_length_le (l := l) h]
theorem rows_snocS (M : List Sec) (s : Sec) : rows secR (M ++ [s]) = rows secR M ++ secR s := by unfold rows; rw [List.flatMap_append]; simp
theorem laid_take {bs : List UInt8} {i : Nat} (hi : i < sectorsN bs.length) : (laidL bs).take (i + 1) = (laidL bs).take i ++ [padS (bs.drop (64 * i))] := by
  have h := laidL_get hi
  obtain ⟨h1, h2⟩ := List.getElem?_eq_some_iff.1 h
  rw [List.take_succ_eq_append_getElem h1, h2]
end Go.Proofs.Ytigehkfdfecfoaa.B
