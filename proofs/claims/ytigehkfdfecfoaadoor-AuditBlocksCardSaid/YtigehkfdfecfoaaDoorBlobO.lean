/-
  The Ref of bytes, where no disk is. (The same texts as in BlobP, Blob2 and Ref07: never import both.)
-/
import Derived.Test.YtigehkfdfecfoaaDoorMRef
import Derived.Test.YtigehkfdfecfoaaDoorMLib
import Derived.Test.YtigehkfdfecfoaaDoorMTag
namespace Go.Proofs.YtigehkfdfecfoaaDoor.B
open Go
set_option linter.unusedVariables false
set_option maxHeartbeats 2000000
set_option maxRecDepth 100000
attribute [local irreducible] W OpsW OpsQ retP
/-- The Ref of bytes. -/
def ofR (at_ : Int) (bs : List UInt8) : Rf := ⟨tagD 3 [bs], at_, (bs.length : Int)⟩
theorem fill_ref {pl : List (Nat × Nat)} {zl : List Value} {d : Dig} {a l : Int} (hp : pl = [(0, 32), (32, 1), (33, 1)]) (hz : zl.length = 34) :
    fillV (fun i => pl[i]?) zl [(0, .agg (dgR d).toArray), (1, .int .i64 a), (2, .int .i64 l)] = some (refR ⟨d, a, l⟩) := by
  subst hp
  obtain ⟨A, p, q, rfl⟩ : ∃ A p q, zl = A ++ [p, q] := by
    rcases List.eq_nil_or_concat zl with rfl | ⟨L, q, rfl⟩
    · cases hz
    · rcases List.eq_nil_or_concat L with rfl | ⟨L', p, rfl⟩
      · simp at hz
      · exact ⟨L', p, q, by simp⟩
  have hA : A.length = 32 := by simpa using hz
  have hd := dgR_len d
  have e1 : splice (A ++ [p, q]) 0 (dgR d) = dgR d ++ [p, q] := by
    unfold splice; rw [List.take_zero, List.nil_append, Nat.zero_add, hd, List.drop_left' hA]
  have e2 : splice (dgR d ++ [p, q]) 32 [.int .i64 a] = dgR d ++ [.int .i64 a, q] := by
    unfold splice; rw [List.take_left' hd, ← List.drop_drop, List.drop_left' hd]; simp
  have e3 : splice (dgR d ++ [.int .i64 a, q]) 33 [.int .i64 l] = refR ⟨d, a, l⟩ := by
    have e4 : (dgR d).take 33 = dgR d := List.take_of_length_le (by omega)
    have e5 : (dgR d).drop 34 = [] := List.drop_eq_nil_of_le (by omega)
    unfold splice refR; simp [List.take_append, List.drop_append, hd, e4, e5]
  have ha : (Value.agg (dgR d).toArray).cells.toList = dgR d := rfl
  have h1 : (Value.int .i64 a).cells.toList = [.int .i64 a] := rfl
  have h2 : (Value.int .i64 l).cells.toList = [.int .i64 l] := rfl
  have s0 : (Value.agg (dgR d).toArray).cells.size = 32 := by show (dgR d).toArray.size = 32; simp [hd]
  have s1 : (Value.int .i64 a).cells.size = 1 := rfl
  have s2 : (Value.int .i64 l).cells.size = 1 := rfl
  simp only [fillV, List.getElem?_cons_zero, List.getElem?_cons_succ]
  rw [if_pos ⟨s0, by rw [hz]; decide⟩, ha, e1, if_pos ⟨s1, by simp [hd]⟩, h1, e2, if_pos ⟨s2, by simp [hd]⟩, h2, e3]
theorem bl_Of (w : World) (at_ : Int) (v : Value) (bs : List UInt8) (hv : By w v bs) (hl : bs.length ≤ 100000) : Ret Tryd.prog 56 [.int .i64 at_, v].toArray w fun r w' => r = .agg (refR (ofR at_ bs)).toArray ∧ Keep All w w' := by
  obtain ⟨a0, c0, rfl, hc0, hcm0⟩ := hv.form
  refine enter (fn := Tryd.f56) (n := 12) Tryd.func56 rfl rfl (by simp) ?_
  refine W_seq ?_
  refine W_region ?_
  refine o_alloc rfl rfl rfl ?_; intro w1 b1 e1 hB1 hk1 hs1
  refine ops_nil ?_
  refine W_seq ?_
  refine W_region ?_
  refine o_mvt rfl ?_
  refine o_bs1 (v := _) rfl rfl rfl rfl rfl rfl ?_; intro w2 b2 e2 hB2 hk2 hs2
  refine op_call rfl rfl rfl (sh_Tagged w2 _ 3 [bs] (rowsB_one hB2 ((hv.k hk1).k hk2)) (tag_1 _ hl)) ?_; rintro v3 w3 ⟨rfl, hk3⟩
  refine o_mvt rfl ?_
  refine o_mvt rfl ?_
  refine op_run (r_len rfl rfl rfl) rfl ?_
  refine op_run (r_build (refR (ofR at_ bs)) (_) ([(0, .agg (dgR (tagD 3 [bs])).toArray), (1, .int .i64 at_), (2, .int .i64 (bs.length : Int))]) rfl rfl rfl rfl rfl (fill_ref (by kernel_rfl) rfl)) rfl ?_
  refine o_storeA (cs := refR (ofR at_ bs)) rfl rfl (by first | rfl | exact binV_one _ | exact dgR_one _ | exact refR_one _ | exact secR_one _ | exact all_c8 _) (by first | rfl | (rw [binV_len]; rfl) | (rw [dgR_len]; rfl) | (rw [refR_len]; rfl) | (rw [secR_len]; rfl) | (rw [List.length_map, tagF_len]; rfl)) (hk3.blk' (hk2.blk' hB1 trivial) trivial) (by exact Nat.le_of_eq (by simp [refR_len])) rfl ?_; intro w5 hB5 hk5 hs5
  rw [splice_all (by simp [refR_len])] at hB5
  refine ops_nil ?_
  refine W_ret ?_
  refine retA (refR (ofR at_ bs)) rfl rfl rfl rfl (by first | rfl | (rw [binV_len]; rfl) | (rw [dgR_len]; rfl) | (rw [refR_len]; rfl) | (rw [secR_len]; rfl) | (rw [List.length_map, tagF_len]; rfl)) hB5.all ?_
  exact ⟨rfl, ((hk1.trans hk2).trans hk3).new hk5 (by omega)⟩
end Go.Proofs.YtigehkfdfecfoaaDoor.B
