/-
  CellBytes's walk.
-/
import Derived.Test.YthjmobiidlolhaaCell
namespace Go.Proofs.Ythjmobiidlolhaa.B
open Go
set_option linter.unusedVariables false
attribute [local irreducible] W OpsW OpsQ retP
def z32 : List UInt8 := List.replicate 32 0

theorem speaks05 (w : World) : Ret Try.prog 18 [].toArray w fun r w' => r = .bool true ∧ Keep All w w' := by
  refine enter (fn := Try.f18) (n := 6) Try.func18 rfl rfl (by simp) ?_
  refine W_seq ?_
  refine W_region ?_
  refine o_asc rfl ?_
  refine ops_nil ?_
  refine W_seq ?_
  refine W_region ?_
  refine op_run (r_buildA (z32.map c8) (_) ([]) rfl rfl rfl rfl rfl (rfl)) rfl ?_
  refine op_call rfl rfl rfl (cell_New w 18446744073709551615 z32 rfl) ?_; rintro v2 w2 ⟨b2, rfl, hb2, hB2, hk2⟩
  refine op_run (r_buildA (z32.map c8) (_) ([]) rfl rfl rfl rfl rfl (rfl)) rfl ?_
  refine op_call rfl rfl rfl (cell_Advance w2 b2 18446744073709551615 z32 z32 rfl rfl (by omega) hB2) ?_; rintro v4 w4 ⟨rfl, hk4⟩
  refine op_run (r_eql rfl rfl) rfl ?_
  refine o_ast rfl ?_
  refine ops_nil ?_
  refine W_ret ?_
  refine ret1 (.bool true) rfl ?_ ?_; rfl
  exact ⟨rfl, hk2.trans hk4⟩

theorem walk_CellBytes (w : World) (l : List UInt8) (hl : l.length = 40) : Ret Try.prog 6 [.agg (l.map c8).toArray].toArray w fun r w' => r = .bool true ∧ Keep All w w' := by
  have hl8 : (l.take 8).length = 8 := by simp [hl]
  have hl32 : (l.drop 8).length = 32 := by simp [hl]
  have hn : unbe (l.take 8) < 2 ^ 64 := by have := unbe_lt (l.take 8); rw [hl8] at this; omega
  have hback : be8 (unbe (l.take 8)) ++ l.drop 8 = l := by rw [be8_unbe _ hl8, List.take_append_drop]
  have hCB : ∀ (v : World) (b : Nat), Blk v b (cellC (unbe (l.take 8)) (l.drop 8)) 56 → Ret Try.prog 21 [.pointer (some ⟨b, 0, none⟩)].toArray v fun r w' => r = .agg (l.map c8).toArray ∧ Keep All v w' := by
    intro v b h
    have := cell_Bytes v b _ _ hl32 h
    rwa [hback] at this
  have hok : okC Try.prog 2 40 (l.map c8) := okC_bytes rfl rfl rfl l hl
  refine enter (fn := Try.f6) (n := 27) Try.func6 rfl rfl (by simp) ?_
  refine W_seq ?_
  refine W_region ?_
  refine o_box (cs := l.map c8) rfl rfl rfl ?_; intro w1 b1 e1 hB1 hk1 hs1
  refine o_asc rfl ?_
  refine ops_nil ?_
  refine W_seq ?_
  refine W_seq ?_
  refine W_region ?_
  refine op_call rfl rfl rfl (speaks05 w1) ?_; rintro v2 w2 ⟨rfl, hk2⟩
  refine op_run (r_not rfl) rfl ?_
  refine ops_nil ?_
  refine W_no rfl (rfl) ?_
  refine W_skip ?_
  refine W_seq ?_
  refine W_region ?_
  refine op_run (r_loadA (l.map c8) rfl rfl rfl (by rw [List.length_map, hl]; rfl) (hk2.blk' hB1 trivial).all) rfl ?_
  refine op_call rfl rfl rfl (cell_Load w2 l hl) ?_; rintro v6 w6 ⟨b6, rfl, hb6, hB6, hk6⟩
  refine o_ast rfl ?_
  refine ops_nil ?_
  refine W_seq ?_
  refine W_region ?_
  refine o_mvt rfl ?_
  refine op_call rfl rfl rfl (cell_Get w6 b6 _ _ hl32 hB6) ?_; rintro v7 w7 ⟨rfl, hk7⟩
  refine o_mvt rfl ?_
  refine op_run (r_extract rfl rfl) rfl ?_
  refine op_run (r_extract rfl rfl) rfl ?_
  refine o_alloc rfl rfl rfl ?_; intro w8 b8 e8 hB8 hk8 hs8
  refine o_ast rfl ?_
  refine o_storeA (cs := (l.drop 8).map c8) rfl rfl (all_c8 _) (by rw [List.length_map, hl32]; rfl) hB8 (by rw [List.length_map, hl32]; decide) rfl ?_; intro w9 hB9 hk9 hs9
  refine ops_nil ?_
  refine W_seq ?_
  rw [splice_all (by rw [List.length_map, hl32]; rfl)] at hB9
  have hk19 : Keep All w w9 := ((hk1.trans hk2).trans ((hk6.trans hk7).trans hk8)).new hk9 (by have := (hk1.trans hk2).size; have := (hk6.trans hk7).size; omega)
  have hC : Blk w9 b6 (cellC (unbe (l.take 8)) (l.drop 8)) 56 := hk9.blk' (hk8.blk' (hk7.blk' hB6 trivial) trivial) (by have := (hk7.blk' hB6 trivial).lt; show b6 ≠ b8; omega)
  have hA : Blk w9 b1 (l.map c8) 40 := hk9.blk' ((((hk2.trans hk6).trans hk7).trans hk8).blk' hB1 trivial) (by have := (((hk2.trans hk6).trans hk7).blk' hB1 trivial).lt; show b1 ≠ b8; omega)
  refine W_held (Keep All w9) (by kernel_rfl) (Keep.drawn w9) (fun hS => ?_)
  refine any_mvt 0 rfl (by kernel_rfl) (by kernel_rfl) (by kernel_rfl) rfl hS ?_
  refine any_run 2 (fun w' hS' => (r_loadA (l.map c8) rfl rfl rfl (by rw [List.length_map, hl]; rfl) (hS'.blk' hA trivial).all)) rfl (by kernel_rfl) (by kernel_rfl) (by kernel_rfl) rfl hS ?_
  refine any_one 1 (by kernel_rfl) (one_of rfl ?_)
  refine op_call rfl rfl rfl (hCB _ b6 (hS.blk' hC trivial)) ?_; rintro v12 w12 ⟨rfl, hk12⟩
  refine ops_nil ⟨hS.trans hk12, fun hS => ?_⟩
  refine any_run 3 (fun w' hS' => (r_eqlC (p := True) rfl rfl rfl rfl rfl (hok) (hok) rfl (by simp))) rfl (by kernel_rfl) (by kernel_rfl) (by kernel_rfl) rfl hS ?_
  refine any_mvt 4 rfl (by kernel_rfl) (by kernel_rfl) (by kernel_rfl) rfl hS ?_
  refine a_split 19 true rfl (fun g15 => ?_) (fun g15 => ?_)
  · refine any_mvt 5 rfl (by kernel_rfl) (by kernel_rfl) (by kernel_rfl) (g_yes rfl rfl rfl g15) hS ?_
    refine any_run 6 (fun w' hS' => (r_loadA ((l.drop 8).map c8) rfl rfl rfl (by rw [List.length_map, hl32]; rfl) (hS'.blk' hB9 trivial).all)) rfl (by kernel_rfl) (by kernel_rfl) (by kernel_rfl) (g_yes rfl rfl rfl g15) hS ?_
    refine any_run 9 (fun w' hS' => (r_loadA (l.map c8) rfl rfl rfl (by rw [List.length_map, hl]; rfl) (hS'.blk' hA trivial).all)) rfl (by kernel_rfl) (by kernel_rfl) (by kernel_rfl) (g_yes rfl rfl rfl g15) hS ?_
    refine any_one 7 (by kernel_rfl) (one_of rfl ?_)
    refine op_call rfl rfl (g_yes rfl rfl rfl g15) (cell_New _ _ _ hl32) ?_; rintro v18 w18 ⟨b18, rfl, hb18, hB18, hk18⟩
    refine ops_nil ⟨hS.trans hk18, fun hS => ?_⟩
    refine any_one 8 (by kernel_rfl) (one_of rfl ?_)
    refine op_call rfl rfl (g_yes rfl rfl rfl g15) (hCB _ b18 hB18) ?_; rintro v20 w20 ⟨rfl, hk20⟩
    refine ops_nil ⟨hS.trans hk20, fun hS => ?_⟩
    refine any_run 10 (fun w' hS' => (r_eqlC (p := True) rfl rfl rfl rfl rfl (hok) (hok) rfl (by simp))) rfl (by kernel_rfl) (by kernel_rfl) (by kernel_rfl) (g_yes rfl rfl rfl g15) hS ?_
    refine any_run 11 (fun w' hS' => (r_pickT rfl g15)) rfl (by kernel_rfl) (by kernel_rfl) (by kernel_rfl) rfl hS ?_
    refine any_ast 12 rfl (by kernel_rfl) (by kernel_rfl) (by kernel_rfl) rfl hS ?_
    refine any_done (by kernel_rfl) ?_
    refine W_ret ?_
    refine ret1 (.bool true) rfl ?_ ?_; rfl
    exact ⟨rfl, hk19.trans hS⟩
  · refine any_skip 5 rfl (by kernel_rfl) (by kernel_rfl) (by kernel_rfl) (g_no rfl rfl rfl g15) hS ?_
    refine any_skip 6 rfl (by kernel_rfl) (by kernel_rfl) (by kernel_rfl) (g_no rfl rfl rfl g15) hS ?_
    refine any_skip 9 rfl (by kernel_rfl) (by kernel_rfl) (by kernel_rfl) (g_no rfl rfl rfl g15) hS ?_
    refine any_one 7 (by kernel_rfl) (one_of rfl ?_)
    refine op_skip (g_no rfl rfl rfl g15) ?_
    refine ops_nil ⟨hS, fun hS => ?_⟩
    refine any_one 8 (by kernel_rfl) (one_of rfl ?_)
    refine op_skip (g_no rfl rfl rfl g15) ?_
    refine ops_nil ⟨hS, fun hS => ?_⟩
    refine any_skip 10 rfl (by kernel_rfl) (by kernel_rfl) (by kernel_rfl) (g_no rfl rfl rfl g15) hS ?_
    refine any_run 11 (fun w' hS' => (r_pickF rfl g15)) rfl (by kernel_rfl) (by kernel_rfl) (by kernel_rfl) rfl hS ?_
    refine any_ast 12 rfl (by kernel_rfl) (by kernel_rfl) (by kernel_rfl) rfl hS ?_
    refine any_done (by kernel_rfl) ?_
    refine W_ret ?_
    exact absurd g15 (by simp)
end Go.Proofs.Ythjmobiidlolhaa.B
