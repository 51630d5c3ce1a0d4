/-
  sporranref15: Find, SameAnswer; model.Changes.
-/
import Derived.Test.YtkckphbdjkjfgaaImgS
namespace Go.Proofs.Ytkckphbdjkjfgaa.B
open Go
set_option linter.unusedVariables false
set_option maxHeartbeats 2000000
set_option maxRecDepth 100000
attribute [local irreducible] W OpsW OpsQ retP
/-- Where a name stands among images. -/
def FindP (L : List Img) (nm : List UInt8) (z : Int) : Prop := (z = -1 ∧ ∀ x ∈ L, x.nm ≠ nm) ∨ ∃ (k : Nat) (x : Img), z = k ∧ L[k]? = some x ∧ x.nm = nm ∧ ∀ y ∈ L.take k, y.nm ≠ nm
theorem rf15_Find (w : World) (v : Value) (L : List Img) (ys : List (Img × Value)) (nm : List UInt8) (h : ImgsS w v L ys) : Ret Try.prog 13 [v, strA nm].toArray w fun r w' => (∃ z, r = .int .i64 z ∧ FindP L nm z) ∧ Keep All w w' := by
  obtain ⟨a0, c0, rfl, _, hca⟩ := h.o.form
  refine enter (fn := Try.f13) (n := 20) Try.func13 rfl rfl (by simp) ?_
  refine W_seq ?_
  refine W_region ?_
  refine o_asc rfl ?_
  refine ops_nil ?_
  refine W_seq ?_
  refine W_seq ?_
  refine W_region ?_
  refine o_asc rfl ?_
  refine ops_nil ?_
  refine W_block ?_
  refine W_loop [5] [4, 5, 6, 7, 8, 9, 10, 11, 12, 13, 14, 15, 16, 17, 18, 19] (fun vs w' => ∃ k : Nat, vs = [.int .i64 k] ∧ k ≤ L.length ∧ (∀ y ∈ L.take k, y.nm ≠ nm) ∧ Keep All w w') (fun vs _ => match vs with | [.int _ y] => L.length - y.toNat | _ => 0) ⟨0, rfl, Nat.zero_le _, (fun y hy => by cases hy), Keep.refl _⟩ ?_
  rintro J1 vs w1 ⟨k, rfl, hk, hno, hkw⟩ -
  refine W_seq ?_
  refine W_seq ?_
  refine W_region ?_
  refine o_mvt rfl ?_
  refine o_mvt rfl ?_
  refine op_run (r_len rfl rfl rfl) rfl ?_
  refine op_run (r_lss rfl rfl) rfl ?_
  refine ops_nil ?_
  refine W_cond_p rfl (fun h2 => ?_) (fun h2 => ?_)
  · refine W_skip ?_
    refine W_seq ?_
    refine W_block ?_
    refine W_seq ?_
    refine W_region ?_
    refine o_mvt rfl ?_
    refine o_mvt rfl ?_
    have hkl : k < L.length := by omega
    obtain ⟨i, xa, ba, oa, ca, _, hia, ea, hcxa, hsa⟩ := h.at hkl
    cases ea
    have hinc := inc64' k (by unfold maxLen at hca; omega)
    refine op_run (r_idxS rfl rfl rfl rfl (by omega) (by omega)) rfl ?_
    refine op_run (r_fieldAddr rfl rfl rfl rfl rfl) rfl ?_
    refine op_run (r_load rfl rfl rfl (by rw [Int.toNat_natCast]; exact hkw.cell (hcxa 0 _ rfl) trivial)) rfl ?_
    refine o_mvt rfl ?_
    refine op_run (r_eqlStr rfl rfl) rfl ?_
    refine ops_nil ?_
    refine W_cond_p rfl (fun h5 => ?_) (fun h5 => ?_)
    · refine W_seq ?_
      refine W_region ?_
      refine o_mvt rfl ?_
      refine o_ast rfl ?_
      refine ops_nil ?_
      refine W_ret ?_
      refine ret1 (.int .i64 k) rfl ?_ ?_; rfl
      exact ⟨⟨k, rfl, .inr ⟨k, i, rfl, hia, h5, hno⟩⟩, hkw⟩
    · refine W_skip ?_
      refine W_region ?_
      refine o_mvt rfl ?_
      refine op_run (r_add rfl rfl) rfl ?_
      refine o_ast rfl ?_
      refine ops_nil ?_
      refine ⟨by (repeat (first | with_reducible exact offM_refl _ _ | refine offM_updc rfl ?_ | refine offM_upd rfl ?_ | refine offM_updo rfl ?_ | refine offM_updo_none ?_ | refine offM_head rfl rfl ?_)), ⟨k + 1, congrArg (fun z : Int => [Value.int .i64 z]) hinc, by omega, fun y hy => ?_, hkw⟩, ?_⟩
      · rw [List.take_succ_eq_append_getElem hkl, (List.getElem?_eq_some_iff.1 hia).2] at hy
        rcases List.mem_append.1 hy with h | h
        · exact hno y h
        · rw [List.mem_singleton.1 h]; exact h5
      · show L.length - (IntKind.i64.wrap ((k : Int) + 1)).toNat < L.length - (k : Int).toNat
        rw [hinc]; omega
  · refine W_exit ?_
    refine W_seq ?_
    refine W_region ?_
    refine o_asc rfl ?_
    refine ops_nil ?_
    refine W_ret ?_
    refine ret1 (.int .i64 (-1)) rfl ?_ ?_; rfl
    have hke : k = L.length := by omega
    rw [hke, List.take_length] at hno
    exact ⟨⟨-1, rfl, .inl ⟨rfl, hno⟩⟩, hkw⟩
def chgD (k : Int) : Prop := 1 ≤ k ∧ k ≤ 7 ∧ k ≠ 5
instance (k : Int) : Decidable (chgD k) := inferInstanceAs (Decidable (_ ∧ _))
theorem md_Changes (w : World) (k : Int) : Ret Try.prog 15 [.int .i64 k].toArray w fun r w' => r = .bool (decide (chgD k)) ∧ w' = w := by
  refine enter (fn := Try.f15) (n := 13) Try.func15 rfl rfl (by simp) ?_
  refine W_seq ?_
  refine W_region ?_
  refine o_asc rfl ?_
  refine ops_nil ?_
  refine W_seq ?_
  refine W_region ?_
  refine o_mvt rfl ?_
  refine op_run (r_geq rfl rfl) rfl ?_
  refine o_mvt rfl ?_
  refine g_split rfl rfl rfl (fun g1 => ?_) (fun g1 => ?_)
  · refine o_mvt (g_yes rfl rfl rfl g1) ?_
    refine op_run (r_leq rfl rfl) (g_yes rfl rfl rfl g1) ?_
    refine o_pkTt rfl g1 rfl ?_
    refine o_mvt rfl ?_
    refine g_split rfl rfl rfl (fun g2 => ?_) (fun g2 => ?_)
    · refine o_mvt (g_yes rfl rfl rfl g2) ?_
      refine op_run (r_neq rfl rfl) (g_yes rfl rfl rfl g2) ?_
      refine o_pkTt rfl g2 rfl ?_
      refine o_ast rfl ?_
      refine ops_nil ?_
      refine W_ret ?_
      refine ret1 (.bool (decide (k ≠ 5))) rfl ?_ ?_; rfl
      have g1 := of_decide_eq_true g1
      have g2 := of_decide_eq_true g2
      exact ⟨congrArg Value.bool (by rw [decide_eq_decide]; unfold chgD; constructor <;> intro h <;> omega), rfl⟩
    · refine op_skip (g_no rfl rfl rfl g2) ?_
      refine op_skip (g_no rfl rfl rfl g2) ?_
      refine o_pkFc rfl g2 rfl ?_
      refine o_ast rfl ?_
      refine ops_nil ?_
      refine W_ret ?_
      refine ret1 (.bool false) rfl ?_ ?_; rfl
      have g2 := of_decide_eq_false g2
      exact ⟨congrArg Value.bool (decide_eq_false (by unfold chgD; omega)).symm, rfl⟩
  · refine op_skip (g_no rfl rfl rfl g1) ?_
    refine op_skip (g_no rfl rfl rfl g1) ?_
    refine o_pkFc rfl g1 rfl ?_
    refine o_mvt rfl ?_
    refine op_skip (g_no rfl rfl rfl rfl) ?_
    refine op_skip (g_no rfl rfl rfl rfl) ?_
    refine o_pkFc rfl rfl rfl ?_
    refine o_ast rfl ?_
    refine ops_nil ?_
    refine W_ret ?_
    refine ret1 (.bool false) rfl ?_ ?_; rfl
    have g1 := of_decide_eq_false g1
    exact ⟨congrArg Value.bool (decide_eq_false (by unfold chgD; omega)).symm, rfl⟩
theorem ansS_blk {e : Int} {t : Bool} {b : Bk} {s : Value} {j : Nat} {u : Value} (h : (blkR b)[j]? = some u) : (ansS e t b s)[2 + j]? = some u := by
  unfold ansS
  have hj : j < 48 := by rw [← blkR_len b]; exact (List.getElem?_eq_some_iff.1 h).1
  rw [List.getElem?_append_left (by rw [List.length_append, blkR_len]; show 2 + j < 2 + 48; omega), List.getElem?_append_right (by show 2 ≤ 2 + j; omega)]
  show (blkR b)[2 + j - 2]? = _
  rw [Nat.add_sub_cancel_left]; exact h
theorem ansS_names (e : Int) (t : Bool) (b : Bk) (s : Value) : (ansS e t b s)[50]? = some s := by
  unfold ansS
  rw [List.getElem?_append_right (by rw [List.length_append, blkR_len]; exact Nat.le_refl _), List.length_append, blkR_len]; rfl
theorem rf15_SameAnswer (w : World) (e : Int) (t : Bool) (b : Bk) (s s' : Value) (l : List (List UInt8)) (h : Sl w s l.length 1 (l.map strA)) (h' : Sl w s' l.length 1 (l.map strA)) : Ret Try.prog 16 [.agg (ansS e t b s).toArray, .agg (ansS e t b s').toArray].toArray w fun r w' => r = .bool true ∧ Keep All w w' := by
  obtain ⟨a0, c0, rfl, _, hca⟩ := h.form
  obtain ⟨a1, c1, rfl, _, hcb⟩ := h'.form
  refine enter (fn := Try.f16) (n := 52) Try.func16 rfl rfl (by simp) ?_
  refine W_seq ?_
  refine W_region ?_
  refine o_box rfl rfl rfl ?_; intro w1 b1 e1 hB1 hk1 hs1
  have hB1 : Blk w1 b1 (ansS e t b (.slice a0 l.length c0)) 34 := hB1
  refine o_box rfl rfl rfl ?_; intro w2 b2 e2 hB2 hk2 hs2
  have hB2 : Blk w2 b2 (ansS e t b (.slice a1 l.length c1)) 34 := hB2
  have hB1 := hk2.blk' hB1 trivial
  have hk02 := hk1.trans hk2
  refine o_asc rfl ?_
  refine ops_nil ?_
  refine W_seq ?_
  refine W_cut [33] [6, 7, 8, 9, 10, 11, 12, 13, 14, 15, 16, 17, 18, 19, 20, 21, 22, 23, 24, 25, 26, 27, 28, 29, 30, 31, 32, 33] (fun vs w3 => vs = [.bool false] ∧ w3 = w2) ?_ ?_
  · refine W_region ?_
    refine op_run (r_fieldAddr rfl rfl rfl rfl rfl) rfl ?_
    refine op_run (r_load rfl rfl rfl (hB1.cell rfl)) rfl ?_
    refine op_run (r_fieldAddr rfl rfl rfl rfl rfl) rfl ?_
    refine op_run (r_load rfl rfl rfl (hB2.cell rfl)) rfl ?_
    refine op_run (r_neq rfl rfl) rfl ?_
    refine o_mvt rfl ?_
    refine g_split rfl rfl rfl (fun g6 => ?_) (fun g => absurd g (by simp))
    refine op_run (r_fieldAddr rfl rfl rfl rfl rfl) (g_yes rfl rfl rfl g6) ?_
    refine op_run (r_load rfl rfl rfl (hB1.cell rfl)) (g_yes rfl rfl rfl g6) ?_
    refine op_run (r_fieldAddr rfl rfl rfl rfl rfl) (g_yes rfl rfl rfl g6) ?_
    refine op_run (r_load rfl rfl rfl (hB2.cell rfl)) (g_yes rfl rfl rfl g6) ?_
    refine op_run (r_neqB rfl rfl rfl) (g_yes rfl rfl rfl g6) ?_
    refine o_pkFt rfl g6 rfl ?_
    refine o_mvt rfl ?_
    refine g_split rfl rfl rfl (fun g9 => ?_) (fun g => absurd g (by simp))
    refine op_run (r_fieldAddr rfl rfl rfl rfl rfl) (g_yes rfl rfl rfl g9) ?_
    refine op_run (r_loadA (blkR b) rfl rfl rfl (by first | rfl | (rw [binV_len]; rfl) | (rw [dgR_len]; rfl) | (rw [refR_len]; rfl) | (rw [secR_len]; rfl) | (rw [List.length_map, tagF_len]; rfl) | (rw [ansS_len]; rfl) | (rw [blkR_len]; rfl)) ((fun j u hj => by rw [Addr.add_lit]; exact hB1.cell (ansS_blk hj)))) (g_yes rfl rfl rfl g9) ?_
    refine op_run (r_fieldAddr rfl rfl rfl rfl rfl) (g_yes rfl rfl rfl g9) ?_
    refine op_run (r_loadA (blkR b) rfl rfl rfl (by first | rfl | (rw [binV_len]; rfl) | (rw [dgR_len]; rfl) | (rw [refR_len]; rfl) | (rw [secR_len]; rfl) | (rw [List.length_map, tagF_len]; rfl) | (rw [ansS_len]; rfl) | (rw [blkR_len]; rfl)) ((fun j u hj => by rw [Addr.add_lit]; exact hB2.cell (ansS_blk hj)))) (g_yes rfl rfl rfl g9) ?_
    refine op_run (r_neqC (p := True) rfl rfl rfl rfl (by kernel_rfl) ((okC_bk _)) ((okC_bk _)) rfl ((iff_of_true rfl trivial))) (g_yes rfl rfl rfl g9) ?_
    refine o_pkFt rfl g9 rfl ?_
    refine o_mvt rfl ?_
    refine g_split rfl rfl rfl (fun g13 => ?_) (fun g => absurd g (by simp))
    refine op_run (r_fieldAddr rfl rfl rfl rfl rfl) (g_yes rfl rfl rfl g13) ?_
    refine op_run (r_load rfl rfl rfl (hB1.cell (ansS_names _ _ _ _))) (g_yes rfl rfl rfl g13) ?_
    refine op_run (r_len rfl rfl rfl) (g_yes rfl rfl rfl g13) ?_
    refine op_run (r_fieldAddr rfl rfl rfl rfl rfl) (g_yes rfl rfl rfl g13) ?_
    refine op_run (r_load rfl rfl rfl (hB2.cell (ansS_names _ _ _ _))) (g_yes rfl rfl rfl g13) ?_
    refine op_run (r_len rfl rfl rfl) (g_yes rfl rfl rfl g13) ?_
    refine op_run (r_neq rfl rfl) (g_yes rfl rfl rfl g13) ?_
    refine o_pkFt rfl g13 rfl ?_
    refine ops_nil ?_
    exact ⟨by (repeat (first | with_reducible exact offM_refl _ _ | refine offM_updc rfl ?_ | refine offM_upd rfl ?_ | refine offM_updo rfl ?_ | refine offM_updo_none ?_ | refine offM_head rfl rfl ?_)), congrArg (fun b => [Value.bool b]) (by simp), rfl⟩
  · rintro J17 vs w17 ⟨rfl, rfl⟩ -
    refine W_no rfl (rfl) ?_
    refine W_skip ?_
    refine W_seq ?_
    refine W_seq ?_
    refine W_region ?_
    refine o_asc rfl ?_
    refine ops_nil ?_
    refine W_block ?_
    refine W_loop [5] [4, 5, 34, 35, 36, 37, 38, 39, 40, 41, 42, 43, 44, 45, 46, 47, 48, 49, 50, 51] (fun vs w' => ∃ k : Nat, vs = [.int .i64 k] ∧ k ≤ l.length ∧ Keep All w17 w') (fun vs _ => match vs with | [.int _ y] => l.length - y.toNat | _ => 0) ⟨0, rfl, Nat.zero_le _, Keep.refl _⟩ ?_
    rintro J20 vs w20 ⟨k, rfl, hk, hkw⟩ -
    refine W_seq ?_
    refine W_seq ?_
    refine W_region ?_
    refine o_mvt rfl ?_
    refine op_run (r_fieldAddr rfl rfl rfl rfl rfl) rfl ?_
    refine op_run (r_load rfl rfl rfl (hkw.cell (hB1.cell (ansS_names _ _ _ _)) trivial)) rfl ?_
    refine op_run (r_len rfl rfl rfl) rfl ?_
    refine op_run (r_lss rfl rfl) rfl ?_
    refine ops_nil ?_
    refine W_cond_p rfl (fun h22 => ?_) (fun h22 => ?_)
    · refine W_skip ?_
      refine W_seq ?_
      refine W_block ?_
      refine W_seq ?_
      have hkl : k < l.length := by omega
      obtain ⟨x, hx⟩ : ∃ x, l[k]? = some x := ⟨_, List.getElem?_eq_getElem hkl⟩
      obtain ⟨ba, oa, ca, ea, _, _, hca'⟩ := (h.keep (hk02.trans hkw) (fun _ _ => trivial)).at (by omega)
      cases ea
      obtain ⟨bb, ob, cb, eb, _, _, hcb'⟩ := (h'.keep (hk02.trans hkw) (fun _ _ => trivial)).at (by omega)
      cases eb
      have hinc := inc64' k (by unfold maxLen at hca; omega)
      refine W_quiet (Keep All w20) (by kernel_rfl) (by kernel_rfl) (Keep.drawn _) ?_
      refine q_run (fun _ _ => (r_fieldAddr rfl rfl rfl rfl rfl)) rfl ?_
      refine q_run (fun _ hk => r_load rfl rfl rfl (hk.cell (hkw.cell (hB1.cell (ansS_names _ _ _ _)) trivial) trivial)) rfl ?_
      refine q_mvt rfl ?_
      refine q_run (fun _ _ => r_idxS1 rfl rfl rfl rfl (by omega) (by omega)) rfl ?_
      refine q_run (fun _ hk => r_load rfl rfl rfl (hk.cell (by rw [Int.toNat_natCast]; exact hca' k (strA x) (by rw [List.getElem?_map, hx]; rfl)) trivial)) rfl ?_
      refine q_run (fun _ _ => (r_fieldAddr rfl rfl rfl rfl rfl)) rfl ?_
      refine q_run (fun _ hk => r_load rfl rfl rfl (hk.cell (hkw.cell (hB2.cell (ansS_names _ _ _ _)) trivial) trivial)) rfl ?_
      refine q_mvt rfl ?_
      refine q_run (fun _ _ => r_idxS1 rfl rfl rfl rfl (by omega) (by omega)) rfl ?_
      refine q_run (fun _ hk => r_load rfl rfl rfl (hk.cell (by rw [Int.toNat_natCast]; exact hcb' k (strA x) (by rw [List.getElem?_map, hx]; rfl)) trivial)) rfl ?_
      refine q_run (fun _ _ => r_neqStr rfl rfl) rfl ?_
      refine q_nil ?_; intro w31 hk31
      refine W_no rfl (by simp) ?_
      refine W_skip ?_
      refine W_region ?_
      refine o_mvt rfl ?_
      refine op_run (r_add rfl rfl) rfl ?_
      refine o_ast rfl ?_
      refine ops_nil ?_
      refine ⟨by (repeat (first | with_reducible exact offM_refl _ _ | refine offM_updc rfl ?_ | refine offM_upd rfl ?_ | refine offM_updo rfl ?_ | refine offM_updo_none ?_ | refine offM_head rfl rfl ?_)), ⟨k + 1, congrArg (fun z : Int => [Value.int .i64 z]) hinc, by omega, hkw.trans hk31⟩, ?_⟩
      show l.length - (IntKind.i64.wrap ((k : Int) + 1)).toNat < l.length - (k : Int).toNat
      rw [hinc]; omega
    · refine W_exit ?_
      refine W_seq ?_
      refine W_region ?_
      refine o_asc rfl ?_
      refine ops_nil ?_
      refine W_ret ?_
      refine ret1 (.bool true) rfl ?_ ?_; rfl
      exact ⟨rfl, hk02.trans hkw⟩
end Go.Proofs.Ytkckphbdjkjfgaa.B
