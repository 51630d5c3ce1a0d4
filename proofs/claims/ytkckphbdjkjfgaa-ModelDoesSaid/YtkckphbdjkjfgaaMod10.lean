/-
  Rows of operations; sporranlaw15.Great.
-/
import Derived.Test.YtkckphbdjkjfgaaMod9
import Derived.Test.YtkckphbdjkjfgaaTrod
namespace Go.Proofs.Ytkckphbdjkjfgaa.B
open Go
set_option linter.unusedVariables false
set_option maxHeartbeats 2000000
set_option maxRecDepth 100000
attribute [local irreducible] W OpsW OpsQ retP
def OpV.wf (o : OpV) : Prop := (-9223372036854775808 ≤ o.kind ∧ o.kind ≤ 9223372036854775807) ∧ (-9223372036854775808 ≤ o.number ∧ o.number ≤ 9223372036854775807) ∧ (-9223372036854775808 ≤ o.quota ∧ o.quota ≤ 9223372036854775807)
def RowOp (cs : List Value) (o : OpV) : Prop := cs = opR o ∧ o.wf
def OpsIn (w : World) (v : Value) (os : List OpV) : Prop := SlR w v 53 RowOp os
theorem OpsIn.k {w w' : World} {v : Value} {os : List OpV} (h : OpsIn w v os) (hk : Keep All w w') : OpsIn w' v os := by
  obtain ⟨a, c, rfl, h1, h2, h3, h4⟩ := h
  refine ⟨a, c, rfl, h1, h2, h3, fun x hx i y hy => ?_⟩
  obtain ⟨cs', hl, hc, hR⟩ := h4 x hx i y hy
  exact ⟨_, hl, fun j u hj => hk.cell (hc j u hj) trivial, hR⟩
theorem OpsIn.at {w : World} {v : Value} {os : List OpV} (h : OpsIn w v os) {k : Nat} {o : OpV} (ho : os[k]? = some o) : ∃ b off cp, v = .slice (some ⟨b, off, none⟩) os.length cp ∧ o.wf ∧
    ∀ (j : Nat) (u : Value), (opR o)[j]? = some u → w.cell? ((⟨b, off + k * 53, none⟩ : Addr).add j) = some u := by
  obtain ⟨hk, _⟩ := List.getElem?_eq_some_iff.1 ho
  obtain ⟨b, off, cp, ev_, _, hcells⟩ := SlR.at h (by decide) (by omega)
  obtain ⟨csk, _, hck, rfl, hw⟩ := hcells k o ho
  exact ⟨b, off, cp, ev_, hw, fun j u hj => by rw [Addr.add_lit]; exact hck j u hj⟩
theorem opR_one (o : OpV) : (opR o).all one = true := by
  unfold opR; rw [List.all_append, blkR_one]; rfl
def OpV.zero : OpV := ⟨0, [], [], 0, 0, Bk.zero⟩
theorem op_st {w : World} {b : Nat} {o o' : OpV} (h : Blk w b (splice (opR o) 0 (opR o')) 26) : Blk w b (opR o') 26 := by
  rwa [splice_all (by rw [opR_len, opR_len])] at h
theorem lw_Great (w : World) (v : Value) (os : List OpV) (hv : OpsIn w v os) : Ret Try.prog 9 [v].toArray w fun r w' => (∃ g, r = .bool g ∧ (g = false → os.length ≤ 80 ∧ ∀ o ∈ os, o.small)) ∧ Keep All w w' := by
  obtain ⟨a0, c0, rfl, hc0, hcm0⟩ := SlR.form hv
  refine enter (fn := Try.f9) (n := 25) Try.func9 rfl rfl (by simp) ?_
  refine W_seq ?_
  refine W_region ?_
  refine o_asc rfl ?_
  refine ops_nil ?_
  refine W_seq ?_
  refine W_seq ?_
  refine W_region ?_
  refine o_mvt rfl ?_
  refine op_run (r_len rfl rfl rfl) rfl ?_
  refine op_run (r_gtr rfl rfl) rfl ?_
  refine ops_nil ?_
  refine W_cond_p rfl (fun h1 => ?_) (fun h1 => ?_)
  · refine W_seq ?_
    refine W_region ?_
    refine o_asc rfl ?_
    refine ops_nil ?_
    refine W_ret ?_
    refine ret1 (.bool true) rfl ?_ ?_; rfl
    exact ⟨⟨true, rfl, (fun h => by cases h)⟩, Keep.refl _⟩
  · refine W_skip ?_
    refine W_seq ?_
    refine W_seq ?_
    refine W_region ?_
    refine o_mvt rfl ?_
    refine op_run (r_len rfl rfl rfl) rfl ?_
    refine o_mvc rfl ?_
    refine ops_nil ?_
    refine W_block ?_
    refine W_loop [10] [2, 4, 10, 11, 12, 13, 14, 15, 16, 17, 18, 19, 20, 21, 22, 23, 24] (fun vs w' => ∃ k : Nat, vs = [.int .i64 k] ∧ k ≤ os.length ∧ (∀ c ∈ os.take k, c.small) ∧ Keep All w w') (fun vs _ => match vs with | [.int _ y] => os.length - y.toNat | _ => 0) ⟨0, rfl, Nat.zero_le _, (fun c h => by cases h), Keep.refl _⟩ ?_
    rintro J3 vs w3 ⟨k, rfl, hk, hs, hkw⟩ -
    refine W_seq ?_
    refine W_region ?_
    refine op_run (r_lss rfl rfl) rfl ?_
    refine ops_nil ?_
    refine W_seq ?_
    refine W_cond_p rfl (fun h4 => ?_) (fun h4 => ?_)
    · refine W_skip ?_
      refine W_seq ?_
      refine W_block ?_
      refine W_seq ?_
      refine W_region ?_
      have hkl : k < os.length := by omega
      obtain ⟨c, hc⟩ : ∃ c, os[k]? = some c := ⟨_, List.getElem?_eq_getElem hkl⟩
      obtain ⟨b, off, cp, ev_, hwf, hcell⟩ := (hv.k hkw).at hc
      cases ev_
      have hinc := inc64' k (by unfold maxLen at hcm0; omega)
      have hn1 := baSize c.name
      have hn2 := baSize c.other
      refine op_run (r_idxS rfl rfl rfl rfl (by omega) (by omega)) rfl ?_
      refine op_run (r_loadA (opR c) rfl rfl rfl (by first | rfl | (rw [binV_len]; rfl) | (rw [dgR_len]; rfl) | (rw [refR_len]; rfl) | (rw [secR_len]; rfl) | (rw [List.length_map, tagF_len]; rfl) | (rw [opR_len]; rfl)) ((fun j u hj => by rw [Int.toNat_natCast]; exact hcell j u hj))) rfl ?_
      refine o_alloc rfl rfl rfl ?_; intro w7 b7 e7 hB7 hk7 hs7
      have hB7' : Blk w7 b7 (opR OpV.zero) 26 := hB7
      refine o_storeA (cs := opR c) rfl rfl (by first | rfl | exact binV_one _ | exact dgR_one _ | exact refR_one _ | exact secR_one _ | exact all_c8 _ | exact opR_one _) (by first | rfl | (rw [binV_len]; rfl) | (rw [dgR_len]; rfl) | (rw [refR_len]; rfl) | (rw [secR_len]; rfl) | (rw [List.length_map, tagF_len]; rfl) | (rw [opR_len]; rfl)) hB7' (by exact Nat.le_of_eq (by simp [opR_len])) rfl ?_; intro w8 hB8 hk8 hs8
      have hB8' := op_st hB8
      have hkC := (hkw.trans hk7).new hk8 (by have := hkw.size; omega)
      refine ops_nil ?_
      refine W_cut [23] [14, 15, 16, 17, 18, 19, 20, 21, 22, 23] (fun vs w9 => vs = [.bool (decide (100 < c.name.length ∨ 100 < c.other.length))] ∧ w9 = w8) ?_ ?_
      · refine W_region ?_
        refine op_run (r_fieldAddr rfl rfl rfl rfl rfl) rfl ?_
        refine op_run (r_load rfl rfl rfl (hB8'.cell rfl)) rfl ?_
        refine op_run (r_len_str rfl rfl rfl) rfl ?_
        refine op_run (r_gtr rfl rfl) rfl ?_
        refine o_mvt rfl ?_
        refine g_split rfl rfl rfl (fun g11 => ?_) (fun g11 => ?_)
        · refine op_run (r_fieldAddr rfl rfl rfl rfl rfl) (g_yes rfl rfl rfl g11) ?_
          refine op_run (r_load rfl rfl rfl (hB8'.cell rfl)) (g_yes rfl rfl rfl g11) ?_
          refine op_run (r_len_str rfl rfl rfl) (g_yes rfl rfl rfl g11) ?_
          refine op_run (r_gtr rfl rfl) (g_yes rfl rfl rfl g11) ?_
          refine o_pkFt rfl g11 rfl ?_
          refine ops_nil ?_
          exact ⟨by (repeat (first | with_reducible exact offM_refl _ _ | refine offM_updc rfl ?_ | refine offM_upd rfl ?_ | refine offM_updo rfl ?_ | refine offM_updo_none ?_ | refine offM_head rfl rfl ?_)), congrArg (fun b => [Value.bool b]) (by have g := of_decide_eq_false g11; rw [decide_eq_decide]; constructor <;> intro h <;> omega), rfl⟩
        · refine op_skip (g_no rfl rfl rfl g11) ?_
          refine op_skip (g_no rfl rfl rfl g11) ?_
          refine op_skip (g_no rfl rfl rfl g11) ?_
          refine op_skip (g_no rfl rfl rfl g11) ?_
          refine o_pkTc rfl g11 rfl ?_
          refine ops_nil ?_
          exact ⟨by (repeat (first | with_reducible exact offM_refl _ _ | refine offM_updc rfl ?_ | refine offM_upd rfl ?_ | refine offM_updo rfl ?_ | refine offM_updo_none ?_ | refine offM_head rfl rfl ?_)), congrArg (fun b => [Value.bool b]) (by have g := of_decide_eq_true g11; symm; apply decide_eq_true; omega), rfl⟩
      · rintro J15 vs w15 ⟨rfl, rfl⟩ -
        refine W_cond_p rfl (fun h16 => ?_) (fun h16 => ?_)
        · refine W_seq ?_
          refine W_region ?_
          refine o_asc rfl ?_
          refine ops_nil ?_
          refine W_ret ?_
          refine ret1 (.bool true) rfl ?_ ?_; rfl
          exact ⟨⟨true, rfl, (fun h => by cases h)⟩, hkC⟩
        · refine W_skip ?_
          refine W_region ?_
          refine op_run (r_add rfl rfl) rfl ?_
          refine o_mvt rfl ?_
          refine ops_nil ?_
          refine ⟨by (repeat (first | with_reducible exact offM_refl _ _ | refine offM_updc rfl ?_ | refine offM_upd rfl ?_ | refine offM_updo rfl ?_ | refine offM_updo_none ?_ | refine offM_head rfl rfl ?_)), ⟨k + 1, congrArg (fun z : Int => [Value.int .i64 z]) hinc, by omega, fun x hx => ?_, hkC⟩, ?_⟩
          · rw [List.take_succ_eq_append_getElem hkl, (List.getElem?_eq_some_iff.1 hc).2] at hx
            rcases List.mem_append.1 hx with h | h
            · exact hs x h
            · rw [List.mem_singleton.1 h]; exact ⟨by omega, by omega⟩
          · show os.length - (IntKind.i64.wrap ((k : Int) + 1)).toNat < os.length - (k : Int).toNat
            rw [hinc]; omega
    · refine W_exit ?_
      refine W_seq ?_
      refine W_region ?_
      refine o_asc rfl ?_
      refine ops_nil ?_
      refine W_ret ?_
      refine ret1 (.bool false) rfl ?_ ?_; rfl
      have hke : k = os.length := by omega
      rw [hke, List.take_length] at hs
      exact ⟨⟨false, rfl, fun _ => ⟨by omega, hs⟩⟩, hkw⟩
theorem ti_op : tinfo Try.prog 26 = some (some (.agg (opR OpV.zero).toArray), 53, 104) := by kernel_rfl
theorem ops_rows {w : World} {x : Nat} {os : List OpV} (h : Blk w x (rows opR os) 26) (h0 : 0 < os.length) (h1 : os.length ≤ 1000) (hw : ∀ o ∈ os, o.wf) : OpsIn w (.slice (some ⟨x, 0, none⟩) os.length os.length) os := by
  refine ⟨some ⟨x, 0, none⟩, os.length, rfl, Nat.le_refl _, by unfold maxLen; omega, (fun e => by cases e), fun ad had i y hy => ?_⟩
  cases had
  refine ⟨opR y, opR_len y, fun j u hj => ?_, rfl, hw y (List.mem_of_getElem? hy)⟩
  rw [Addr.add_lit, Addr.add_lit]
  obtain ⟨hi, he⟩ := List.getElem?_eq_some_iff.1 hy
  refine h.cell ?_
  rw [Nat.zero_add, rows_get opR_len hi (by rw [← opR_len y]; exact (List.getElem?_eq_some_iff.1 hj).1), he]
  exact hj
end Go.Proofs.Ytkckphbdjkjfgaa.B
