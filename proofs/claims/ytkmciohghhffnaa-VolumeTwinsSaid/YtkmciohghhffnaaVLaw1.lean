/-
  sporranlaw12: Call, speaks, great; what calls lead to.
-/
import Derived.Test.YtkmciohghhffnaaVRef2
import Derived.Test.YtkmciohghhffnaaTrod
namespace Go.Proofs.Ytkmciohghhffnaa.B
open Go
set_option linter.unusedVariables false
set_option maxHeartbeats 2000000
set_option maxRecDepth 100000
attribute [local irreducible] W OpsW OpsQ retP
theorem imgD_small {n : Nat} {l : AL} (h : BlkN n l) (hn : n ≤ 1000000) : ∀ i ∈ imgD l, i.bl.length ≤ 1000000 := by
  intro i hi
  obtain ⟨v, hv, e⟩ := imgD_iff.1 hi
  rw [e]
  show (blkS v.bl).length ≤ _
  rw [blkS_len]; exact Nat.le_trans (h _ (lookP_mem hv)).1 hn
structure CallV where
  what : Int
  name : List UInt8
  other : List UInt8
  number : Int
  quota : Int
  frozen : Bool
  finger : Bk
def callR (o : CallV) : List Value := [.int .i64 o.what, strA o.name, strA o.other, .int .i64 o.number, .int .i64 o.quota, .bool o.frozen] ++ blkR o.finger
theorem callR_len (o : CallV) : (callR o).length = 38 := by unfold callR; rw [List.length_append, blkR_len]; rfl
theorem callR_blk (o : CallV) {j : Nat} {u : Value} (h : (blkR o.finger)[j]? = some u) : (callR o)[6 + j]? = some u := by
  unfold callR
  rw [List.getElem?_append_right (by show 6 ≤ 6 + j; omega)]
  show (blkR o.finger)[6 + j - 6]? = _
  rw [Nat.add_sub_cancel_left]; exact h
theorem callR_one (o : CallV) : (callR o).all one = true := by
  unfold callR; rw [List.all_append, blkR_one]; rfl
def CallV.zero : CallV := ⟨0, [], [], 0, 0, false, Bk.zero⟩
def CallV.small (c : CallV) : Prop := c.name.length ≤ 100 ∧ c.other.length ≤ 100
theorem call_st {w : World} {b : Nat} {o o' : CallV} (h : Blk w b (splice (callR o) 0 (callR o')) 43) : Blk w b (callR o') 43 := by
  rwa [splice_all (by rw [callR_len, callR_len])] at h
def CallV.wf (o : CallV) : Prop := (-9223372036854775808 ≤ o.what ∧ o.what ≤ 9223372036854775807) ∧ (-9223372036854775808 ≤ o.number ∧ o.number ≤ 9223372036854775807) ∧ (-9223372036854775808 ≤ o.quota ∧ o.quota ≤ 9223372036854775807)
def RowCall (cs : List Value) (o : CallV) : Prop := cs = callR o ∧ o.wf
def CallsIn (w : World) (v : Value) (os : List CallV) : Prop := SlR w v 38 RowCall os
theorem CallsIn.k {w w' : World} {v : Value} {os : List CallV} (h : CallsIn w v os) (hk : Keep All w w') : CallsIn w' v os := by
  obtain ⟨a, c, rfl, h1, h2, h3, h4⟩ := h
  refine ⟨a, c, rfl, h1, h2, h3, fun x hx i y hy => ?_⟩
  obtain ⟨cs', hl, hc, hR⟩ := h4 x hx i y hy
  exact ⟨_, hl, fun j u hj => hk.cell (hc j u hj) trivial, hR⟩
theorem CallsIn.at {w : World} {v : Value} {os : List CallV} (h : CallsIn w v os) {k : Nat} {o : CallV} (ho : os[k]? = some o) : ∃ b off cp, v = .slice (some ⟨b, off, none⟩) os.length cp ∧ o.wf ∧
    ∀ (j : Nat) (u : Value), (callR o)[j]? = some u → w.cell? ((⟨b, off + k * 38, none⟩ : Addr).add j) = some u := by
  obtain ⟨hk, _⟩ := List.getElem?_eq_some_iff.1 ho
  obtain ⟨b, off, cp, ev_, _, hcells⟩ := SlR.at h (by decide) (by omega)
  obtain ⟨csk, _, hck, rfl, hw⟩ := hcells k o ho
  exact ⟨b, off, cp, ev_, hw, fun j u hj => by rw [Addr.add_lit]; exact hck j u hj⟩
theorem lw_great (w : World) (v : Value) (os : List CallV) (hv : CallsIn w v os) : Ret Try.prog 16 [v].toArray w fun r w' => (∃ g, r = .bool g ∧ (g = false → os.length ≤ 60 ∧ ∀ o ∈ os, o.small)) ∧ Keep All w w' := by
  obtain ⟨a0, c0, rfl, hc0, hcm0⟩ := SlR.form hv
  refine enter (fn := Try.f16) (n := 25) Try.func16 rfl rfl (by simp) ?_
  refine W_seq ?_
  refine W_region ?_
  refine o_asc rfl ?_
  refine ops_nil ?_
  refine W_seq ?_
  refine W_seq ?_
  refine W_region ?_
  refine o_mvt rfl ?_
  refine op_run (r_len rfl rfl rfl) rfl ?_
  refine op_run (r_gtr rfl rfl) rfl ?_
  refine ops_nil ?_
  refine W_cond_p rfl (fun h1 => ?_) (fun h1 => ?_)
  · refine W_seq ?_
    refine W_region ?_
    refine o_asc rfl ?_
    refine ops_nil ?_
    refine W_ret ?_
    refine ret1 (.bool true) rfl ?_ ?_; rfl
    exact ⟨⟨true, rfl, (fun h => by cases h)⟩, Keep.refl _⟩
  · refine W_skip ?_
    refine W_seq ?_
    refine W_seq ?_
    refine W_region ?_
    refine o_mvt rfl ?_
    refine op_run (r_len rfl rfl rfl) rfl ?_
    refine o_mvc rfl ?_
    refine ops_nil ?_
    refine W_block ?_
    refine W_loop [10] [2, 4, 10, 11, 12, 13, 14, 15, 16, 17, 18, 19, 20, 21, 22, 23, 24] (fun vs w' => ∃ k : Nat, vs = [.int .i64 k] ∧ k ≤ os.length ∧ (∀ c ∈ os.take k, c.small) ∧ Keep All w w') (fun vs _ => match vs with | [.int _ y] => os.length - y.toNat | _ => 0) ⟨0, rfl, Nat.zero_le _, (fun c h => by cases h), Keep.refl _⟩ ?_
    rintro J3 vs w3 ⟨k, rfl, hk, hs, hkw⟩ -
    refine W_seq ?_
    refine W_region ?_
    refine op_run (r_lss rfl rfl) rfl ?_
    refine ops_nil ?_
    refine W_seq ?_
    refine W_cond_p rfl (fun h4 => ?_) (fun h4 => ?_)
    · refine W_skip ?_
      refine W_seq ?_
      refine W_block ?_
      refine W_seq ?_
      refine W_region ?_
      have hkl : k < os.length := by omega
      obtain ⟨c, hc⟩ : ∃ c, os[k]? = some c := ⟨_, List.getElem?_eq_getElem hkl⟩
      obtain ⟨b, off, cp, ev_, hwf, hcell⟩ := (hv.k hkw).at hc
      cases ev_
      have hinc := inc64' k (by unfold maxLen at hcm0; omega)
      have hn1 := baSize c.name
      have hn2 := baSize c.other
      refine op_run (r_idxS rfl rfl rfl rfl (by omega) (by omega)) rfl ?_
      refine op_run (r_loadA (callR c) rfl rfl rfl (by first | rfl | (rw [binV_len]; rfl) | (rw [dgR_len]; rfl) | (rw [refR_len]; rfl) | (rw [secR_len]; rfl) | (rw [List.length_map, tagF_len]; rfl) | (rw [callR_len]; rfl)) ((fun j u hj => by rw [Int.toNat_natCast]; exact hcell j u hj))) rfl ?_
      refine o_alloc rfl rfl rfl ?_; intro w7 b7 e7 hB7 hk7 hs7
      have hB7' : Blk w7 b7 (callR CallV.zero) 43 := hB7
      refine o_storeA (cs := callR c) rfl rfl (by first | rfl | exact binV_one _ | exact dgR_one _ | exact refR_one _ | exact secR_one _ | exact all_c8 _ | exact callR_one _) (by first | rfl | (rw [binV_len]; rfl) | (rw [dgR_len]; rfl) | (rw [refR_len]; rfl) | (rw [secR_len]; rfl) | (rw [List.length_map, tagF_len]; rfl) | (rw [callR_len]; rfl)) hB7' (by exact Nat.le_of_eq (by simp [callR_len])) rfl ?_; intro w8 hB8 hk8 hs8
      have hB8' := call_st hB8
      have hkC := (hkw.trans hk7).new hk8 (by have := hkw.size; omega)
      refine ops_nil ?_
      refine W_cut [23] [14, 15, 16, 17, 18, 19, 20, 21, 22, 23] (fun vs w9 => vs = [.bool (decide (100 < c.name.length ∨ 100 < c.other.length))] ∧ w9 = w8) ?_ ?_
      · refine W_region ?_
        refine op_run (r_fieldAddr rfl rfl rfl rfl rfl) rfl ?_
        refine op_run (r_load rfl rfl rfl (hB8'.cell rfl)) rfl ?_
        refine op_run (r_len_str rfl rfl rfl) rfl ?_
        refine op_run (r_gtr rfl rfl) rfl ?_
        refine o_mvt rfl ?_
        refine g_split rfl rfl rfl (fun g11 => ?_) (fun g11 => ?_)
        · refine op_run (r_fieldAddr rfl rfl rfl rfl rfl) (g_yes rfl rfl rfl g11) ?_
          refine op_run (r_load rfl rfl rfl (hB8'.cell rfl)) (g_yes rfl rfl rfl g11) ?_
          refine op_run (r_len_str rfl rfl rfl) (g_yes rfl rfl rfl g11) ?_
          refine op_run (r_gtr rfl rfl) (g_yes rfl rfl rfl g11) ?_
          refine o_pkFt rfl g11 rfl ?_
          refine ops_nil ?_
          exact ⟨by (repeat (first | with_reducible exact offM_refl _ _ | refine offM_updc rfl ?_ | refine offM_upd rfl ?_ | refine offM_updo rfl ?_ | refine offM_updo_none ?_ | refine offM_head rfl rfl ?_)), congrArg (fun b => [Value.bool b]) (by have g := of_decide_eq_false g11; rw [decide_eq_decide]; constructor <;> intro h <;> omega), rfl⟩
        · refine op_skip (g_no rfl rfl rfl g11) ?_
          refine op_skip (g_no rfl rfl rfl g11) ?_
          refine op_skip (g_no rfl rfl rfl g11) ?_
          refine op_skip (g_no rfl rfl rfl g11) ?_
          refine o_pkTc rfl g11 rfl ?_
          refine ops_nil ?_
          exact ⟨by (repeat (first | with_reducible exact offM_refl _ _ | refine offM_updc rfl ?_ | refine offM_upd rfl ?_ | refine offM_updo rfl ?_ | refine offM_updo_none ?_ | refine offM_head rfl rfl ?_)), congrArg (fun b => [Value.bool b]) (by have g := of_decide_eq_true g11; symm; apply decide_eq_true; omega), rfl⟩
      · rintro J15 vs w15 ⟨rfl, rfl⟩ -
        refine W_cond_p rfl (fun h16 => ?_) (fun h16 => ?_)
        · refine W_seq ?_
          refine W_region ?_
          refine o_asc rfl ?_
          refine ops_nil ?_
          refine W_ret ?_
          refine ret1 (.bool true) rfl ?_ ?_; rfl
          exact ⟨⟨true, rfl, (fun h => by cases h)⟩, hkC⟩
        · refine W_skip ?_
          refine W_region ?_
          refine op_run (r_add rfl rfl) rfl ?_
          refine o_mvt rfl ?_
          refine ops_nil ?_
          refine ⟨by (repeat (first | with_reducible exact offM_refl _ _ | refine offM_updc rfl ?_ | refine offM_upd rfl ?_ | refine offM_updo rfl ?_ | refine offM_updo_none ?_ | refine offM_head rfl rfl ?_)), ⟨k + 1, congrArg (fun z : Int => [Value.int .i64 z]) hinc, by omega, fun x hx => ?_, hkC⟩, ?_⟩
          · rw [List.take_succ_eq_append_getElem hkl, (List.getElem?_eq_some_iff.1 hc).2] at hx
            rcases List.mem_append.1 hx with h | h
            · exact hs x h
            · rw [List.mem_singleton.1 h]; exact ⟨by omega, by omega⟩
          · show os.length - (IntKind.i64.wrap ((k : Int) + 1)).toNat < os.length - (k : Int).toNat
            rw [hinc]; omega
    · refine W_exit ?_
      refine W_seq ?_
      refine W_region ?_
      refine o_asc rfl ?_
      refine ops_nil ?_
      refine W_ret ?_
      refine ret1 (.bool false) rfl ?_ ?_; rfl
      have hke : k = os.length := by omega
      rw [hke, List.take_length] at hs
      exact ⟨⟨false, rfl, fun _ => ⟨by omega, hs⟩⟩, hkw⟩
def oneB : Bk := ⟨1 :: List.replicate 31 0, by simp⟩
theorem lw_speaks (w : World) : Ret Try.prog 15 [].toArray w fun r w' => r = .bool true ∧ Keep All w w' := by
  refine enter (fn := Try.f15) (n := 36) Try.func15 rfl rfl (by simp) ?_
  refine W_seq ?_
  refine W_region ?_
  refine o_asc rfl ?_
  refine ops_nil ?_
  refine W_seq ?_
  refine W_region ?_
  refine op_call rfl rfl rfl (vl_New w) ?_; rintro v1 w1 ⟨mb, bm, rfl, hmb, M1⟩
  refine o_ast rfl ?_
  refine ops_nil ?_
  refine W_seq ?_
  refine W_region ?_
  refine o_mvt rfl ?_
  refine op_call rfl rfl rfl (vl_Create w1 mb bm [] [97] 1 M1.m (by decide)) ?_; rintro v2 w2 ⟨rfl, l2, ha2, hS2⟩
  have M2 := M1.go hS2
  refine o_ast rfl ?_
  refine ops_nil ?_
  refine W_seq ?_
  refine W_region ?_
  refine o_mvt rfl ?_
  refine op_run (r_buildA (blkR oneB) (_) ([(0, .int .u8 1)]) rfl rfl rfl rfl rfl (rfl)) rfl ?_
  refine op_call rfl rfl rfl (vl_Put w2 mb bm l2 [97] 0 oneB M2.m) ?_; rintro v4 w4 ⟨rfl, l4, ha4, hS4⟩
  have M4 := M2.go hS4
  refine o_mvt rfl ?_
  refine op_run (r_extract rfl rfl) rfl ?_
  refine op_run (r_extract rfl rfl) rfl ?_
  refine op_run (r_extract rfl rfl) rfl ?_
  refine o_alloc rfl rfl rfl ?_; intro w5 b5 e5 hB5 hk5 hs5
  have hB5' : Blk w5 b5 (blkR Bk.zero) 41 := hB5
  have M5 := M4.keep hk5
  refine o_storeA (cs := blkR (putR (abs l2) [97] 0 oneB).1.f) rfl rfl (by first | rfl | exact binV_one _ | exact dgR_one _ | exact refR_one _ | exact secR_one _ | exact all_c8 _ | exact blkR_one _) (by first | rfl | (rw [binV_len]; rfl) | (rw [dgR_len]; rfl) | (rw [refR_len]; rfl) | (rw [secR_len]; rfl) | (rw [List.length_map, tagF_len]; rfl) | (rw [blkR_len]; rfl)) hB5' (by exact Nat.le_of_eq (by simp [blkR_len])) rfl ?_; intro w6 hB6 hk6 hs6
  have M6 := M5.st hB5' (by decide) hk6 (by have := M4.k.size; omega)
  refine o_ast rfl ?_
  refine o_ast rfl ?_
  refine ops_nil ?_
  refine W_seq ?_
  refine W_region ?_
  refine o_mvt rfl ?_
  refine op_run (r_buildA (blkR oneB) (_) ([(0, .int .u8 1)]) rfl rfl rfl rfl rfl (rfl)) rfl ?_
  refine op_call rfl rfl rfl (vl_Put w6 mb bm l4 [97] 1 oneB M6.m) ?_; rintro v8 w8 ⟨rfl, l8, ha8, hS8⟩
  have M8 := M6.go hS8
  refine o_mvt rfl ?_
  refine op_run (r_extract rfl rfl) rfl ?_
  refine op_run (r_extract rfl rfl) rfl ?_
  refine op_run (r_extract rfl rfl) rfl ?_
  refine o_alloc rfl rfl rfl ?_; intro w9 b9 e9 hB9 hk9 hs9
  have hB9' : Blk w9 b9 (blkR Bk.zero) 41 := hB9
  have M9 := M8.keep hk9
  refine o_storeA (cs := blkR (putR (abs l4) [97] 1 oneB).1.f) rfl rfl (by first | rfl | exact binV_one _ | exact dgR_one _ | exact refR_one _ | exact secR_one _ | exact all_c8 _ | exact blkR_one _) (by first | rfl | (rw [binV_len]; rfl) | (rw [dgR_len]; rfl) | (rw [refR_len]; rfl) | (rw [secR_len]; rfl) | (rw [List.length_map, tagF_len]; rfl) | (rw [blkR_len]; rfl)) hB9' (by exact Nat.le_of_eq (by simp [blkR_len])) rfl ?_; intro w10 hB10 hk10 hs10
  have M10 := M9.st hB9' (by decide) hk10 (by have := M8.k.size; omega)
  have q2 : creL (abs []) [97] 1 = [([97], ⟨1, false, []⟩)] := by unfold creL; rw [if_pos (by decide)]; rfl
  have e4 : (putR (abs l2) [97] 0 oneB).1.e = 0 := by rw [ha2, q2]; rfl
  have e8 : (putR (abs l4) [97] 1 oneB).1.e = 8 := by rw [ha4, ha2, q2]; rfl
  refine o_ast rfl ?_
  refine o_ast rfl ?_
  refine ops_nil ?_
  refine W_seq ?_
  refine W_region ?_
  refine o_mvt rfl ?_
  refine op_run (r_eql rfl rfl) rfl ?_
  refine o_mvt rfl ?_
  refine g_split rfl rfl rfl (fun g11 => ?_) (fun g11 => ?_)
  · refine o_mvt (g_yes rfl rfl rfl g11) ?_
    refine op_run (r_eql rfl rfl) (g_yes rfl rfl rfl g11) ?_
    refine o_pkTt rfl g11 rfl ?_
    refine o_mvt rfl ?_
    refine g_split rfl rfl rfl (fun g12 => ?_) (fun g12 => ?_)
    · refine o_mvt (g_yes rfl rfl rfl g12) ?_
      refine op_run (r_eql rfl rfl) (g_yes rfl rfl rfl g12) ?_
      refine o_pkTt rfl g12 rfl ?_
      refine o_ast rfl ?_
      refine ops_nil ?_
      refine W_ret ?_
      refine ret1 (.bool (decide ((putR (abs l4) [97] 1 oneB).1.e = 8))) rfl ?_ ?_; rfl
      exact ⟨by rw [e8]; rfl, M10.k⟩
    · refine op_skip (g_no rfl rfl rfl g12) ?_
      refine op_skip (g_no rfl rfl rfl g12) ?_
      refine o_pkFc rfl g12 rfl ?_
      refine o_ast rfl ?_
      refine ops_nil ?_
      refine W_ret ?_
      exfalso; rw [e4] at g12; cases g12
  · refine op_skip (g_no rfl rfl rfl g11) ?_
    refine op_skip (g_no rfl rfl rfl g11) ?_
    refine o_pkFc rfl g11 rfl ?_
    refine o_mvt rfl ?_
    refine op_skip (g_no rfl rfl rfl rfl) ?_
    refine op_skip (g_no rfl rfl rfl rfl) ?_
    refine o_pkFc rfl rfl rfl ?_
    refine o_ast rfl ?_
    refine ops_nil ?_
    refine W_ret ?_
    exfalso; exact absurd g11 (by decide)
/-- What a call leads to. -/
def stepD (l : AL) (c : CallV) : AL :=
  if c.what = 0 ∨ c.what = 1 then (setR l c.name c.number (decide (c.what = 0)) c.finger).2 else if c.what = 2 then creL l c.name c.quota else if c.what = 3 then copL l c.name c.other c.quota c.frozen else delP l c.name
theorem stepD_01 {l : AL} {c : CallV} (h : c.what = 0 ∨ c.what = 1) : stepD l c = (setR l c.name c.number (decide (c.what = 0)) c.finger).2 := if_pos h
theorem stepD_2 {l : AL} {c : CallV} (h : c.what = 2) : stepD l c = creL l c.name c.quota := by unfold stepD; rw [if_neg (by omega), if_pos h]
theorem stepD_3 {l : AL} {c : CallV} (h : c.what = 3) : stepD l c = copL l c.name c.other c.quota c.frozen := by unfold stepD; rw [if_neg (by omega), if_neg (by omega), if_pos h]
theorem stepD_X {l : AL} {c : CallV} (h : ¬ (c.what = 0 ∨ c.what = 1)) (h2 : c.what ≠ 2) (h3 : c.what ≠ 3) : stepD l c = delP l c.name := by unfold stepD; rw [if_neg h, if_neg h2, if_neg h3]
def runD : AL → List CallV → AL
  | l, [] => l
  | l, c :: cs => runD (stepD l c) cs
theorem runD_snoc (c : CallV) : ∀ (l : AL) (cs : List CallV), runD l (cs ++ [c]) = stepD (runD l cs) c
  | _, [] => rfl
  | l, x :: cs => runD_snoc c (stepD l x) cs
/-- What Put and Drop lead to: nothing, or other blocks in one volume that isn't frozen. -/
theorem setR_cases (l : AL) (nm : List UInt8) (n : Int) (put : Bool) (f : Bk) : ((setR l nm n put f).2 = l ∧ ((setR l nm n put f).1.e ≠ 0 → (setR l nm n put f).1.f = Bk.zero ∧ (setR l nm n put f).1.t = false)) ∨
    ∃ v, lookP l nm = some v ∧ v.fr = false ∧ 0 ≤ n ∧ n < 1048576 ∧ (setR l nm n put f).1 = ⟨(lookP v.bl n).getD Bk.zero, (lookP v.bl n).isSome, 0⟩ ∧
      ((put = false ∧ (setR l nm n put f).2 = putA l nm (delP v.bl n)) ∨ (put = true ∧ ¬ (lookP v.bl n = none ∧ v.q ≤ v.bl.length) ∧ (setR l nm n put f).2 = putA l nm (setP v.bl n f))) := by
  by_cases he : (getV l nm n).e = 0
  · obtain ⟨v, hv, h0, h1, hg⟩ := getV_ok he
    cases hf : v.fr with
    | true => exact .inl (by rw [setR_fr he hv hf]; exact ⟨rfl, fun _ => ⟨rfl, rfl⟩⟩)
    | false =>
      cases put with
      | false => exact .inr ⟨v, hv, hf, h0, h1, by rw [setR_drop he hv hf]; exact hg, .inl ⟨rfl, by rw [setR_drop he hv hf]⟩⟩
      | true =>
        by_cases hq : lookP v.bl n = none ∧ v.q ≤ v.bl.length
        · refine .inl ?_
          rw [setR_put he hv hf, if_pos hq]
          exact ⟨rfl, fun _ => ⟨by rw [hg, hq.1]; rfl, by rw [hg, hq.1]; rfl⟩⟩
        · exact .inr ⟨v, hv, hf, h0, h1, by rw [setR_put he hv hf, if_neg hq]; exact hg, .inr ⟨rfl, hq, by rw [setR_put he hv hf, if_neg hq]⟩⟩
  · refine .inl ?_
    rw [setR_k he]
    refine ⟨rfl, fun _ => ?_⟩
    show (getV l nm n).f = Bk.zero ∧ (getV l nm n).t = false
    cases hv : lookP l nm with
    | none => rw [getV_none hv]; exact ⟨rfl, rfl⟩
    | some v =>
      rw [getV_some hv] at he ⊢
      split
      · exact ⟨rfl, rfl⟩
      · rename_i hn; rw [if_neg hn] at he; exact absurd rfl he
theorem setR_no {l : AL} {nm : List UInt8} {n : Int} {put : Bool} {f : Bk} (h : (setR l nm n put f).1.e ≠ 0) : (setR l nm n put f).1.f = Bk.zero ∧ (setR l nm n put f).1.t = false := by
  rcases setR_cases l nm n put f with hh | ⟨v, _, _, _, _, e, _⟩
  · exact hh.2 h
  · rw [e] at h; exact absurd rfl h
theorem creE_ok {l : AL} {nm : List UInt8} {q : Int} (h : creE l nm q = 0) : mayQ nm q ∧ lookP l nm = none := by
  unfold creE at h
  by_cases hm : mayQ nm q
  · rw [if_neg (fun hn => hn hm)] at h
    refine ⟨hm, ?_⟩
    cases hv : lookP l nm with
    | none => rfl
    | some v => rw [hv] at h; cases h
  · rw [if_pos hm] at h; cases h
theorem copE_ok {l : AL} {nm other : List UInt8} {q : Int} (h : copE l nm other q = 0) : mayQ other q ∧ lookP l other = none ∧ ∃ v, lookP l nm = some v ∧ v.bl.length ≤ q := by
  by_cases hm : mayQ other q
  · cases hv : lookP l nm with
    | none => unfold copE at h; rw [if_neg (fun hn => hn hm), hv] at h; cases h
    | some v =>
      rw [copE_some hm hv] at h
      cases ho : lookP l other with
      | some v => rw [ho] at h; cases h
      | none =>
        rw [ho, if_neg (by decide)] at h
        refine ⟨hm, rfl, v, rfl, ?_⟩
        by_cases hq : q < v.bl.length
        · rw [if_pos hq] at h; cases h
        · omega
  · unfold copE at h; rw [if_pos hm] at h; cases h
def SmallN (n : Nat) (l : AL) : Prop := l.length ≤ n ∧ ∀ x ∈ l, x.1.length ≤ 20
theorem SmallN.m {n : Nat} {l : AL} (h : SmallN n l) (hn : n ≤ 1000) : SmallM l := ⟨Nat.le_trans h.1 hn, h.2⟩
theorem SmallN.add {n : Nat} {l : AL} {nm : List UInt8} {v : VA} (h : SmallN n l) (hn : namedB nm) : SmallN (n + 1) (l ++ [(nm, v)]) := by
  refine ⟨by rw [List.length_append]; have := h.1; simp; omega, fun x hx => ?_⟩
  rcases List.mem_append.1 hx with hx | hx
  · exact h.2 x hx
  · rw [List.mem_singleton.1 hx]; exact hn.2.2
theorem SmallN.up {n : Nat} {l : AL} (h : SmallN n l) : SmallN (n + 1) l := ⟨Nat.le_succ_of_le h.1, h.2⟩
theorem SmallN.put {n : Nat} {l : AL} (h : SmallN n l) (nm : List UInt8) (bl : List (Int × Bk)) : SmallN n (putA l nm bl) := by
  refine ⟨by unfold putA; rw [List.length_map]; exact h.1, fun x hx => ?_⟩
  obtain ⟨y, hy, rfl⟩ := List.mem_map.1 hx
  have := h.2 y hy
  by_cases hn : y.1 = nm <;> simpa [hn] using this
theorem SmallN.nil : SmallN 0 [] := ⟨Nat.le_refl _, fun x hx => by cases hx⟩
theorem SmallN.del {n : Nat} {l : AL} (h : SmallN n l) (nm : List UInt8) : SmallN n (delP l nm) := ⟨Nat.le_trans (List.length_filter_le _ _) h.1, fun x hx => h.2 x (List.mem_filter.1 hx).1⟩
theorem SmallN.set {n : Nat} {l : AL} (h : SmallN n l) (nm : List UInt8) (k : Int) (put : Bool) (f : Bk) : SmallN n (setR l nm k put f).2 := by
  rcases setR_cases l nm k put f with hh | ⟨v, _, _, _, _, _, ⟨_, e⟩ | ⟨_, _, e⟩⟩
  · rw [hh.1]; exact h
  · rw [e]; exact h.put _ _
  · rw [e]; exact h.put _ _
theorem SmallN.cre {n : Nat} {l : AL} (h : SmallN n l) (nm : List UInt8) (q : Int) : SmallN (n + 1) (creL l nm q) := by
  unfold creL
  by_cases he : creE l nm q = 0
  · rw [if_pos he]; exact h.add (creE_ok he).1.1
  · rw [if_neg he]; exact h.up
theorem SmallN.cop {n : Nat} {l : AL} (h : SmallN n l) (nm other : List UInt8) (q : Int) (fr : Bool) : SmallN (n + 1) (copL l nm other q fr) := by
  by_cases he : copE l nm other q = 0
  · obtain ⟨hm, _, v, hv, _⟩ := copE_ok he
    rw [copL_ok he hv]; exact h.add hm.1
  · rw [copL_err he]; exact h.up
theorem small_step {n : Nat} {l : AL} (h : SmallN n l) (c : CallV) : SmallN (n + 1) (stepD l c) := by
  unfold stepD
  split
  · exact (h.set _ _ _ _).up
  · split
    · exact h.cre _ _
    · split
      · exact h.cop _ _ _ _
      · exact (h.del _).up
theorem small_run : ∀ (os : List CallV) (n : Nat) (l : AL), SmallN n l → SmallN (n + os.length) (runD l os)
  | [], _, _, h => h
  | o :: os, n, l, h => by
    have := small_run os (n + 1) _ (small_step h o)
    rw [show n + 1 + os.length = n + (o :: os).length by simp; omega] at this
    exact this
theorem BlkN.up {n : Nat} {l : AL} (h : BlkN n l) : BlkN (n + 1) l := h.mono (Nat.le_succ n)
theorem BlkN.addv {n : Nat} {l : AL} (h : BlkN n l) (nm : List UInt8) (v : VA) (hv : v.bl.length ≤ n ∧ ∀ p ∈ v.bl, 0 ≤ p.1 ∧ p.1 < 1048576) : BlkN n (l ++ [(nm, v)]) := fun x hx => by
  rcases List.mem_append.1 hx with hx | hx
  · exact h x hx
  · rw [List.mem_singleton.1 hx]; exact hv
theorem BlkN.del {n : Nat} {l : AL} (h : BlkN n l) (nm : List UInt8) : BlkN n (delP l nm) := fun x hx => h x (List.mem_filter.1 hx).1
theorem BlkN.set {n : Nat} {l : AL} (h : BlkN n l) (nm : List UInt8) (k : Int) (put : Bool) (f : Bk) : BlkN (n + 1) (setR l nm k put f).2 := by
  rcases setR_cases l nm k put f with hh | ⟨v, hv, _, h0, h1, _, ⟨_, e⟩ | ⟨_, _, e⟩⟩
  · rw [hh.1]; exact h.up
  · rw [e]
    have hvm := h _ (lookP_mem hv)
    exact h.up.put _ ⟨Nat.le_succ_of_le (Nat.le_trans (List.length_filter_le _ _) hvm.1), fun p hp => hvm.2 p (List.mem_filter.1 hp).1⟩
  · rw [e]
    have hvm := h _ (lookP_mem hv)
    refine h.up.put _ ⟨Nat.le_trans (setP_len _ _ _) (Nat.succ_le_succ hvm.1), fun p hp => ?_⟩
    rcases setP_mem hp with rfl | hp
    · exact ⟨h0, h1⟩
    · exact hvm.2 p hp
theorem BlkN.cre {n : Nat} {l : AL} (h : BlkN n l) (nm : List UInt8) (q : Int) : BlkN n (creL l nm q) := by
  unfold creL; split
  · exact h.addv _ _ ⟨Nat.zero_le _, fun p hp => by cases hp⟩
  · exact h
theorem BlkN.cop {n : Nat} {l : AL} (h : BlkN n l) (nm other : List UInt8) (q : Int) (fr : Bool) : BlkN n (copL l nm other q fr) := by
  by_cases he : copE l nm other q = 0
  · obtain ⟨_, _, v, hv, _⟩ := copE_ok he
    rw [copL_ok he hv]; exact h.addv _ _ (h _ (lookP_mem hv))
  · rw [copL_err he]; exact h
theorem blk_step {n : Nat} {l : AL} (h : BlkN n l) (c : CallV) : BlkN (n + 1) (stepD l c) := by
  unfold stepD
  split
  · exact h.set _ _ _ _
  · split
    · exact (h.cre _ _).up
    · split
      · exact (h.cop _ _ _ _).up
      · exact (h.del _).up
theorem blk_run : ∀ (os : List CallV) (n : Nat) (l : AL), BlkN n l → BlkN (n + os.length) (runD l os)
  | [], _, _, h => h
  | o :: os, n, l, h => by
    have := blk_run os (n + 1) _ (blk_step h o)
    rw [show n + 1 + os.length = n + (o :: os).length by simp; omega] at this
    exact this
theorem small_take {os : List CallV} (h : os.length ≤ 60) (k : Nat) : SmallN 60 (runD [] (os.take k)) := by
  have h1 := small_run (os.take k) 0 [] SmallN.nil
  exact ⟨Nat.le_trans h1.1 (by rw [List.length_take]; omega), h1.2⟩
theorem blk_take {os : List CallV} (h : os.length ≤ 60) (k : Nat) : BlkN 60 (runD [] (os.take k)) :=
  (blk_run (os.take k) 0 [] BlkN.nil).mono (by rw [List.length_take]; omega)
theorem ModW.nd {w : World} {mb bm : Nat} {l : ModL} (h : ModW w mb bm l) : NdA (abs l) := by
  refine ⟨by unfold abs; rw [mapP_keys]; exact h.nodup, fun x hx => ?_⟩
  obtain ⟨y, hy, rfl⟩ := List.mem_map.1 hx
  have := (h.v y hy).2.nodup
  rw [mapP_keys] at this
  exact this
theorem ImgsS.kM {w w' : World} {mb bm : Nat} {l : ModL} {v : Value} {L : List Img} {ys : List (Img × Value)} (h : ImgsS w v L ys) (hM : ModW w mb bm l) (hk : Keep (fun z => ¬ ModB bm l z) w w') : ImgsS w' v L ys :=
  ⟨h.e, h.o.kM hM hk, fun y hy => (h.b y hy).kM hM hk⟩
end Go.Proofs.Ytkmciohghhffnaa.B
