/-
  model: the document's example.
-/
import Derived.Test.YtkckphbdjkjfgaaMod8
namespace Go.Proofs.Ytkckphbdjkjfgaa.B
open Go
set_option linter.unusedVariables false
set_option maxHeartbeats 2000000
set_option maxRecDepth 100000
attribute [local irreducible] W OpsW OpsQ retP
theorem bl_abs (l : ModL) (b : Bk) : (∃ x ∈ l, ∃ p ∈ x.2.bl, p.2 = b) ↔ ∃ x ∈ abs l, ∃ p ∈ x.2.bl, p.2 = b := by
  unfold abs mapP
  constructor
  · rintro ⟨x, hx, p, hp, e⟩
    exact ⟨_, List.mem_map.2 ⟨x, hx, rfl⟩, p, hp, e⟩
  · rintro ⟨y, hy, p, hp, e⟩
    obtain ⟨x, hx, rfl⟩ := List.mem_map.1 hy
    exact ⟨x, hx, p, hp, e⟩
theorem ModS.out {w w1 w2 : World} {mb bm : Nat} {l2 : ModL} (hk : Keep All w w1) (h : ModS w1 mb bm [] w2 l2) (hb : w.heap.size ≤ bm) : Keep All w w2 :=
  hk.new (h.2.1.mono fun z _ hz hB => by rcases hB with e | ⟨x, hx, _⟩; exact hz e; cases hx) hb
theorem ModW.new {w : World} {mb bm : Nat} (hB : Blk w mb [.map (some bm)] 58) (hM : MapG strA w bm []) : ModW w mb bm [] :=
  ⟨hB, hM, (fun x hx => by cases hx), (fun x hx => by cases hx), List.nodup_nil⟩
def b7 : Bk := ⟨7 :: List.replicate 47 0, rfl⟩
def ox1 : OpV := ⟨1, [97], [], 0, 1, Bk.zero⟩
def ox2 : OpV := ⟨3, [97], [], 0, 0, b7⟩
def ox3 : OpV := ⟨5, [97], [], 0, 0, Bk.zero⟩
theorem do_x1 : doD [] ox1 = (Ans.no 0, [([97], ⟨1, false, []⟩)]) := by rfl
theorem do_x2 : doD [([97], ⟨1, false, []⟩)] ox2 = (Ans.no 0, [([97], ⟨1, false, [(0, b7)]⟩)]) := by rfl
theorem do_x3 : doD [([97], ⟨1, false, [(0, b7)]⟩)] ox3 = (⟨0, true, b7⟩, [([97], ⟨1, false, [(0, b7)]⟩)]) := by rfl
theorem one_b7 {ks : List Bk} (hn : ks.Nodup) (h : ∀ b, b ∈ ks ↔ ∃ x ∈ ([([97], ⟨1, false, [(0, b7)]⟩)] : AL), ∃ p ∈ x.2.bl, p.2 = b) : ks.length = 1 := by
  have hb : ∀ b, b ∈ ks ↔ b = b7 := fun b => by
    rw [h b]
    constructor
    · rintro ⟨x, hx, p, hp, e⟩
      rw [List.mem_singleton.1 hx] at hp
      rw [List.mem_singleton.1 hp] at e
      exact e.symm
    · rintro rfl
      exact ⟨_, List.mem_singleton.2 rfl, (0, b7), List.mem_singleton.2 rfl, rfl⟩
  match ks, hn, hb with
  | [], _, hb => cases (hb b7).2 rfl
  | [x], _, _ => rfl
  | x :: y :: r, hn, hb =>
    have h1 := (hb x).1 (List.mem_cons_self ..)
    have h2 := (hb y).1 (List.mem_cons_of_mem _ (List.mem_cons_self ..))
    exact absurd (List.mem_cons.2 (.inl (by rw [h1, h2]))) (List.nodup_cons.1 hn).1
theorem ansR_blk {e : Int} {t : Bool} {b : Bk} {j : Nat} {u : Value} (h : (blkR b)[j]? = some u) : (ansR e t b)[2 + j]? = some u := by
  unfold ansR
  have hj : j < 48 := by rw [← blkR_len b]; exact (List.getElem?_eq_some_iff.1 h).1
  rw [List.getElem?_append_left (by rw [List.length_append, blkR_len]; show 2 + j < 2 + 48; omega), List.getElem?_append_right (by show 2 ≤ 2 + j; omega)]
  show (blkR b)[2 + j - 2]? = _
  rw [Nat.add_sub_cancel_left]; exact h
theorem lw_speaks (w : World) : Ret Try.prog 8 [].toArray w fun r w' => r = .bool true ∧ Keep All w w' := by
  refine enter (fn := Try.f8) (n := 39) Try.func8 rfl rfl (by simp) ?_
  refine W_seq ?_
  refine W_region ?_
  refine o_asc rfl ?_
  refine ops_nil ?_
  refine W_seq ?_
  refine W_region ?_
  refine op_call rfl rfl rfl (md_New w) ?_; rintro v1 w1 ⟨mb, bm, rfl, hmb, hbm, _, hB1, hM1, hk1⟩
  have hW1 := ModW.new hB1 hM1
  refine o_ast rfl ?_
  refine ops_nil ?_
  refine W_seq ?_
  refine W_region ?_
  refine o_mvt rfl ?_
  refine op_run (r_build (opR ox1) (_) ([(0, .int .i64 1), (1, strA [97]), (4, .int .i64 1)]) rfl rfl rfl rfl rfl (rfl)) rfl ?_
  refine op_call rfl rfl rfl (md_Do1 w1 mb bm [] ox1 hW1 (by unfold OpV.small ox1; simp) rfl) ?_; rintro v3 w3 ⟨rfl, l1, ha1, hS1⟩
  have ha1 : abs l1 = [([97], ⟨1, false, []⟩)] := ha1.trans (congrArg Prod.snd do_x1)
  refine o_alloc rfl rfl rfl ?_; intro w4 b4 e4 hB4 hk4 hs4
  have hB4' : Blk w4 b4 (ansR 0 false Bk.zero) 34 := hB4
  have S4 := hS1.post hk4
  have hz := hS1.2.1.size
  refine o_storeA (cs := ansR 0 false Bk.zero) rfl rfl (by first | rfl | exact binV_one _ | exact dgR_one _ | exact refR_one _ | exact secR_one _ | exact all_c8 _ | exact ansR_one _ _ _ | exact blkR_one _) (by first | rfl | (rw [binV_len]; rfl) | (rw [dgR_len]; rfl) | (rw [refR_len]; rfl) | (rw [secR_len]; rfl) | (rw [List.length_map, tagF_len]; rfl) | (rw [opR_len]; rfl) | (rw [ansR_len]; rfl) | (rw [blkR_len]; rfl)) hB4' (by rw [ansR_len]; decide) rfl ?_; intro w5 hB5 hk5 hs5
  have hB5' := ans_st hB5
  have S5 := S4.st hB4' (by decide) (by decide) hk5 (by omega)
  refine ops_nil ?_
  refine W_seq ?_
  refine W_region ?_
  refine o_mvt rfl ?_
  refine op_run (r_buildA (blkR b7) (_) ([(0, .int .u8 7)]) rfl rfl rfl rfl rfl (rfl)) rfl ?_
  refine op_run (r_build (opR ox2) (_) ([(0, .int .i64 3), (1, strA [97]), (5, bkV b7)]) rfl rfl rfl rfl rfl (rfl)) rfl ?_
  refine op_call rfl rfl rfl (md_Do3 w5 mb bm l1 ox2 S5.1 rfl) ?_; rintro v8 w8 ⟨rfl, l2, ha2, hS8⟩
  rw [ha1] at ha2
  have ha2 : abs l2 = [([97], ⟨1, false, [(0, b7)]⟩)] := ha2.trans (congrArg Prod.snd do_x2)
  rw [ha1, do_x2]
  have S8 := S5.trans hS8
  have hz8 := hS8.2.1.size
  have hB8 := hS8.2.1.blk' hB5' (neB S5.1 hB5')
  refine o_alloc rfl rfl rfl ?_; intro w9 b9 e9 hB9 hk9 hs9
  have hB9' : Blk w9 b9 (ansR 0 false Bk.zero) 34 := hB9
  have S9 := S8.post hk9
  refine o_storeA (cs := ansR 0 false Bk.zero) rfl rfl (by first | rfl | exact binV_one _ | exact dgR_one _ | exact refR_one _ | exact secR_one _ | exact all_c8 _ | exact ansR_one _ _ _ | exact blkR_one _) (by first | rfl | (rw [binV_len]; rfl) | (rw [dgR_len]; rfl) | (rw [refR_len]; rfl) | (rw [secR_len]; rfl) | (rw [List.length_map, tagF_len]; rfl) | (rw [opR_len]; rfl) | (rw [ansR_len]; rfl) | (rw [blkR_len]; rfl)) hB9' (by rw [ansR_len]; decide) rfl ?_; intro w10 hB10 hk10 hs10
  have hB10' := ans_st hB10
  have S10 := S9.st hB9' (by decide) (by decide) hk10 (by omega)
  have hl4 := hB8.lt
  have hB410 := hk10.blk' (hk9.blk' hB8 trivial) (show b4 ≠ b9 by omega)
  refine ops_nil ?_
  refine W_seq ?_
  refine W_region ?_
  refine o_mvt rfl ?_
  refine op_run (r_build (opR ox3) (_) ([(0, .int .i64 5), (1, strA [97])]) rfl rfl rfl rfl rfl (rfl)) rfl ?_
  refine op_call rfl rfl rfl (md_Do5 w10 mb bm l2 ox3 S10.1 rfl) ?_; rintro v12 w12 ⟨rfl, l3, ha3, hS12⟩
  rw [ha2] at ha3
  have ha3 : abs l3 = [([97], ⟨1, false, [(0, b7)]⟩)] := ha3.trans (congrArg Prod.snd do_x3)
  rw [ha2, do_x3]
  have S12 := S10.trans hS12
  have hz12 := hS12.2.1.size
  have hB412 := hS12.2.1.blk' hB410 (neB S10.1 hB410)
  have hB912 := hS12.2.1.blk' hB10' (neB S10.1 hB10')
  refine o_alloc rfl rfl rfl ?_; intro w13 b13 e13 hB13 hk13 hs13
  have hB13' : Blk w13 b13 (ansR 0 false Bk.zero) 34 := hB13
  have S13 := S12.post hk13
  refine o_storeA (cs := ansR 0 true b7) rfl rfl (by first | rfl | exact binV_one _ | exact dgR_one _ | exact refR_one _ | exact secR_one _ | exact all_c8 _ | exact ansR_one _ _ _ | exact blkR_one _) (by first | rfl | (rw [binV_len]; rfl) | (rw [dgR_len]; rfl) | (rw [refR_len]; rfl) | (rw [secR_len]; rfl) | (rw [List.length_map, tagF_len]; rfl) | (rw [opR_len]; rfl) | (rw [ansR_len]; rfl) | (rw [blkR_len]; rfl)) hB13' (by rw [ansR_len]; decide) rfl ?_; intro w14 hB14 hk14 hs14
  have hB14' := ans_st hB14
  have S14 := S13.st hB13' (by decide) (by decide) hk14 (by omega)
  have hl412 := hB412.lt
  have hl912 := hB912.lt
  have hB414 := hk14.blk' (hk13.blk' hB412 trivial) (show b4 ≠ b13 by omega)
  have hB914 := hk14.blk' (hk13.blk' hB912 trivial) (show b9 ≠ b13 by omega)
  refine ops_nil ?_
  refine W_seq ?_
  refine W_region ?_
  refine op_run (r_fieldAddr rfl rfl rfl rfl rfl) rfl ?_
  refine op_run (r_load rfl rfl rfl (hB414.cell rfl)) rfl ?_
  refine op_run (r_eql rfl rfl) rfl ?_
  refine o_mvt rfl ?_
  refine g_split rfl rfl rfl (fun g16 => ?_) (fun g => absurd g ((by decide)))
  refine op_run (r_fieldAddr rfl rfl rfl rfl rfl) (g_yes rfl rfl rfl g16) ?_
  refine op_run (r_load rfl rfl rfl (hB914.cell rfl)) (g_yes rfl rfl rfl g16) ?_
  refine op_run (r_eql rfl rfl) (g_yes rfl rfl rfl g16) ?_
  refine o_pkTt rfl g16 rfl ?_
  refine o_mvt rfl ?_
  refine g_split rfl rfl rfl (fun g18 => ?_) (fun g => absurd g ((by decide)))
  refine op_run (r_fieldAddr rfl rfl rfl rfl rfl) (g_yes rfl rfl rfl g18) ?_
  refine op_run (r_load rfl rfl rfl (hB14'.cell rfl)) (g_yes rfl rfl rfl g18) ?_
  refine o_pkTt rfl g18 rfl ?_
  refine o_mvt rfl ?_
  refine g_split rfl rfl rfl (fun g20 => ?_) (fun g => absurd g ((by decide)))
  refine op_run (r_fieldAddr rfl rfl rfl rfl rfl) (g_yes rfl rfl rfl g20) ?_
  refine op_run (r_loadA (blkR b7) rfl rfl rfl (by first | rfl | (rw [binV_len]; rfl) | (rw [dgR_len]; rfl) | (rw [refR_len]; rfl) | (rw [secR_len]; rfl) | (rw [List.length_map, tagF_len]; rfl) | (rw [opR_len]; rfl) | (rw [ansR_len]; rfl) | (rw [blkR_len]; rfl)) ((fun j u hj => by rw [Addr.add_lit]; exact hB14'.cell (ansR_blk hj)))) (g_yes rfl rfl rfl g20) ?_
  refine op_run (r_buildA (blkR b7) (_) ([(0, .int .u8 7)]) rfl rfl rfl rfl rfl (rfl)) (g_yes rfl rfl rfl g20) ?_
  refine op_run (r_eqlC (p := True) rfl rfl rfl rfl (by kernel_rfl) ((okC_bk b7)) ((okC_bk b7)) rfl ((iff_of_true rfl trivial))) (g_yes rfl rfl rfl g20) ?_
  refine o_pkTt rfl g20 rfl ?_
  refine o_mvt rfl ?_
  refine g_split rfl rfl rfl (fun g24 => ?_) (fun g => absurd g ((by decide)))
  refine o_mvt (g_yes rfl rfl rfl g24) ?_
  refine op_call rfl rfl (g_yes rfl rfl rfl g24) (md_Distinct w14 mb bm l3 S14.1) ?_; rintro v25 w25 ⟨hks, hk25⟩
  obtain ⟨ks, hn, hm, rfl⟩ := hks
  have hone : ks.length = 1 := one_b7 hn fun b => by rw [hm b, bl_abs, ha3]
  refine op_run (r_eql rfl rfl) (g_yes rfl rfl rfl g24) ?_
  refine o_pkTt rfl g24 rfl ?_
  refine o_ast rfl ?_
  refine ops_nil ?_
  refine W_ret ?_
  refine ret1 (.bool (decide ((ks.length : Int) = 1))) rfl ?_ ?_; rfl
  exact ⟨by rw [hone]; rfl, (ModS.out hk1 S14 hbm).trans hk25⟩
end Go.Proofs.Ytkckphbdjkjfgaa.B
