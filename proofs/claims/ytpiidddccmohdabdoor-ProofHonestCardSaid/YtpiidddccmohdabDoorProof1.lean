/-
  proof.Check: the walk.
-/
import Derived.Test.YtpiidddccmohdabDoorProofP
import Derived.Test.YtpiidddccmohdabDoorTagD
namespace Go.Proofs.YtpiidddccmohdabDoor.B
open Go
set_option linter.unusedVariables false
set_option maxHeartbeats 2000000
set_option maxRecDepth 100000
attribute [local irreducible] W OpsW OpsQ retP
attribute [local irreducible] numR kdR
theorem ti_dgP : tinfo Tryd.prog 24 = some (some (.agg (List.replicate 32 (c8 0)).toArray), 32, 32) := by kernel_rfl
theorem rowB_two (x y : UInt8) : [Value.int .u8 (x.toNat : Int), Value.int .u8 (y.toNat : Int)] = [x, y].map c8 := rfl
def chkO (C : Option (Bool × List UInt8)) (vv : Value) : Value := .tuple #[vv, .bool (C.getD (false, [])).1, .int .i64 (if C.isSome then 0 else 3)]
theorem p_Check (w : World) (root key : Dig) (v : Value) (vks : List Value) (nodes : List (List UInt8)) (hv : RowsV w v vks nodes) (h70 : nodes.length ≤ 70) (hl : ∀ b ∈ nodes, b.length ≤ 3000) (hT : TabB w) :
    Ret Tryd.prog 11 [.agg (dgR root).toArray, .agg (dgR key).toArray, v].toArray w fun r w' => ∃ vv, r = chkO (chk root key.val nodes) vv ∧ By w' vv ((chk root key.val nodes).getD (false, [])).2 ∧ Keep All w w' := by
  obtain ⟨a0, c0, rfl, hc0, hcm0⟩ := hv.2.1.form
  have hvl := hv.1
  have bad : ∀ wf, chk root key.val nodes = none → Keep All w wf → ∃ vv, Value.tuple #[.slice none 0 0, .bool false, .int .i64 3] = chkO (chk root key.val nodes) vv ∧ By wf vv ((chk root key.val nodes).getD (false, [])).2 ∧ Keep All w wf := fun wf h hk => by
    rw [h]; exact ⟨_, rfl, Sl.nil _ _, hk⟩
  have no : ∀ wf, chk root key.val nodes = some (false, []) → Keep All w wf → ∃ vv, Value.tuple #[.slice none 0 0, .bool false, .int .i64 0] = chkO (chk root key.val nodes) vv ∧ By wf vv ((chk root key.val nodes).getD (false, [])).2 ∧ Keep All w wf := fun wf h hk => by
    rw [h]; exact ⟨_, rfl, Sl.nil _ _, hk⟩
  refine enter (fn := Tryd.f11) (n := 112) Tryd.func11 rfl rfl (by simp) ?_
  refine W_seq ?_
  refine W_region ?_
  refine o_box rfl rfl rfl ?_; intro w1 b1 e1 hB1 hk1 hs1
  have hB1 : Blk w1 b1 (dgR root) 24 := hB1
  refine o_box rfl rfl rfl ?_; intro w2 b2 e2 hB2 hk2 hs2
  have hB2 : Blk w2 b2 (dgR key) 24 := hB2
  have hk02 := hk1.trans hk2
  have hB1 := hk2.blk' hB1 trivial
  refine o_asc rfl ?_
  refine o_asc rfl ?_
  refine o_asc rfl ?_
  refine ops_nil ?_
  refine W_seq ?_
  refine W_cut [27] [20, 21, 22, 23, 24, 25, 26, 27] (fun vs w3 => vs = [.bool (decide (nodes = [] ∧ root = tagD 5 []))] ∧ Keep All w2 w3) ?_ ?_
  · refine W_quiet (Keep All w2) (by kernel_rfl) (by kernel_rfl) (Keep.drawn _) ?_
    refine q_mvt rfl ?_
    refine q_run (fun _ _ => (r_len rfl rfl rfl)) rfl ?_
    refine q_run (fun _ _ => (r_eql rfl rfl)) rfl ?_
    refine q_mvt rfl ?_
    refine q_split rfl rfl rfl (fun g5 => ?_) (fun g5 => ?_)
    · refine q_run (fun _ hk => r_loadA (dgR root) rfl rfl rfl (by first | rfl | (rw [binV_len]; rfl) | (rw [dgR_len]; rfl) | (rw [refR_len]; rfl) | (rw [secR_len]; rfl) | (rw [List.length_map, tagF_len]; rfl) | rfl) ((hk.blk' hB1 trivial).all)) (g_yes rfl rfl rfl g5) ?_
      refine q_call rfl rfl (g_yes rfl rfl rfl g5) (fun _ hk => (sh_TagD _ _ 5 [] SlR.nil (tag_0 _)).mono fun e w'' ⟨u, he, h1, h2⟩ => ⟨u, he, h1, hk.trans h2⟩) ?_
      refine q_run (fun _ _ => (r_eqlC (p := root = tagD 5 []) rfl rfl rfl rfl (by kernel_rfl) (okC_dgR _) (okC_dgR _) rfl (dgR_inj))) (g_yes rfl rfl rfl g5) ?_
      refine q_pkTt rfl g5 rfl ?_
      refine q_nil ?_; intro w9 hk9
      exact ⟨by (repeat (first | with_reducible exact offM_refl _ _ | refine offM_updc rfl ?_ | refine offM_upd rfl ?_ | refine offM_updo rfl ?_ | refine offM_updo_none ?_ | refine offM_head rfl rfl ?_)), congrArg (fun b => [Value.bool b]) (by
        have g := of_decide_eq_true g5
        have e : nodes = [] := List.eq_nil_of_length_eq_zero (by omega)
        rw [decide_eq_decide]; exact ⟨fun h => ⟨e, h⟩, fun h => h.2⟩), hk9⟩
    · refine q_skip (g_no rfl rfl rfl g5) ?_
      refine q_skip (g_no rfl rfl rfl g5) ?_
      refine q_skip (g_no rfl rfl rfl g5) ?_
      refine q_pkFc rfl g5 rfl ?_
      refine q_nil ?_; intro w11 hk11
      exact ⟨by (repeat (first | with_reducible exact offM_refl _ _ | refine offM_updc rfl ?_ | refine offM_upd rfl ?_ | refine offM_updo rfl ?_ | refine offM_updo_none ?_ | refine offM_head rfl rfl ?_)), congrArg (fun b => [Value.bool b]) (by
        have g := of_decide_eq_false g5
        symm; exact decide_eq_false fun h => g (by rw [h.1]; rfl)), hk11⟩
  · rintro J13 vs w13 ⟨rfl, hk13⟩ -
    have hk013 := hk02.trans hk13
    refine W_cond_p rfl (fun h14 => ?_) (fun h14 => ?_)
    · refine W_seq ?_
      refine W_region ?_
      refine o_asc rfl ?_
      refine o_asc rfl ?_
      refine o_asc rfl ?_
      refine ops_nil ?_
      refine W_ret ?_
      refine ret3 (.slice none 0 0) (.bool false) (.int .i64 0) rfl ?_ ?_ ?_ ?_; rfl; rfl; rfl
      exact no _ (by unfold chk; rw [if_pos h14.1, if_pos h14.2]) hk013
    · refine W_skip ?_
      refine W_seq ?_
      refine W_region ?_
      refine o_asc rfl ?_
      refine ops_nil ?_
      refine W_seq ?_
      refine W_seq ?_
      refine W_region ?_
      have hchk : ∀ C, chkR root (nibs key.val) nodes = C → chk root key.val nodes = C := fun C hC => by
        unfold chk
        by_cases e : nodes = []
        · rw [if_pos e]; rw [e] at hC; rw [if_neg (fun h => h14 ⟨e, h⟩)]; exact hC
        · rw [if_neg e]; exact hC
      refine op_run (r_loadA (dgR key) rfl rfl rfl (by first | rfl | (rw [binV_len]; rfl) | (rw [dgR_len]; rfl) | (rw [refR_len]; rfl) | (rw [secR_len]; rfl) | (rw [List.length_map, tagF_len]; rfl) | rfl) ((hk13.blk' hB2 trivial).all)) rfl ?_
      refine o_mvc rfl ?_
      refine ops_nil ?_
      refine W_block ?_
      refine W_loop [9, 29] [9, 11, 29, 30, 31, 32, 33, 34, 35, 36, 37, 38, 39] (fun vs w' => ∃ (i : Nat) (u : Value), vs = [u, .int .i64 i] ∧ i ≤ 32 ∧ OwnB w' 5 u (nibs (key.val.take i)) ∧ InB (fun z => w13.heap.size ≤ z) u ∧ Keep All w13 w') (fun vs _ => match vs with | [_, .int _ y] => 32 - y.toNat | _ => 0) ⟨0, _, rfl, Nat.zero_le _, own_nil _ _ _, InB.nil, Keep.refl _⟩ ?_
      rintro J17 vs w17 ⟨i, u, rfl, hi, hO, hin, hk17⟩ -
      refine W_seq ?_
      refine W_region ?_
      refine op_run (r_lss rfl rfl) rfl ?_
      refine ops_nil ?_
      refine W_seq ?_
      refine W_cond_p rfl (fun h18 => ?_) (fun h18 => ?_)
      · refine W_skip ?_
        refine W_seq ?_
        refine W_block ?_
        refine W_seq ?_
        refine W_region ?_
        have hil : i < key.val.length := by rw [key.2]; omega
        obtain ⟨x, hx⟩ : ∃ x, key.val[i]? = some x := ⟨_, List.getElem?_eq_getElem hil⟩
        have htk : key.val.take (i + 1) = key.val.take i ++ [x] := by rw [List.take_succ_eq_append_getElem hil, (List.getElem?_eq_some_iff.1 hx).2]
        have hinc := inc64' i (by omega)
        have hnl := nibs_len (key.val.take i)
        rw [List.length_take, key.2, Nat.min_eq_left (by omega)] at hnl
        refine op_run (r_index1 (v := c8 x) rfl rfl rfl rfl rfl rfl (by omega) (by omega) (by rw [Int.toNat_natCast]; unfold dgR; rw [List.getElem?_map, hx]; rfl)) rfl ?_
        refine o_ast rfl ?_
        refine ops_nil ?_
        refine W_region ?_
        refine o_mvt rfl ?_
        refine o_mvt rfl ?_
        refine op_run ((r_shr rfl rfl (by decide)).val (congrArg (Value.int .u8) (show ((x.toNat : Nat) : Int).fdiv (2 ^ (min (4 : Int).toNat IntKind.u8.bits)) = (((hiN x).toNat : Nat) : Int) from by rw [Int.fdiv_eq_ediv_of_nonneg _ (by decide), hiN_nat]; rfl))) rfl ?_
        refine o_mvt rfl ?_
        refine op_run ((r_and rfl rfl).val (congrArg (Value.int .u8) (show bitw .and .u8 ((x.toNat : Nat) : Int) 15 = (((loN x).toNat : Nat) : Int) from by rw [show (15 : Int) = ((15 : Nat) : Int) from rfl, bitw_and rfl _ _ x.toNat_lt (by decide), loN_nat, show 15 = 2 ^ 4 - 1 from rfl, Nat.and_two_pow_sub_one_eq_mod]))) rfl ?_
        refine o_bsL (([hiN x, loN x].map c8)) rfl rfl rfl rfl rfl rfl rfl rfl rfl ?_; intro w20 b20 e20 hB20 hk20 hs20
        have hS20 : Sl w20 (.slice (some ⟨b20, 0, none⟩) 2 2) 2 1 ([hiN x, loN x].map c8) := (Own.blk (n := 2) (sz := 1) hB20 rfl (by unfold maxLen; omega)).sl
        have hz17 := hk17.size
        refine o_appS (v := u) rfl rfl hS20 rfl ti_u8 rfl rfl (hO.keep hk20 (fun _ _ => trivial)) (all_c8 _) (by unfold maxLen; omega) (by omega) rfl ?_; intro v21 w21 hown21 hk21 hb21
        have hO21 : OwnB w21 5 v21 (nibs (key.val.take (i + 1))) := by rw [htk, nibs_snoc]; exact OwnB.app (ys := [hiN x, loN x]) hown21
        refine o_ast rfl ?_
        refine ops_nil ?_
        refine W_region ?_
        refine op_run (r_add rfl rfl) rfl ?_
        refine o_mvt rfl ?_
        refine ops_nil ?_
        refine ⟨by (repeat (first | with_reducible exact offM_refl _ _ | refine offM_updc rfl ?_ | refine offM_upd rfl ?_ | refine offM_updo rfl ?_ | refine offM_updo_none ?_ | refine offM_head rfl rfl ?_)), ⟨i + 1, v21, congrArg (fun z : Int => [v21, Value.int .i64 z]) hinc, by omega, hO21, fun z hz => ?_, (hk17.trans hk20).own hk21 (fun z hz _ => hin z hz)⟩, ?_⟩
        · rcases hb21 z hz with h | h
          · exact hin z h
          · have := hk20.size; omega
        · show 32 - (IntKind.i64.wrap ((i : Int) + 1)).toNat < 32 - (i : Int).toNat
          rw [hinc]; omega
      · refine W_exit ?_
        refine W_seq ?_
        refine W_region ?_
        have hi32 : i = 32 := by omega
        subst hi32
        rw [show key.val.take 32 = key.val from List.take_of_length_le (by rw [key.2]; exact Nat.le_refl _)] at hO
        have hnl := nibs_len key.val
        rw [key.2] at hnl
        obtain ⟨ar, cr, er_, hrc0, _⟩ := hO.form
        subst er_
        refine op_run (r_loadA (dgR root) rfl rfl rfl (by first | rfl | (rw [binV_len]; rfl) | (rw [dgR_len]; rfl) | (rw [refR_len]; rfl) | (rw [secR_len]; rfl) | (rw [List.length_map, tagF_len]; rfl) | rfl) (((hk13.trans hk17).blk' hB1 trivial).all)) rfl ?_
        refine o_alloc rfl rfl rfl ?_; intro w24 b24 e24 hB24 hk24 hs24
        refine o_storeA (cs := dgR root) rfl rfl (by first | rfl | exact binV_one _ | exact dgR_one _ | exact refR_one _ | exact secR_one _ | exact all_c8 _ | rfl) (by first | rfl | (rw [binV_len]; rfl) | (rw [dgR_len]; rfl) | (rw [refR_len]; rfl) | (rw [secR_len]; rfl) | (rw [List.length_map, tagF_len]; rfl) | rfl) hB24 (by exact Nat.le_of_eq (by simp [dgR_len])) rfl ?_; intro w25 hB25 hk25 hs25
        have hB25 : Blk w25 b24 (dgR root) 24 := by
          have h := hB25
          rwa [splice_all (by simp [dgR_len])] at h
        have hz17 := hk17.size
        have hz13 := hk013.size
        have hk025 : Keep All w w25 := ((hk013.trans hk17).trans hk24).new hk25 (by have := hk17.size; omega)
        have hO25 := (hO.keep hk24 (fun _ _ => trivial)).keep hk25 (fun z hz e => by have := hO.lt z hz; omega)
        have h24l := hB25.lt
        have hz25 := hk025.size
        refine ops_nil ?_
        refine W_seq ?_
        refine W_seq ?_
        refine W_region ?_
        refine o_mvt rfl ?_
        refine op_run (r_len rfl rfl rfl) rfl ?_
        refine o_mvc rfl ?_
        refine ops_nil ?_
        refine W_block ?_
        refine W_loop [9, 43] [6, 7, 8, 9, 13, 14, 15, 16, 17, 18, 19, 43, 44, 45, 46, 47, 48, 49, 50, 51, 52, 53, 54, 55, 56, 57, 58, 59, 60, 61, 62, 63, 64, 65, 66, 67, 68, 69, 70, 71, 72, 73, 74, 75, 76, 77, 78, 79, 80, 81, 82, 83, 84, 85, 86, 87, 88, 89, 90, 91, 92, 93, 94, 95, 96, 97, 98, 99, 100, 101, 102, 103, 104, 105, 106, 107, 108, 109, 110, 111] (fun vs w' => ∃ (i : Nat) (ar : Option Addr) (cr : Nat) (want : Dig) (rest : List UInt8), vs = [.slice ar rest.length cr, .int .i64 i] ∧ i ≤ nodes.length ∧ rest.length ≤ 64 ∧ rest.length ≤ cr ∧ By w' (.slice ar rest.length cr) rest ∧ InB (fun z => z < b24) (.slice ar rest.length cr) ∧ Blk w' b24 (dgR want) 24 ∧ chkR root (nibs key.val) nodes = chkR want rest (nodes.drop i) ∧ Keep (fun z => z ≠ b24) w25 w') (fun vs _ => match vs with | [_, .int _ y] => nodes.length - y.toNat | _ => 0) ⟨0, ar, cr, root, nibs key.val, rfl, Nat.zero_le _, by omega, hrc0, OwnB.by_ hO25, fun z hz => by have := hO.lt z hz; omega, hB25, by rw [List.drop_zero], Keep.refl _⟩ ?_
        rintro J26 vs w26 ⟨i, ar, cr, want, rest, rfl, hi, hr64, hrc, hbr, hir, hBw, hC, hk26⟩ -
        refine W_seq ?_
        refine W_region ?_
        refine op_run (r_lss rfl rfl) rfl ?_
        refine ops_nil ?_
        refine W_seq ?_
        refine W_cond_p rfl (fun h27 => ?_) (fun h27 => ?_)
        · refine W_skip ?_
          refine W_seq ?_
          refine W_block ?_
          refine W_seq ?_
          refine W_region ?_
          refine o_mvt rfl ?_
          have hil : i < nodes.length := by omega
          obtain ⟨b, hb⟩ : ∃ b, nodes[i]? = some b := ⟨_, List.getElem?_eq_getElem hil⟩
          obtain ⟨vk, hvk⟩ : ∃ v, vks[i]? = some v := ⟨_, List.getElem?_eq_getElem (by omega)⟩
          have hk026 : Keep All w w26 := hk025.new hk26 (by omega)
          obtain ⟨bp, op, cp, ep, hcell⟩ := (hv.k hk026).at hvk
          cases ep
          have hbk := (hv.k hk026).2.2 i vk b hvk hb
          obtain ⟨ak, ck, rfl, _, _⟩ := hbk.form
          have hb2 := hl b (List.mem_of_getElem? hb)
          have hdrop : nodes.drop i = b :: nodes.drop (i + 1) := by rw [List.drop_eq_getElem_cons hil, (List.getElem?_eq_some_iff.1 hb).2]
          have hlast : nodes.drop (i + 1) = [] ↔ (i : Int) = (nodes.length : Int) - 1 := by rw [List.drop_eq_nil_iff]; omega
          rw [hdrop] at hC
          obtain ⟨R, hR⟩ : ∃ R, R = ndR ndM b := ⟨_, rfl⟩
          refine op_run (r_idxS1 rfl rfl rfl rfl (by omega) (by omega)) rfl ?_
          refine op_run (r_load rfl rfl rfl (by rw [Int.toNat_natCast]; exact hcell)) rfl ?_
          refine o_ast rfl ?_
          refine o_ast rfl ?_
          refine ops_nil ?_
          refine W_seq ?_
          refine W_region ?_
          refine o_mvt rfl ?_
          refine o_mvt rfl ?_
          refine op_run (r_len rfl rfl rfl) rfl ?_
          refine op_call rfl rfl rfl (p_read w26 rest.length hr64 _ b hbk hb2 (hT.k hk026)) ?_; rintro v30 w30 ⟨vb, vv, vm, rfl, hbb, hbv, hmf, hmap, hk30⟩
          obtain ⟨am, rfl⟩ := hmf
          obtain ⟨ab, cb, rfl, _, _⟩ := hbb.form
          obtain ⟨av, cv, rfl, _, _⟩ := hbv.form
          rw [← hR] at hbb hbv hmap ⊢
          refine o_mvt rfl ?_
          refine op_run (r_extract rfl rfl) rfl ?_
          refine op_run (r_extract rfl rfl) rfl ?_
          refine o_alloc rfl rfl rfl ?_; intro w31 b31 e31 hB31 hk31 hs31
          refine o_storeA (cs := [.slice ab R.1.beg.length cb, .slice av R.1.val.length cv, .bool R.1.leaf, .map am]) rfl rfl (by first | rfl | exact binV_one _ | exact dgR_one _ | exact refR_one _ | exact secR_one _ | exact all_c8 _ | rfl) (by first | rfl | (rw [binV_len]; rfl) | (rw [dgR_len]; rfl) | (rw [refR_len]; rfl) | (rw [secR_len]; rfl) | (rw [List.length_map, tagF_len]; rfl) | rfl) hB31 (by exact Nat.le_refl _) rfl ?_; intro w32 hB32 hk32 hs32
          have hB32 : Blk w32 b31 [.slice ab R.1.beg.length cb, .slice av R.1.val.length cv, .bool R.1.leaf, .map am] 59 := hB32
          have hk2632 : Keep All w26 w32 := (hk30.trans hk31).new hk32 (by have := hk30.size; omega)
          have hBw32 := hk2632.blk' hBw trivial
          have hk3032 : Keep All w30 w32 := hk31.new hk32 (by omega)
          have hbb32 := Sl.k hbb hk3032
          have hbv32 := Sl.k hbv hk3032
          refine o_ast rfl ?_
          refine ops_nil ?_
          refine W_seq ?_
          refine W_cut [63] [55, 56, 57, 58, 59, 60, 61, 62, 63] (fun vs w33 => vs = [.bool (decide (¬ (okN rest.length R ∧ tagD 4 [b] = want)))] ∧ Keep All w32 w33) ?_ ?_
          · refine W_held (fun w' => Keep All w32 w') (by kernel_rfl) (Keep.drawn w32) (fun hS => ?_)
            refine any_mvt 0 rfl (by kernel_rfl) (by kernel_rfl) (by kernel_rfl) rfl hS ?_
            refine any_run 1 (fun w' hS' => (r_not rfl)) rfl (by kernel_rfl) (by kernel_rfl) (by kernel_rfl) rfl hS ?_
            refine any_mvt 2 rfl (by kernel_rfl) (by kernel_rfl) (by kernel_rfl) rfl hS ?_
            refine a_split 57 false rfl (fun g35 => ?_) (fun g35 => ?_)
            · refine any_mvt 3 rfl (by kernel_rfl) (by kernel_rfl) (by kernel_rfl) (g_yes rfl rfl rfl (by rw [g35] <;> rfl)) hS ?_
              refine any_run 6 (fun w' hS' => (r_loadA (dgR want) rfl rfl rfl (by first | rfl | (rw [binV_len]; rfl) | (rw [dgR_len]; rfl) | (rw [refR_len]; rfl) | (rw [secR_len]; rfl) | (rw [List.length_map, tagF_len]; rfl) | rfl) ((hS'.blk' hBw32 trivial).all))) rfl (by kernel_rfl) (by kernel_rfl) (by kernel_rfl) (g_yes rfl rfl rfl (by rw [g35] <;> rfl)) hS ?_
              refine any_one 4 (by kernel_rfl) (one_of rfl ?_)
              refine o_bs1 (v := (.slice ak b.length ck)) rfl rfl rfl rfl rfl (g_yes rfl rfl rfl (by rw [g35] <;> rfl)) ?_; intro w37 b37 e37 hB37 hk37 hs37
              refine ops_nil ⟨hS.trans hk37, fun hS => ?_⟩
              refine any_one 5 (by kernel_rfl) (one_of rfl ?_)
              refine op_call rfl rfl (g_yes rfl rfl rfl (by rw [g35] <;> rfl)) (sh_TagD _ _ 4 [b] (rowsB_one hB37 ((hbk.k hk2632).k (hS))) (tag_1 _ (by omega))) ?_; rintro v39 w39 ⟨rfl, hk39⟩
              refine ops_nil ⟨hS.trans hk39, fun hS => ?_⟩
              refine any_run 7 (fun w' hS' => (r_neqC (p := tagD 4 [b] = want) rfl rfl rfl rfl (by kernel_rfl) (okC_dgR _) (okC_dgR _) rfl (dgR_inj))) rfl (by kernel_rfl) (by kernel_rfl) (by kernel_rfl) (g_yes rfl rfl rfl (by rw [g35] <;> rfl)) hS ?_
              refine any_run 8 (fun w' hS' => (r_pickF rfl (by rw [g35] <;> rfl))) rfl (by kernel_rfl) (by kernel_rfl) (by kernel_rfl) rfl hS ?_
              refine any_done (by kernel_rfl) ?_
              exact ⟨by (repeat (first | with_reducible exact offM_refl _ _ | refine offM_updc rfl ?_ | refine offM_upd rfl ?_ | refine offM_updo rfl ?_ | refine offM_updo_none ?_ | refine offM_head rfl rfl ?_)), congrArg (fun b => [Value.bool b]) (by
                have g : okN rest.length R := (by simpa using g35)
                by_cases hd : tagD 4 [b] = want <;> simp [g, hd]), hS⟩
            · refine any_skip 3 rfl (by kernel_rfl) (by kernel_rfl) (by kernel_rfl) (g_no rfl rfl rfl (by rw [g35] <;> rfl)) hS ?_
              refine any_skip 6 rfl (by kernel_rfl) (by kernel_rfl) (by kernel_rfl) (g_no rfl rfl rfl (by rw [g35] <;> rfl)) hS ?_
              refine any_one 4 (by kernel_rfl) (one_of rfl ?_)
              refine op_skip (g_no rfl rfl rfl (by rw [g35] <;> rfl)) ?_
              refine ops_nil ⟨hS, fun hS => ?_⟩
              refine any_one 5 (by kernel_rfl) (one_of rfl ?_)
              refine op_skip (g_no rfl rfl rfl (by rw [g35] <;> rfl)) ?_
              refine ops_nil ⟨hS, fun hS => ?_⟩
              refine any_skip 7 rfl (by kernel_rfl) (by kernel_rfl) (by kernel_rfl) (g_no rfl rfl rfl (by rw [g35] <;> rfl)) hS ?_
              refine any_run 8 (fun w' hS' => (r_pickT rfl (by rw [g35] <;> rfl))) rfl (by kernel_rfl) (by kernel_rfl) (by kernel_rfl) rfl hS ?_
              refine any_done (by kernel_rfl) ?_
              exact ⟨by (repeat (first | with_reducible exact offM_refl _ _ | refine offM_updc rfl ?_ | refine offM_upd rfl ?_ | refine offM_updo rfl ?_ | refine offM_updo_none ?_ | refine offM_head rfl rfl ?_)), congrArg (fun b => [Value.bool b]) (by
                have g : ¬ okN rest.length R := (by simpa using g35)
                simp [g]), hS⟩
          · rintro J46 vs w46 ⟨rfl, hk46⟩ -
            have hk2646 := hk2632.trans hk46
            have hk046 := hk026.trans hk2646
            have hB46 := hk46.blk' hB32 trivial
            have hBw46 := hk2646.blk' hBw trivial
            refine W_cond_p rfl (fun h47 => ?_) (fun h47 => ?_)
            · refine W_exit ?_
              refine W_seq ?_
              refine W_region ?_
              refine o_asc rfl ?_
              refine o_asc rfl ?_
              refine o_asc rfl ?_
              refine ops_nil ?_
              refine W_ret ?_
              refine ret3 (.slice none 0 0) (.bool false) (.int .i64 3) rfl ?_ ?_ ?_ ?_; rfl; rfl; rfl
              exact bad _ (hchk _ (hC.trans (chkR_bad (by rw [← hR]; exact h47)))) hk046
            · refine W_skip ?_
              refine W_seq ?_
              refine W_region ?_
              refine o_mvt rfl ?_
              refine o_mvt rfl ?_
              refine op_run (r_len rfl rfl rfl) rfl ?_
              refine op_run ((r_sub rfl rfl).val (congrArg (Value.int .i64) (show IntKind.i64.wrap ((nodes.length : Int) - 1) = (nodes.length : Int) - 1 from wrap_i64 (by omega) (by omega)))) rfl ?_
              refine op_run (r_eql rfl rfl) rfl ?_
              refine o_ast rfl ?_
              refine ops_nil ?_
              refine W_seq ?_
              refine W_region ?_
              refine o_mvt rfl ?_
              refine op_run (r_fieldAddr rfl rfl rfl rfl rfl) rfl ?_
              have hok : okN rest.length (ndR ndM b) ∧ tagD 4 [b] = want := by rw [← hR]; exact Decidable.not_not.1 h47
              refine op_run (r_load rfl rfl rfl (hB46.cell rfl)) rfl ?_
              refine op_call rfl rfl rfl (by_HasPrefix _ _ _ rest R.1.beg (hbr.k hk2646) (hbb32.k hk46)) ?_; rintro v50 w50 ⟨rfl, hw50⟩
              subst hw50
              refine o_ast rfl ?_
              refine ops_nil ?_
              refine W_seq ?_
              refine W_seq ?_
              refine W_region ?_
              refine op_run (r_fieldAddr rfl rfl rfl rfl rfl) rfl ?_
              refine op_run (r_load rfl rfl rfl (hB46.cell rfl)) rfl ?_
              refine ops_nil ?_
              refine W_cond rfl (fun h52 => ?_) (fun h52 => ?_)
              · refine W_seq ?_
                refine W_seq ?_
                refine W_region ?_
                refine o_mvt rfl ?_
                refine op_run (r_not rfl) rfl ?_
                refine ops_nil ?_
                have hlf : (ndR ndM b).1.leaf = true := by rw [← hR]; simpa using h52
                have hCl := hC.trans (chkR_leaf hok hlf)
                refine W_cond rfl (fun h53 => ?_) (fun h53 => ?_)
                · refine W_exit ?_
                  refine W_seq ?_
                  refine W_region ?_
                  refine o_asc rfl ?_
                  refine o_asc rfl ?_
                  refine o_asc rfl ?_
                  refine ops_nil ?_
                  refine W_ret ?_
                  refine ret3 (.slice none 0 0) (.bool false) (.int .i64 3) rfl ?_ ?_ ?_ ?_; rfl; rfl; rfl
                  exact bad _ (hchk _ (hCl.trans (if_pos (fun h => (by have h2 := hlast.1 h; simp [h2] at h53))))) hk046
                · refine W_skip ?_
                  refine W_seq ?_
                  refine W_seq ?_
                  refine W_region ?_
                  refine o_mvt rfl ?_
                  refine op_run (r_not rfl) rfl ?_
                  refine ops_nil ?_
                  have hlst : nodes.drop (i + 1) = [] := hlast.2 (by simpa using h53)
                  rw [if_neg (fun h => h hlst), ← hR] at hCl
                  refine W_cond rfl (fun h55 => ?_) (fun h55 => ?_)
                  · refine W_seq ?_
                    refine W_region ?_
                    refine o_asc rfl ?_
                    refine o_asc rfl ?_
                    refine o_asc rfl ?_
                    refine ops_nil ?_
                    refine W_ret ?_
                    refine ret3 (.slice none 0 0) (.bool false) (.int .i64 0) rfl ?_ ?_ ?_ ?_; rfl; rfl; rfl
                    exact no _ (hchk _ (hCl.trans (if_neg (by simpa using h55)))) hk046
                  · refine W_skip ?_
                    refine W_seq ?_
                    refine W_region ?_
                    refine op_run (r_fieldAddr rfl rfl rfl rfl rfl) rfl ?_
                    refine op_run (r_load rfl rfl rfl (hB46.cell rfl)) rfl ?_
                    refine o_ast rfl ?_
                    refine o_asc rfl ?_
                    refine o_asc rfl ?_
                    refine ops_nil ?_
                    refine W_ret ?_
                    refine ret3 (.slice av R.1.val.length cv) (.bool true) (.int .i64 0) rfl ?_ ?_ ?_ ?_; rfl; rfl; rfl
                    have hC2 := hchk _ (hCl.trans (if_pos (by simpa using h55)))
                    rw [hC2]
                    exact ⟨_, rfl, hbv32.k hk46, hk046⟩
              · refine W_skip ?_
                refine W_seq ?_
                refine W_region ?_
                have hlf : (ndR ndM b).1.leaf = false := by rw [← hR]; simpa using h52
                obtain ⟨bm, em, hM30⟩ := hmap (by rw [hR]; exact hlf)
                injection em with em
                subst em
                have hlen : R.1.beg.length < rest.length := by
                  have h := hok.1.1.1
                  unfold okL at h
                  rw [hlf, if_neg (by simp), ← hR] at h
                  exact h.1
                have hM46 := (hM30.keep hk31 trivial).keep hk32 (show bm ≠ b31 by obtain ⟨_, _, h, _⟩ := hM30; have := lt_of_get h; omega) |>.keep hk46 trivial
                refine o_alloc rfl rfl rfl ?_; intro w59 b59 e59 hB59 hk59 hs59
                have hB59 : Blk w59 b59 (dgR Dig.zero) 24 := by rw [show dgR Dig.zero = List.replicate 32 (c8 0) by unfold dgR Dig.zero; rw [List.map_replicate]]; exact hB59
                refine ops_nil ?_
                refine W_cut [18] [18, 81, 82, 83, 84, 85, 86, 87, 88, 89, 90, 91, 92, 93] (fun vs w60 => vs = [.bool (nextD rest R.1).isSome] ∧ Blk w60 b59 (dgR ((nextD rest R.1).getD Dig.zero)) 24 ∧ Keep (fun z => z ≠ b59) w59 w60) ?_ ?_
                · refine W_seq ?_
                  refine W_region ?_
                  refine o_mvt rfl ?_
                  refine ops_nil ?_
                  refine W_cond_p rfl (fun h61 => ?_) (fun h61 => ?_)
                  · obtain ⟨x, hx⟩ : ∃ x, rest[R.1.beg.length]? = some x := ⟨_, List.getElem?_eq_getElem hlen⟩
                    have hnx : nextD rest R.1 = R.1.kids x.toNat := by unfold nextD; rw [if_pos h61, hx]
                    have hkv : kidV R.1.kids (x.toNat : Int) = (R.1.kids x.toNat).map fun d => .agg (dgR d).toArray := by unfold kidV; rw [if_pos (by omega), Int.toNat_natCast]
                    have hlook : Value.tuple #[(kidV R.1.kids (x.toNat : Int)).getD (.agg (List.replicate 32 (c8 0)).toArray), .bool (kidV R.1.kids (x.toNat : Int)).isSome] = Value.tuple #[.agg (dgR ((nextD rest R.1).getD Dig.zero)).toArray, .bool (nextD rest R.1).isSome] := by
                      rw [hkv, hnx]
                      cases R.1.kids x.toNat with
                      | none => rw [show dgR ((none : Option Dig).getD Dig.zero) = List.replicate 32 (c8 0) by show dgR Dig.zero = _; unfold dgR Dig.zero; rw [List.map_replicate]]; rfl
                      | some d => rfl
                    have hbr59 := ((hbr.k hk2646).k hk59)
                    obtain ⟨bp, op, cp, ep, _, _, hcr⟩ := hbr59.at (by omega)
                    cases ep
                    refine W_held (fun w' => Keep (fun z => z ≠ b59) w59 w') (by kernel_rfl) ((Keep.drawn w59).all) (fun hS => ?_)
                    refine any_run 0 (fun w' hS' => (r_fieldAddr rfl rfl rfl rfl rfl)) rfl (by kernel_rfl) (by kernel_rfl) (by kernel_rfl) rfl hS ?_
                    refine any_run 1 (fun w' hS' => (r_load rfl rfl rfl (((hS'.blk' (hk59.blk' hB46 trivial) (show b31 ≠ b59 by have := hB46.lt; omega)).cell rfl)))) rfl (by kernel_rfl) (by kernel_rfl) (by kernel_rfl) rfl hS ?_
                    refine any_mvt 2 rfl (by kernel_rfl) (by kernel_rfl) (by kernel_rfl) rfl hS ?_
                    refine any_run 3 (fun w' hS' => (r_fieldAddr rfl rfl rfl rfl rfl)) rfl (by kernel_rfl) (by kernel_rfl) (by kernel_rfl) rfl hS ?_
                    refine any_run 4 (fun w' hS' => (r_load rfl rfl rfl (((hS'.blk' (hk59.blk' hB46 trivial) (show b31 ≠ b59 by have := hB46.lt; omega)).cell rfl)))) rfl (by kernel_rfl) (by kernel_rfl) (by kernel_rfl) rfl hS ?_
                    refine any_run 5 (fun w' hS' => (r_len rfl rfl rfl)) rfl (by kernel_rfl) (by kernel_rfl) (by kernel_rfl) rfl hS ?_
                    refine any_run 6 (fun w' hS' => (r_idxS1 rfl rfl rfl rfl (by omega) (by omega))) rfl (by kernel_rfl) (by kernel_rfl) (by kernel_rfl) rfl hS ?_
                    refine any_run 7 (fun w' hS' => (r_load (v := c8 x) rfl rfl rfl (by rw [Int.toNat_natCast]; exact hS'.cell (hcr _ _ (by rw [List.getElem?_map, hx]; rfl)) (show bp ≠ b59 by have := hir bp rfl; have := hBw46.lt; omega)))) rfl (by kernel_rfl) (by kernel_rfl) (by kernel_rfl) rfl hS ?_
                    refine any_run 8 (fun w' hS' => (r_lookupUok rfl rfl rfl rfl ti_dgP ((hM46.keep hk59 trivial).keep hS' (show bm ≠ b59 by obtain ⟨_, _, h, _⟩ := hM46; have := lt_of_get h; omega))).val hlook) rfl (by kernel_rfl) (by kernel_rfl) (by kernel_rfl) rfl hS ?_
                    refine any_mvt 9 rfl (by kernel_rfl) (by kernel_rfl) (by kernel_rfl) rfl hS ?_
                    refine any_run 10 (fun w' hS' => (r_extract rfl rfl)) rfl (by kernel_rfl) (by kernel_rfl) (by kernel_rfl) rfl hS ?_
                    refine any_run 11 (fun w' hS' => (r_extract rfl rfl)) rfl (by kernel_rfl) (by kernel_rfl) (by kernel_rfl) rfl hS ?_
                    refine any_one 12 (by kernel_rfl) (one_of rfl ?_)
                    refine o_storeA (cs := dgR ((nextD rest R.1).getD Dig.zero)) rfl rfl (by first | rfl | exact binV_one _ | exact dgR_one _ | exact refR_one _ | exact secR_one _ | exact all_c8 _ | rfl) (by first | rfl | (rw [binV_len]; rfl) | (rw [dgR_len]; rfl) | (rw [refR_len]; rfl) | (rw [secR_len]; rfl) | (rw [List.length_map, tagF_len]; rfl) | rfl) ((Keep.drawn w59).blk' hB59 trivial) (by exact Nat.le_of_eq (by simp [dgR_len])) rfl ?_; intro w68 hB68 hk68 hs68
                    have hB68 : Blk w68 b59 (dgR ((nextD rest R.1).getD Dig.zero)) 24 := by
                      have h := hB68
                      rwa [splice_all (by simp [dgR_len])] at h
                    refine ops_nil ⟨hS.trans hk68, fun hS => ?_⟩
                    refine any_ast 13 rfl (by kernel_rfl) (by kernel_rfl) (by kernel_rfl) rfl hS ?_
                    refine any_done (by kernel_rfl) ?_
                    refine ⟨by (repeat (first | with_reducible exact offM_refl _ _ | refine offM_updc rfl ?_ | refine offM_upd rfl ?_ | refine offM_updo rfl ?_ | refine offM_updo_none ?_ | refine offM_head rfl rfl ?_)), ?_, hB68, hS⟩
                    exact congrArg (fun z => [Value.bool z]) rfl
                  · refine W_skip ?_
                    have hnx : nextD rest R.1 = none := by unfold nextD; rw [if_neg h61]
                    exact ⟨by (repeat (first | with_reducible exact offM_refl _ _ | refine offM_updc rfl ?_ | refine offM_upd rfl ?_ | refine offM_updo rfl ?_ | refine offM_updo_none ?_ | refine offM_head rfl rfl ?_)), by rw [hnx]; exact congrArg (fun b => [Value.bool b]) (decide_eq_false h61), by rw [hnx]; exact hB59, Keep.refl _⟩
                · rintro J72 vs w72 ⟨rfl, hB72, hk72⟩ -
                  have hk4672 : Keep All w50 w72 := hk59.new hk72 (by omega)
                  have hk072 := hk046.trans hk4672
                  have hB72n := hk4672.blk' hB46 trivial
                  refine W_seq ?_
                  refine W_cut [98] [94, 95, 96, 97, 98] (fun vs w73 => vs = [.bool (decide (nodes.drop (i + 1) = [] ∧ nextD rest R.1 = none))] ∧ w73 = w72) ?_ ?_
                  · refine W_region ?_
                    refine o_mvt rfl ?_
                    refine o_mvt rfl ?_
                    refine g_split rfl rfl rfl (fun g74 => ?_) (fun g74 => ?_)
                    · refine o_mvt (g_yes rfl rfl rfl g74) ?_
                      refine op_run (r_not rfl) (g_yes rfl rfl rfl g74) ?_
                      refine o_pkTt rfl g74 rfl ?_
                      refine ops_nil ?_
                      exact ⟨by (repeat (first | with_reducible exact offM_refl _ _ | refine offM_updc rfl ?_ | refine offM_upd rfl ?_ | refine offM_updo rfl ?_ | refine offM_updo_none ?_ | refine offM_head rfl rfl ?_)), congrArg (fun b => [Value.bool b]) (by have g := hlast.2 (of_decide_eq_true g74); cases hn : nextD rest R.1 <;> simp [g]), rfl⟩
                    · refine op_skip (g_no rfl rfl rfl g74) ?_
                      refine op_skip (g_no rfl rfl rfl g74) ?_
                      refine o_pkFc rfl g74 rfl ?_
                      refine ops_nil ?_
                      exact ⟨by (repeat (first | with_reducible exact offM_refl _ _ | refine offM_updc rfl ?_ | refine offM_upd rfl ?_ | refine offM_updo rfl ?_ | refine offM_updo_none ?_ | refine offM_head rfl rfl ?_)), congrArg (fun b => [Value.bool b]) (by have g := of_decide_eq_false g74; symm; exact decide_eq_false fun h => g (hlast.1 h.1)), rfl⟩
                  · rintro J77 vs w77 ⟨rfl, rfl⟩ -
                    refine W_cond_p rfl (fun h78 => ?_) (fun h78 => ?_)
                    · refine W_seq ?_
                      refine W_region ?_
                      refine o_asc rfl ?_
                      refine o_asc rfl ?_
                      refine o_asc rfl ?_
                      refine ops_nil ?_
                      refine W_ret ?_
                      refine ret3 (.slice none 0 0) (.bool false) (.int .i64 0) rfl ?_ ?_ ?_ ?_; rfl; rfl; rfl
                      exact no _ (hchk _ ((hC.trans (chkR_none hok hlf (by rw [← hR]; exact h78.2))).trans (if_pos h78.1))) hk072
                    · refine W_skip ?_
                      refine W_seq ?_
                      refine W_cut [103] [99, 100, 101, 102, 103] (fun vs w80 => vs = [.bool (decide (nodes.drop (i + 1) = [] ∨ nextD rest R.1 = none))] ∧ w80 = w77) ?_ ?_
                      · refine W_region ?_
                        refine o_mvt rfl ?_
                        refine o_mvt rfl ?_
                        refine g_split rfl rfl rfl (fun g81 => ?_) (fun g81 => ?_)
                        · refine o_mvt (g_yes rfl rfl rfl g81) ?_
                          refine op_run (r_not rfl) (g_yes rfl rfl rfl g81) ?_
                          refine o_pkFt rfl g81 rfl ?_
                          refine ops_nil ?_
                          exact ⟨by (repeat (first | with_reducible exact offM_refl _ _ | refine offM_updc rfl ?_ | refine offM_upd rfl ?_ | refine offM_updo rfl ?_ | refine offM_updo_none ?_ | refine offM_head rfl rfl ?_)), congrArg (fun b => [Value.bool b]) (by have g := of_decide_eq_false g81; have hd : ¬ nodes.drop (i + 1) = [] := fun h => g (hlast.1 h); cases hn : nextD rest R.1 <;> simp [hd]), rfl⟩
                        · refine op_skip (g_no rfl rfl rfl g81) ?_
                          refine op_skip (g_no rfl rfl rfl g81) ?_
                          refine o_pkTc rfl g81 rfl ?_
                          refine ops_nil ?_
                          exact ⟨by (repeat (first | with_reducible exact offM_refl _ _ | refine offM_updc rfl ?_ | refine offM_upd rfl ?_ | refine offM_updo rfl ?_ | refine offM_updo_none ?_ | refine offM_head rfl rfl ?_)), congrArg (fun b => [Value.bool b]) (by have g := hlast.2 (of_decide_eq_true g81); symm; exact decide_eq_true (.inl g)), rfl⟩
                      · rintro J84 vs w84 ⟨rfl, rfl⟩ -
                        refine W_cond_p rfl (fun h85 => ?_) (fun h85 => ?_)
                        · refine W_exit ?_
                          refine W_seq ?_
                          refine W_region ?_
                          refine o_asc rfl ?_
                          refine o_asc rfl ?_
                          refine o_asc rfl ?_
                          refine ops_nil ?_
                          refine W_ret ?_
                          refine ret3 (.slice none 0 0) (.bool false) (.int .i64 3) rfl ?_ ?_ ?_ ?_; rfl; rfl; rfl
                          refine bad _ (hchk _ ?_) hk072
                          rcases h85 with h | h
                          · cases hn : nextD rest R.1 with
                            | none => exact absurd ⟨h, hn⟩ h78
                            | some d => exact hC.trans ((chkR_some hok hlf (by rw [← hR]; exact hn)).trans (by rw [h]; rfl))
                          · exact hC.trans ((chkR_none hok hlf (by rw [← hR]; exact h)).trans (if_neg (fun hd => h78 ⟨hd, h⟩)))
                        · refine W_skip ?_
                          obtain ⟨d, hd⟩ : ∃ d, nextD rest R.1 = some d := by
                            cases hn : nextD rest R.1 with
                            | none => exact absurd (.inr hn) h85
                            | some d => exact ⟨d, rfl⟩
                          have hBw84 := hk4672.blk' hBw46 trivial
                          rw [hd] at hB72
                          have h24 := hBw46.lt
                          have h31 := hB46.lt
                          have hl26 := hBw.lt
                          have hz2646 := hk2646.size
                          have hCs := hC.trans (chkR_some hok hlf (by rw [← hR]; exact hd))
                          rw [← hR] at hCs
                          refine W_held (fun w' => Keep (fun z => z ≠ b24) w84 w') (by kernel_rfl) ((Keep.drawn w84).all) (fun hS => ?_)
                          refine any_run 0 (fun w' hS' => (r_loadA (dgR d) rfl rfl rfl (by first | rfl | (rw [binV_len]; rfl) | (rw [dgR_len]; rfl) | (rw [refR_len]; rfl) | (rw [secR_len]; rfl) | (rw [List.length_map, tagF_len]; rfl) | rfl) ((hS'.blk' hB72 (show b59 ≠ b24 by omega)).all))) rfl (by kernel_rfl) (by kernel_rfl) (by kernel_rfl) rfl hS ?_
                          refine any_mvt 1 rfl (by kernel_rfl) (by kernel_rfl) (by kernel_rfl) rfl hS ?_
                          refine any_run 2 (fun w' hS' => (r_fieldAddr rfl rfl rfl rfl rfl)) rfl (by kernel_rfl) (by kernel_rfl) (by kernel_rfl) rfl hS ?_
                          refine any_run 3 (fun w' hS' => (r_load rfl rfl rfl (((hS'.blk' hB72n (show b31 ≠ b24 by have := hk30.size; omega)).cell rfl)))) rfl (by kernel_rfl) (by kernel_rfl) (by kernel_rfl) rfl hS ?_
                          refine any_run 4 (fun w' hS' => (r_len rfl rfl rfl)) rfl (by kernel_rfl) (by kernel_rfl) (by kernel_rfl) rfl hS ?_
                          refine any_run 5 (fun w' hS' => ((r_add rfl rfl).val (congrArg (Value.int .i64) (show IntKind.i64.wrap ((R.1.beg.length : Int) + 1) = ((R.1.beg.length + 1 : Nat) : Int) from inc64' _ (by omega))))) rfl (by kernel_rfl) (by kernel_rfl) (by kernel_rfl) rfl hS ?_
                          refine any_run 6 (fun w' hS' => (r_sliceS_lo rfl rfl rfl rfl (by omega) (by omega))) rfl (by kernel_rfl) (by kernel_rfl) (by kernel_rfl) rfl hS ?_
                          refine any_one 7 (by kernel_rfl) (one_of rfl ?_)
                          refine o_storeA (cs := dgR d) rfl rfl (by first | rfl | exact binV_one _ | exact dgR_one _ | exact refR_one _ | exact secR_one _ | exact all_c8 _ | rfl) (by first | rfl | (rw [binV_len]; rfl) | (rw [dgR_len]; rfl) | (rw [refR_len]; rfl) | (rw [secR_len]; rfl) | (rw [List.length_map, tagF_len]; rfl) | rfl) ((Keep.drawn w84).blk' hBw84 trivial) (by exact Nat.le_of_eq (by simp [dgR_len])) rfl ?_; intro w91 hB91 hk91 hs91
                          have hB91 : Blk w91 b24 (dgR d) 24 := by
                            have h := hB91
                            rwa [splice_all (by simp [dgR_len])] at h
                          refine ops_nil ⟨hS.trans hk91, fun hS => ?_⟩
                          refine any_ast 8 rfl (by kernel_rfl) (by kernel_rfl) (by kernel_rfl) rfl hS ?_
                          refine any_done (by kernel_rfl) ?_
                          refine W_region ?_
                          refine op_run (r_add rfl rfl) rfl ?_
                          refine o_mvt rfl ?_
                          refine ops_nil ?_
                          have hinc := inc64' i (by omega)
                          have hk2691 : Keep (fun z => z ≠ b24) w26 _ := (hk2646.trans hk4672).all.trans hS
                          refine ⟨by (repeat (first | with_reducible exact offM_refl _ _ | refine offM_updc rfl ?_ | refine offM_upd rfl ?_ | refine offM_updo rfl ?_ | refine offM_updo_none ?_ | refine offM_head rfl rfl ?_)), ⟨i + 1, (if cr = R.1.beg.length + 1 then ar else ar.map (·.add ((R.1.beg.length + 1) * 1))), cr - (R.1.beg.length + 1), d, rest.drop (R.1.beg.length + 1), ?_, by omega, by rw [List.length_drop]; omega, by rw [List.length_drop]; omega, ?_, ?_, hB91, hCs, hk26.trans hk2691⟩, ?_⟩
                          · rw [List.length_drop]
                            exact congrArg (fun z : Int => [subSl ar 1 (R.1.beg.length + 1) rest.length cr, Value.int .i64 z]) hinc
                          · have h := By.sub (l := R.1.beg.length + 1) (h := rest.length) (m := cr) (hbr.keep hk2691 (hir.mono fun z h => by omega)) (by omega) (Nat.le_refl _) hrc (Nat.le_refl _)
                            rw [List.take_length] at h
                            rw [List.length_drop]; exact h
                          · rw [List.length_drop]; exact InB.sub (sz := 1) (l := R.1.beg.length + 1) (h := rest.length) (m := cr) hir
                          · show nodes.length - (IntKind.i64.wrap ((i : Int) + 1)).toNat < nodes.length - (i : Int).toNat
                            rw [hinc]; omega
        · refine W_exit ?_
          refine W_seq ?_
          refine W_region ?_
          refine o_asc rfl ?_
          refine o_asc rfl ?_
          refine o_asc rfl ?_
          refine ops_nil ?_
          refine W_ret ?_
          refine ret3 (.slice none 0 0) (.bool false) (.int .i64 3) rfl ?_ ?_ ?_ ?_; rfl; rfl; rfl
          refine bad _ (hchk _ (hC.trans ?_)) (hk025.new hk26 (by omega))
          rw [List.drop_of_length_le (by omega)]; rfl
end Go.Proofs.YtpiidddccmohdabDoor.B
