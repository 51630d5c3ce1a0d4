/-
  ProofBound: the walk.
-/
import Derived.Test.YtpiidddccmohdaaDoorProE
namespace Go.Proofs.YtpiidddccmohdaaDoor.B
open Go
set_option linter.unusedVariables false
set_option maxHeartbeats 2000000
set_option maxRecDepth 100000
attribute [local irreducible] W OpsW OpsQ retP
attribute [local irreducible] numR kdR
theorem rf8_Root (w : World) (v : Value) (T : Tre) (l : List It) (hA : AtI [] T l) (hs : T.short) (hv : ItIn w v l) (hl : l.length ≤ 2 ^ 20) : Ret Tryd.prog 13 [v].toArray w fun r w' => r = .agg (dgR (rootT T)).toArray ∧ Keep All w w' := by
  obtain ⟨a0, c0, rfl, hc0, hcm0⟩ := hv.form
  refine enter (fn := Tryd.f13) (n := 11) Tryd.func13 rfl rfl (by simp) ?_
  refine W_seq ?_
  refine W_region ?_
  refine o_alloc rfl rfl rfl ?_; intro w1 b1 e1 hB1 hk1 hs1
  refine ops_nil ?_
  refine W_seq ?_
  refine W_seq ?_
  refine W_region ?_
  refine o_mvt rfl ?_
  refine op_run (r_len rfl rfl rfl) rfl ?_
  refine op_run (r_eql rfl rfl) rfl ?_
  refine ops_nil ?_
  refine W_cond_p rfl (fun h2 => ?_) (fun h2 => ?_)
  · refine W_seq ?_
    refine W_region ?_
    refine op_call rfl rfl rfl (rf_TagD w1 _ 5 [] (rowsB_none w1) (tag_0 5)) ?_; rintro v3 w3 ⟨rfl, hk3⟩
    refine o_storeA (cs := dgR (tagD 5 [])) rfl rfl (by first | rfl | exact binV_one _ | exact dgR_one _ | exact refR_one _ | exact secR_one _ | exact all_c8 _ | exact okC_dgR _) (by first | rfl | (rw [binV_len]; rfl) | (rw [dgR_len]; rfl) | (rw [refR_len]; rfl) | (rw [secR_len]; rfl) | (rw [List.length_map, tagF_len]; rfl) | (rw [dgR_len]; rfl)) (hk3.blk' hB1 trivial) (by exact Nat.le_of_eq (by simp [dgR_len])) rfl ?_; intro w4 hB4 hk4 hs4
    have hB4 : Blk w4 b1 (dgR (tagD 5 [])) 23 := by
      have h := hB4
      rwa [splice_all (by simp [dgR_len])] at h
    refine ops_nil ?_
    refine W_ret ?_
    refine retA (dgR (tagD 5 [])) rfl rfl rfl rfl (by first | rfl | (rw [binV_len]; rfl) | (rw [dgR_len]; rfl) | (rw [refR_len]; rfl) | (rw [secR_len]; rfl) | (rw [List.length_map, tagF_len]; rfl) | (rw [dgR_len]; rfl)) hB4.all ?_
    have hnil : l = [] := List.eq_nil_of_length_eq_zero (by omega)
    obtain rfl : T = .no := Classical.byContradiction fun e => hA.some_ e hnil
    exact ⟨rfl, (hk1.trans hk3).new hk4 (by omega)⟩
  · refine W_skip ?_
    refine W_seq ?_
    refine W_region ?_
    have hT : T ≠ .no := fun e => by rw [e] at hA; rw [hA.no] at h2; exact h2 rfl
    refine o_mvt rfl ?_
    refine op_call rfl rfl rfl (rf8_Node T hT [] l w1 _ hA hs (hv.k hk1) hl) ?_; rintro v6 w6 ⟨hO6, hin6, hk6⟩
    obtain ⟨a6, c6, rfl, _, _⟩ := (OwnB.by_ hO6).form
    refine o_bs1 (v := (.slice a6 (nodeB T).length c6)) rfl rfl rfl rfl rfl rfl ?_; intro w7 b7 e7 hB7 hk7 hs7
    refine op_call rfl rfl rfl (rf_TagD w7 _ 4 [nodeB T] (rowsB_one hB7 (Sl.k (OwnB.by_ hO6) hk7)) (tag_1 4 (by have := nodeB_len hs; omega))) ?_; rintro v8 w8 ⟨rfl, hk8⟩
    refine o_storeA (cs := dgR (tagD 4 [nodeB T])) rfl rfl (by first | rfl | exact binV_one _ | exact dgR_one _ | exact refR_one _ | exact secR_one _ | exact all_c8 _ | exact okC_dgR _) (by first | rfl | (rw [binV_len]; rfl) | (rw [dgR_len]; rfl) | (rw [refR_len]; rfl) | (rw [secR_len]; rfl) | (rw [List.length_map, tagF_len]; rfl) | (rw [dgR_len]; rfl)) (hk8.blk' (hk7.blk' (hk6.blk' hB1 trivial) trivial) trivial) (by exact Nat.le_of_eq (by simp [dgR_len])) rfl ?_; intro w9 hB9 hk9 hs9
    have hB9 : Blk w9 b1 (dgR (tagD 4 [nodeB T])) 23 := by
      have h := hB9
      rwa [splice_all (by simp [dgR_len])] at h
    refine ops_nil ?_
    refine W_ret ?_
    refine retA (dgR (tagD 4 [nodeB T])) rfl rfl rfl rfl (by first | rfl | (rw [binV_len]; rfl) | (rw [dgR_len]; rfl) | (rw [refR_len]; rfl) | (rw [secR_len]; rfl) | (rw [List.length_map, tagF_len]; rfl) | (rw [dgR_len]; rfl)) hB9.all ?_
    exact ⟨by rw [rootT_is hT], (((hk1.trans hk6).trans hk7).trans hk8).new hk9 (by omega)⟩
theorem findI_is (key : Dig) : ∀ (l : List It) (i : Nat), 0 ≤ findI key l i → ∃ (j : Nat) (y : It), findI key l i = ((i + j : Nat) : Int) ∧ l[j]? = some y ∧ lookI l key = some y.2
  | [], i, h => by unfold findI at h; omega
  | x :: l, i, h => by
    unfold findI at h ⊢
    unfold lookI
    by_cases e : x.1 = key
    · rw [if_pos e, if_pos e]; exact ⟨0, x, rfl, rfl, rfl⟩
    · rw [if_neg e] at h ⊢
      rw [if_neg e]
      obtain ⟨j, y, h1, h2, h3⟩ := findI_is key l (i + 1) h
      exact ⟨j + 1, y, by rw [h1]; omega, h2, h3⟩
theorem agree_tell {T : Tre} {l : List It} (h : Agree T l) (key : Dig) : tellT T (nibs key.val) = some ((lookI l key).isSome, (lookI l key).getD []) := by unfold tellT; rw [h key]
/-- The first two that aren't one clash. -/
theorem bound_first {T : Tre} {key : Dig} {ns : List (List UInt8)} {r : Bool × List UInt8} (hw : T.wf 64) (hs : T.short) (hT : T ≠ .no) (hn : ns ≠ []) (hc : chk (rootT T) key.val ns = some r) (hne : some r ≠ tellT T (nibs key.val)) :
    ∃ (i : Nat) (x y : List UInt8), (proveT T key)[i]? = some x ∧ ns[i]? = some y ∧ x ≠ y ∧ tagD 4 [x] = tagD 4 [y] ∧ ∀ j : Nat, j < i → (proveT T key)[j]? = ns[j]? := by
  unfold chk at hc
  rw [if_neg hn, rootT_is hT] at hc
  exact (chk_bound T 64 _ ns r hw hs hT (nibs_64 key) hc).resolve_left hne
theorem bound_no {key root : Dig} {n0 : List UInt8} {ns : List (List UInt8)} {r : Bool × List UInt8} (hc : chk root key.val (n0 :: ns) = some r) : tagD 4 [n0] = root := by
  unfold chk at hc
  rw [if_neg (by simp)] at hc
  by_cases hx : okN (nibs key.val).length (ndR ndM n0) ∧ tagD 4 [n0] = root
  · exact hx.2
  · rw [chkR_bad hx] at hc; cases hc
theorem bound_nil {T : Tre} {key : Dig} {r : Bool × List UInt8} (hc : chk (rootT T) key.val [] = some r) (hne : some r ≠ tellT T (nibs key.val)) : T ≠ .no ∧ tagD 4 [nodeB T] = tagD 5 [] := by
  unfold chk at hc
  rw [if_pos rfl] at hc
  by_cases hr : rootT T = tagD 5 []
  · rw [if_pos hr] at hc
    have hT : T ≠ .no := fun e => hne (by rw [← hc, e]; rfl)
    rw [rootT_is hT] at hr
    exact ⟨hT, hr⟩
  · rw [if_neg hr] at hc; cases hc
theorem walk_ProofBound (w : World) (hTb : TabB w) (hne : ¬ Dig.zero = tagD 5 []) (v vn : Value) (vns : List Value) (cs : List Cl) (key : Dig) (ns : List (List UInt8)) (hv : ClsIn w v cs) (hn : RowsV w vn vns ns) :
    Ret Tryd.prog 4 [v, .agg (dgR key).toArray, vn].toArray w fun r w' => r = .bool true ∧ Keep All w w' := by
  obtain ⟨a0, c0, rfl, hc0, hcm0⟩ := SlR.form hv
  obtain ⟨an, cn, rfl, hcn, hcnm⟩ := hn.2.1.form
  have hvl := hn.1
  refine enter (fn := Tryd.f4) (n := 150) Tryd.func4 rfl rfl (by simp) ?_
  refine W_seq ?_
  refine W_region ?_
  refine o_box rfl rfl rfl ?_; intro w1 b1 e1 hB1 hk1 hs1
  have hB1 : Blk w1 b1 (dgR key) 23 := hB1
  refine o_asc rfl ?_
  refine ops_nil ?_
  refine W_seq ?_
  refine W_seq ?_
  refine W_region ?_
  refine op_call rfl rfl rfl (speaks09 w1 (hTb.k hk1) hne) ?_; rintro v2 w2 ⟨rfl, hk2⟩
  refine op_run (r_not rfl) rfl ?_
  refine ops_nil ?_
  refine W_cond rfl (fun h3 => ?_) (fun h3 => ?_)
  · refine W_seq ?_
    refine W_region ?_
    refine o_asc rfl ?_
    refine ops_nil ?_
    refine W_ret ?_
    refine ret1 (.bool false) rfl ?_ ?_; rfl
    cases h3
  · refine W_skip ?_
    refine W_seq ?_
    refine W_cut [23] [18, 19, 20, 21, 22, 23] (fun vs w5 => ∃ g : Bool, vs = [.bool g] ∧ (g = false → smallC cs ∧ ¬ greatP ns) ∧ Keep All w2 w5) ?_ ?_
    · refine W_region ?_
      refine o_mvt rfl ?_
      refine op_call rfl rfl rfl (lw_Great w2 _ cs (hv.k (hk1.trans hk2))) ?_; rintro v6 w6 ⟨⟨g, rfl, hg⟩, hk6⟩
      refine o_mvt rfl ?_
      refine g_split rfl rfl rfl (fun g7 => ?_) (fun g7 => ?_)
      · refine o_mvt (g_yes rfl rfl rfl g7) ?_
        refine op_call rfl rfl (g_yes rfl rfl rfl g7) (great09 w6 _ vns ns (hn.k ((hk1.trans hk2).trans hk6))) ?_; rintro v8 w8 ⟨rfl, hk8⟩
        refine o_pkFt rfl g7 rfl ?_
        refine ops_nil ?_
        exact ⟨by (repeat (first | with_reducible exact offM_refl _ _ | refine offM_updc rfl ?_ | refine offM_upd rfl ?_ | refine offM_updo rfl ?_ | refine offM_updo_none ?_ | refine offM_head rfl rfl ?_)), _, rfl, fun h => ⟨hg g7, of_decide_eq_false h⟩, hk6.trans hk8⟩
      · refine op_skip (g_no rfl rfl rfl g7) ?_
        refine op_skip (g_no rfl rfl rfl g7) ?_
        refine o_pkTc rfl g7 rfl ?_
        refine ops_nil ?_
        exact ⟨by (repeat (first | with_reducible exact offM_refl _ _ | refine offM_updc rfl ?_ | refine offM_upd rfl ?_ | refine offM_updo rfl ?_ | refine offM_updo_none ?_ | refine offM_head rfl rfl ?_)), true, rfl, (fun h => by cases h), hk6⟩
    · rintro J11 vs w11 ⟨g, rfl, hg, hk11⟩ -
      refine W_cond rfl (fun h12 => ?_) (fun h12 => ?_)
      · refine W_seq ?_
        refine W_region ?_
        refine o_asc rfl ?_
        refine ops_nil ?_
        refine W_ret ?_
        refine ret1 (.bool true) rfl ?_ ?_; rfl
        exact ⟨rfl, (hk1.trans hk2).trans hk11⟩
      · refine W_skip ?_
        refine W_seq ?_
        refine W_region ?_
        obtain ⟨hsm, hgr⟩ := hg h12
        obtain ⟨h70, hl2⟩ := greatP_not hgr
        have hl3 : ∀ b ∈ ns, b.length ≤ 3000 := fun b hb => Nat.le_trans (hl2 b hb) (by decide)
        have hk111 : Keep All w1 w11 := hk2.trans hk11
        have hms50 := hsm.1
        obtain ⟨T, hT_a⟩ : ∃ T, T = (playC cs).1 := ⟨_, rfl⟩
        obtain ⟨l, hl_a⟩ : ∃ l, l = (playC cs).2 := ⟨_, rfl⟩
        have haa : Agree T l := by rw [hT_a, hl_a]; exact (play_ok cs (.no, []) (fun _ => rfl) trivial).1
        have hwa : T.wf 64 := by rw [hT_a]; exact (play_ok cs (.no, []) (fun _ => rfl) trivial).2
        have hna : (l.map (·.1)).Nodup := by rw [hl_a]; exact play_nodup cs (.no, []) List.nodup_nil
        have h50a : l.length ≤ 50 := by
          rw [hl_a]
          have e0 : ((Tre.no, ([] : List It)) : Tre × List It).2.length = 0 := rfl
          have : (playC cs).2.length ≤ _ := play_len cs (.no, [])
          have := hsm.1
          omega
        have hsa : T.short := haa.short hwa fun x hx => Nat.le_trans (play_short 200 cs (.no, []) (fun x h => by cases h) hsm.2 x (by rw [hl_a] at hx; exact hx)) (by decide)
        refine o_bs0 rfl rfl rfl ?_; intro w14 b14 e14 hB14 hk14 hs14
        refine o_ast rfl ?_
        refine ops_nil ?_
        refine W_seq ?_
        refine W_seq ?_
        refine W_region ?_
        refine o_mvt rfl ?_
        refine op_run (r_len rfl rfl rfl) rfl ?_
        refine o_mvc rfl ?_
        refine ops_nil ?_
        refine W_block ?_
        refine W_loop [7, 27] [7, 9, 27, 28, 29, 30, 31, 32, 33, 34, 35, 36, 37, 38, 39, 40, 41, 42, 43, 44] (fun vs w' => ∃ (k : Nat) (u : Value), vs = [u, .int .i64 k] ∧ k ≤ cs.length ∧ ItIn w' u (playC (cs.take k)).2 ∧ Keep All w1 w') (fun vs _ => match vs with | [_, .int _ y] => cs.length - y.toNat | _ => 0) ⟨0, .slice (some ⟨b14, 0, none⟩) 0 0, rfl, Nat.zero_le _, ⟨[], (Own.blk (n := 0) (sz := 33) hB14 rfl (Nat.zero_le _)).sl, trivial⟩, hk111.trans hk14⟩ ?_
        rintro J15 vs w15 ⟨k, u, rfl, hk, hI15, hk115⟩ -
        refine W_seq ?_
        refine W_region ?_
        refine op_run (r_lss rfl rfl) rfl ?_
        refine ops_nil ?_
        refine W_seq ?_
        refine W_cond_p rfl (fun h16 => ?_) (fun h16 => ?_)
        · refine W_skip ?_
          refine W_seq ?_
          refine W_block ?_
          refine W_seq ?_
          refine W_region ?_
          have hcl : k < cs.length := by omega
          obtain ⟨c, hc⟩ : ∃ c, cs[k]? = some c := ⟨_, List.getElem?_eq_getElem hcl⟩
          obtain ⟨b, off, cp, vv, ev_, hby, hcell⟩ := (hv.k (hk1.trans hk115)).at hc
          cases ev_
          obtain ⟨av, cv, rfl, _, _⟩ := hby.form
          have hinc := inc64' k (by omega)
          have hvl2 := hsm.2 c (List.mem_of_getElem? hc)
          have hstep := playC_s hc
          obtain ⟨S, hS_⟩ : ∃ S, S = playC (cs.take k) := ⟨_, rfl⟩
          have hSl : S.2.length ≤ 50 := by
            have := play_len (cs.take k) (.no, [])
            rw [List.length_take] at this
            rw [hS_]; show ((cs.take k).foldl stepC (.no, [])).2.length ≤ 50
            have e0 : ((Tre.no, ([] : List It)) : Tre × List It).2.length = 0 := rfl
            omega
          rw [← hS_] at hI15 hstep
          refine op_run (r_idxS rfl rfl rfl rfl (by omega) (by omega)) rfl ?_
          refine op_run (r_loadA (callR c.1 c.2.1 (.slice av c.2.2.length cv)) rfl rfl rfl (by first | rfl | (rw [binV_len]; rfl) | (rw [dgR_len]; rfl) | (rw [refR_len]; rfl) | (rw [secR_len]; rfl) | (rw [List.length_map, tagF_len]; rfl) | (rw [callR_len]; rfl) | (rw [itR_len]; rfl) | (rw [dgR_len]; rfl)) ((fun j u hj => by rw [Int.toNat_natCast]; exact hcell j u hj))) rfl ?_
          refine o_alloc rfl rfl rfl ?_; intro w19 b19 e19 hB19 hk19 hs19
          refine o_storeA (cs := callR c.1 c.2.1 (.slice av c.2.2.length cv)) rfl rfl (by first | rfl | exact binV_one _ | exact dgR_one _ | exact refR_one _ | exact secR_one _ | exact all_c8 _ | first | exact callR_one (Sl.oneI hby) | exact itR_one (Sl.oneI hby) | exact okC_dgR _) (by first | rfl | (rw [binV_len]; rfl) | (rw [dgR_len]; rfl) | (rw [refR_len]; rfl) | (rw [secR_len]; rfl) | (rw [List.length_map, tagF_len]; rfl) | (rw [callR_len]; rfl) | (rw [itR_len]; rfl) | (rw [dgR_len]; rfl)) hB19 (by exact Nat.le_of_eq (by simp [callR_len])) rfl ?_; intro w20 hB20 hk20 hs20
          have hB20 : Blk w20 b19 (callR c.1 c.2.1 (.slice av c.2.2.length cv)) 39 := by
            have h := hB20
            rwa [splice_all (by simp [callR_len])] at h
          have hk1520 : Keep All w15 w20 := hk19.new hk20 (by omega)
          refine ops_nil ?_
          refine W_seq ?_
          refine W_region ?_
          refine op_run (r_fieldAddr rfl rfl rfl rfl rfl) rfl ?_
          refine op_run (r_load rfl rfl rfl (hB20.cell callR_what)) rfl ?_
          refine op_run (r_eql rfl rfl) rfl ?_
          refine ops_nil ?_
          refine W_cond_p rfl (fun h22 => ?_) (fun h22 => ?_)
          · refine W_region ?_
            refine o_mvt rfl ?_
            refine op_run (r_fieldAddr rfl rfl rfl rfl rfl) rfl ?_
            refine op_run (r_loadA (dgR c.2.1) rfl rfl rfl (by first | rfl | (rw [binV_len]; rfl) | (rw [dgR_len]; rfl) | (rw [refR_len]; rfl) | (rw [secR_len]; rfl) | (rw [List.length_map, tagF_len]; rfl) | (rw [callR_len]; rfl) | (rw [itR_len]; rfl) | (rw [dgR_len]; rfl)) (hB20.key)) rfl ?_
            refine op_run (r_fieldAddr rfl rfl rfl rfl rfl) rfl ?_
            refine op_run (r_load rfl rfl rfl (hB20.cell callR_val)) rfl ?_
            refine op_call rfl rfl rfl (rf8_Put w20 u _ S.2 c.2.1 c.2.2 (hI15.k hk1520) (Sl.k hby hk1520) (by omega)) ?_; rintro v25 w25 hO25
            refine o_ast rfl ?_
            refine ops_nil ?_
            refine W_region ?_
            refine op_run (r_add rfl rfl) rfl ?_
            refine o_mvt rfl ?_
            refine ops_nil ?_
            have hes : stepC S c = (putTT S.1 c.2.1 c.2.2, putI S.2 c.2.1 c.2.2) := if_pos h22
            rw [hes] at hstep
            refine ⟨by (repeat (first | with_reducible exact offM_refl _ _ | refine offM_updc rfl ?_ | refine offM_upd rfl ?_ | refine offM_updo rfl ?_ | refine offM_updo_none ?_ | refine offM_head rfl rfl ?_)), ⟨k + 1, v25, congrArg (fun z : Int => [v25, Value.int .i64 z]) hinc, by omega, by rw [hstep]; exact hO25.it, (hk115.trans hk1520).trans hO25.keepAll⟩, ?_⟩
            show cs.length - (IntKind.i64.wrap ((k : Int) + 1)).toNat < cs.length - (k : Int).toNat
            rw [hinc]; omega
          · refine W_region ?_
            refine o_mvt rfl ?_
            refine op_run (r_fieldAddr rfl rfl rfl rfl rfl) rfl ?_
            refine op_run (r_loadA (dgR c.2.1) rfl rfl rfl (by first | rfl | (rw [binV_len]; rfl) | (rw [dgR_len]; rfl) | (rw [refR_len]; rfl) | (rw [secR_len]; rfl) | (rw [List.length_map, tagF_len]; rfl) | (rw [callR_len]; rfl) | (rw [itR_len]; rfl) | (rw [dgR_len]; rfl)) (hB20.key)) rfl ?_
            refine op_call rfl rfl rfl (rf8_Drop w20 u S.2 c.2.1 (hI15.k hk1520) (by omega)) ?_; rintro v28 w28 hO28
            refine o_ast rfl ?_
            refine ops_nil ?_
            refine W_region ?_
            refine op_run (r_add rfl rfl) rfl ?_
            refine o_mvt rfl ?_
            refine ops_nil ?_
            have hes : stepC S c = (dropTT S.1 c.2.1, dropI S.2 c.2.1) := if_neg h22
            rw [hes] at hstep
            refine ⟨by (repeat (first | with_reducible exact offM_refl _ _ | refine offM_updc rfl ?_ | refine offM_upd rfl ?_ | refine offM_updo rfl ?_ | refine offM_updo_none ?_ | refine offM_head rfl rfl ?_)), ⟨k + 1, v28, congrArg (fun z : Int => [v28, Value.int .i64 z]) hinc, by omega, by rw [hstep]; exact hO28.it, (hk115.trans hk1520).trans hO28.keepAll⟩, ?_⟩
            show cs.length - (IntKind.i64.wrap ((k : Int) + 1)).toNat < cs.length - (k : Int).toNat
            rw [hinc]; omega
        · refine W_exit ?_
          refine W_seq ?_
          have hke : k = cs.length := by omega
          rw [hke, List.take_length, ← hl_a] at hI15
          obtain ⟨au, cu, rfl, hcu, hcum⟩ := hI15.form
          have hA := haa.atI hwa hna
          refine W_held (fun w' => Keep All w15 w') (by kernel_rfl) (Keep.drawn w15) (fun hS => ?_)
          refine any_mvt 0 rfl (by kernel_rfl) (by kernel_rfl) (by kernel_rfl) rfl hS ?_
          refine any_run 2 (fun w' hS' => (r_loadA (dgR key) rfl rfl rfl (by first | rfl | (rw [binV_len]; rfl) | (rw [dgR_len]; rfl) | (rw [refR_len]; rfl) | (rw [secR_len]; rfl) | (rw [List.length_map, tagF_len]; rfl) | (rw [callR_len]; rfl) | (rw [itR_len]; rfl) | (rw [dgR_len]; rfl)) (((hk115.trans hS').blk' hB1 trivial).all))) rfl (by kernel_rfl) (by kernel_rfl) (by kernel_rfl) rfl hS ?_
          refine any_mvt 3 rfl (by kernel_rfl) (by kernel_rfl) (by kernel_rfl) rfl hS ?_
          refine any_one 1 (by kernel_rfl) (one_of rfl ?_)
          refine op_call rfl rfl rfl (rf8_Root _ _ T l hA hsa (hI15.k hS) (by omega)) ?_; rintro v32 w32 ⟨rfl, hk32⟩
          refine ops_nil ⟨hS.trans hk32, fun hS => ?_⟩
          refine any_one 4 (by kernel_rfl) (one_of rfl ?_)
          refine op_call rfl rfl rfl (p_Check w32 (rootT T) key _ vns ns (hn.k ((hk1.trans hk115).trans hS)) h70 hl3 (hTb.k ((hk1.trans hk115).trans hS))) ?_; rintro v34 w34 ⟨vx, hr34, hbx, hk34⟩
          obtain ⟨C, hC⟩ : ∃ C, C = chk (rootT T) key.val ns := ⟨_, rfl⟩
          rw [← hC] at hr34 hbx
          subst hr34
          refine ops_nil ⟨hS.trans hk34, fun hS => ?_⟩
          refine any_mvt 5 rfl (by kernel_rfl) (by kernel_rfl) (by kernel_rfl) rfl hS ?_
          refine any_run 6 (fun w' hS' => (r_extract rfl rfl)) rfl (by kernel_rfl) (by kernel_rfl) (by kernel_rfl) rfl hS ?_
          refine any_run 7 (fun w' hS' => (r_extract rfl rfl)) rfl (by kernel_rfl) (by kernel_rfl) (by kernel_rfl) rfl hS ?_
          refine any_run 8 (fun w' hS' => (r_extract rfl rfl)) rfl (by kernel_rfl) (by kernel_rfl) (by kernel_rfl) rfl hS ?_
          refine any_ast 9 rfl (by kernel_rfl) (by kernel_rfl) (by kernel_rfl) rfl hS ?_
          refine any_ast 10 rfl (by kernel_rfl) (by kernel_rfl) (by kernel_rfl) rfl hS ?_
          refine any_ast 11 rfl (by kernel_rfl) (by kernel_rfl) (by kernel_rfl) rfl hS ?_
          refine any_done (by kernel_rfl) ?_
          refine W_seq ?_
          refine W_seq ?_
          refine W_region ?_
          refine o_mvt rfl ?_
          refine op_run (r_neq rfl rfl) rfl ?_
          refine ops_nil ?_
          refine W_cond rfl (fun h36 => ?_) (fun h36 => ?_)
          · refine W_seq ?_
            refine W_region ?_
            refine o_asc rfl ?_
            refine ops_nil ?_
            refine W_ret ?_
            refine ret1 (.bool true) rfl ?_ ?_; rfl
            exact ⟨rfl, (hk1.trans hk115).trans hS⟩
          · refine W_skip ?_
            refine W_seq ?_
            refine W_region ?_
            obtain ⟨r, hCr⟩ : ∃ r, C = some r := by
              cases C with
              | none => simp at h36
              | some r => exact ⟨r, rfl⟩
            subst hCr
            obtain ⟨rt, rv⟩ := r
            have hbx : By w34 vx rv := hbx
            obtain ⟨ax, cx, rfl, _, _⟩ := hbx.form
            have hk1534 : Keep All w15 w34 := hS
            have hk134 := hk115.trans hk1534
            have hI34 := hI15.k hk1534
            have htell := agree_tell haa key
            have hfl := findI_look key l 0
            refine o_mvt rfl ?_
            refine op_run (r_loadA (dgR key) rfl rfl rfl (by first | rfl | (rw [binV_len]; rfl) | (rw [dgR_len]; rfl) | (rw [refR_len]; rfl) | (rw [secR_len]; rfl) | (rw [List.length_map, tagF_len]; rfl) | (rw [callR_len]; rfl) | (rw [itR_len]; rfl) | (rw [dgR_len]; rfl)) ((hk134.blk' hB1 trivial).all)) rfl ?_
            refine op_call rfl rfl rfl (rf8_Find w34 _ l key hI34 (by omega)) ?_; rintro v39 w39 ⟨rfl, hk39⟩
            refine o_ast rfl ?_
            refine ops_nil ?_
            refine W_seq ?_
            refine W_cut [75] [59, 60, 61, 62, 63, 64, 65, 66, 67, 68, 69, 70, 71, 72, 73, 74, 75] (fun vs w40 => ∃ b : Bool, vs = [.bool b] ∧ (b = false → some (rt, rv) ≠ tellT T (nibs key.val)) ∧ Keep All w39 w40) ?_ ?_
            · refine W_region ?_
              refine o_mvt rfl ?_
              refine o_mvt rfl ?_
              refine op_run (r_geq rfl rfl) rfl ?_
              refine op_run (r_eqlB rfl rfl rfl) rfl ?_
              refine o_mvt rfl ?_
              refine g_split rfl rfl rfl (fun g41 => ?_) (fun g41 => ?_)
              · refine o_mvt (g_yes rfl rfl rfl g41) ?_
                refine op_run (r_not rfl) (g_yes rfl rfl rfl g41) ?_
                refine o_mvt (g_yes rfl rfl rfl g41) ?_
                refine g_split rfl rfl rfl (fun g42 => ?_) (fun g42 => ?_)
                · refine o_mvt (g_yes rfl rfl rfl (by rw [g42] <;> rfl)) ?_
                  refine o_mvt (g_yes rfl rfl rfl (by rw [g42] <;> rfl)) ?_
                  refine o_mvt (g_yes rfl rfl rfl (by rw [g42] <;> rfl)) ?_
                  have gt : rt = true := by simpa using g42
                  have gf : 0 ≤ findI key l 0 := by
                    have g := of_decide_eq_true g41
                    rw [gt] at g
                    exact of_decide_eq_true g.symm
                  obtain ⟨j, y, hj1, hj2, hj3⟩ := findI_is key l 0 gf
                  rw [Nat.zero_add] at hj1
                  have hjl := (List.getElem?_eq_some_iff.1 hj2).1
                  obtain ⟨b, off, c, vv, ev_, hby, hc⟩ := (hI34.k hk39).at hj2
                  cases ev_
                  obtain ⟨av, cv, rfl, _, _⟩ := hby.form
                  refine op_run (r_idxS rfl rfl rfl rfl (by omega) (by omega)) (g_yes rfl rfl rfl (by rw [g42] <;> rfl)) ?_
                  refine op_run (r_fieldAddr rfl rfl rfl rfl rfl) (g_yes rfl rfl rfl (by rw [g42] <;> rfl)) ?_
                  refine op_run (r_load (v := .slice av y.2.length cv) rfl rfl rfl (by rw [hj1, Int.toNat_natCast]; exact hc 32 _ itR_v32)) (g_yes rfl rfl rfl (by rw [g42] <;> rfl)) ?_
                  refine op_call rfl rfl (g_yes rfl rfl rfl (by rw [g42] <;> rfl)) (ref01_Same w39 _ _ rv y.2 (Sl.k hbx hk39) hby) ?_; rintro v45 w45 ⟨rfl, hk45⟩
                  refine o_pkFt rfl (by rw [g42] <;> rfl) (g_yes rfl rfl rfl g41) ?_
                  refine o_pkTt rfl g41 rfl ?_
                  refine ops_nil ?_
                  exact ⟨by (repeat (first | with_reducible exact offM_refl _ _ | refine offM_updc rfl ?_ | refine offM_upd rfl ?_ | refine offM_updo rfl ?_ | refine offM_updo_none ?_ | refine offM_head rfl rfl ?_)), decide (rv = y.2), rfl, (fun h e => by rw [htell, hj3] at e; exact of_decide_eq_false h (congrArg Prod.snd (Option.some.inj e))), hk45⟩
                · refine op_skip (g_no rfl rfl rfl (by rw [g42] <;> rfl)) ?_
                  refine op_skip (g_no rfl rfl rfl (by rw [g42] <;> rfl)) ?_
                  refine op_skip (g_no rfl rfl rfl (by rw [g42] <;> rfl)) ?_
                  refine op_skip (g_no rfl rfl rfl (by rw [g42] <;> rfl)) ?_
                  refine op_skip (g_no rfl rfl rfl (by rw [g42] <;> rfl)) ?_
                  refine op_skip (g_no rfl rfl rfl (by rw [g42] <;> rfl)) ?_
                  refine op_skip (g_no rfl rfl rfl (by rw [g42] <;> rfl)) ?_
                  refine o_pkTc rfl (by rw [g42] <;> rfl) (g_yes rfl rfl rfl g41) ?_
                  refine o_pkTt rfl g41 rfl ?_
                  refine ops_nil ?_
                  exact ⟨by (repeat (first | with_reducible exact offM_refl _ _ | refine offM_updc rfl ?_ | refine offM_upd rfl ?_ | refine offM_updo rfl ?_ | refine offM_updo_none ?_ | refine offM_head rfl rfl ?_)), true, rfl, (fun h => by cases h), Keep.refl _⟩
              · refine op_skip (g_no rfl rfl rfl g41) ?_
                refine op_skip (g_no rfl rfl rfl g41) ?_
                refine op_skip (g_no rfl rfl rfl g41) ?_
                refine op_skip (g_und rfl rfl rfl) ?_
                refine op_skip (g_und rfl rfl rfl) ?_
                refine op_skip (g_und rfl rfl rfl) ?_
                refine op_skip (g_und rfl rfl rfl) ?_
                refine op_skip (g_und rfl rfl rfl) ?_
                refine op_skip (g_und rfl rfl rfl) ?_
                refine op_skip (g_und rfl rfl rfl) ?_
                refine op_skip (g_no rfl rfl rfl g41) ?_
                refine o_pkFc rfl g41 rfl ?_
                refine ops_nil ?_
                exact ⟨by (repeat (first | with_reducible exact offM_refl _ _ | refine offM_updc rfl ?_ | refine offM_upd rfl ?_ | refine offM_updo rfl ?_ | refine offM_updo_none ?_ | refine offM_head rfl rfl ?_)), false, rfl, (fun _ e => by rw [htell] at e; have e1 := congrArg Prod.fst (Option.some.inj e); rw [← hfl] at e1; have e1 : rt = decide (0 ≤ findI key l 0) := e1; have g : (rt == decide (0 ≤ findI key l 0)) = false := g41; rw [e1] at g; simp at g), Keep.refl _⟩
            · rintro J49 vs w49 ⟨bq, rfl, hbq, hk49⟩ -
              refine W_cond rfl (fun h50 => ?_) (fun h50 => ?_)
              · refine W_seq ?_
                refine W_region ?_
                refine o_asc rfl ?_
                refine ops_nil ?_
                refine W_ret ?_
                refine ret1 (.bool true) rfl ?_ ?_; rfl
                exact ⟨rfl, ((hk1.trans hk134).trans hk39).trans hk49⟩
              · refine W_skip ?_
                refine W_seq ?_
                refine W_region ?_
                have hnt := hbq h50
                have hk149 := (hk134.trans hk39).trans hk49
                have hI49 := (hI34.k hk39).k hk49
                refine o_mvt rfl ?_
                refine op_run (r_loadA (dgR key) rfl rfl rfl (by first | rfl | (rw [binV_len]; rfl) | (rw [dgR_len]; rfl) | (rw [refR_len]; rfl) | (rw [secR_len]; rfl) | (rw [List.length_map, tagF_len]; rfl) | (rw [callR_len]; rfl) | (rw [itR_len]; rfl) | (rw [dgR_len]; rfl)) ((hk149.blk' hB1 trivial).all)) rfl ?_
                refine op_call rfl rfl rfl (rf8_Prove w49 _ T l key hA hsa hI49 (by omega)) ?_; rintro v53 w53 ⟨ps, hP, hRp, hinp, hk53⟩
                obtain ⟨ap, cp, rfl, hpc, hcpm⟩ := hP.sl.form
                have hPl := RowsO.len hRp
                have hk153 := hk149.trans hk53
                have hn53 := hn.k (hk1.trans hk153)
                refine o_ast rfl ?_
                refine ops_nil ?_
                refine W_seq ?_
                refine W_seq ?_
                refine W_region ?_
                refine o_asc rfl ?_
                refine ops_nil ?_
                refine W_block ?_
                refine W_loop [15] [6, 15, 79, 80, 81, 82, 83, 84, 85, 86, 87, 88, 89, 90, 91, 92, 93, 94, 95, 96, 97, 98, 99, 100, 101, 102, 103, 104, 105, 106, 107, 108, 109, 110, 111, 112, 113] (fun vs w' => ∃ k : Nat, vs = [.int .i64 k] ∧ k ≤ ps.length ∧ k ≤ ns.length ∧ (∀ j : Nat, j < k → (proveT T key)[j]? = ns[j]?) ∧ Keep All w53 w') (fun vs _ => match vs with | [.int _ y] => ps.length - y.toNat | _ => 0) ⟨0, rfl, Nat.zero_le _, Nat.zero_le _, (fun j h => by omega), Keep.refl _⟩ ?_
                rintro J54 vs w54 ⟨k, rfl, hkp, hkq, hpre, hk54⟩ -
                refine W_seq ?_
                refine W_cut [88] [79, 80, 81, 82, 83, 84, 85, 86, 87, 88] (fun vs w55 => vs = [.bool (decide (k < ps.length ∧ k < ns.length))] ∧ w55 = w54) ?_ ?_
                · refine W_region ?_
                  refine o_mvt rfl ?_
                  refine o_mvt rfl ?_
                  refine op_run (r_len rfl rfl rfl) rfl ?_
                  refine op_run (r_lss rfl rfl) rfl ?_
                  refine o_mvt rfl ?_
                  refine g_split rfl rfl rfl (fun g56 => ?_) (fun g56 => ?_)
                  · refine o_mvt (g_yes rfl rfl rfl g56) ?_
                    refine o_mvt (g_yes rfl rfl rfl g56) ?_
                    refine op_run (r_len rfl rfl rfl) (g_yes rfl rfl rfl g56) ?_
                    refine op_run (r_lss rfl rfl) (g_yes rfl rfl rfl g56) ?_
                    refine o_pkTt rfl g56 rfl ?_
                    refine ops_nil ?_
                    exact ⟨by (repeat (first | with_reducible exact offM_refl _ _ | refine offM_updc rfl ?_ | refine offM_upd rfl ?_ | refine offM_updo rfl ?_ | refine offM_updo_none ?_ | refine offM_head rfl rfl ?_)), congrArg (fun b => [Value.bool b]) (by simp at g56; simp [g56]), rfl⟩
                  · refine op_skip (g_no rfl rfl rfl g56) ?_
                    refine op_skip (g_no rfl rfl rfl g56) ?_
                    refine op_skip (g_no rfl rfl rfl g56) ?_
                    refine op_skip (g_no rfl rfl rfl g56) ?_
                    refine o_pkFc rfl g56 rfl ?_
                    refine ops_nil ?_
                    exact ⟨by (repeat (first | with_reducible exact offM_refl _ _ | refine offM_updc rfl ?_ | refine offM_upd rfl ?_ | refine offM_updo rfl ?_ | refine offM_updo_none ?_ | refine offM_head rfl rfl ?_)), congrArg (fun b => [Value.bool b]) (by simp at g56; symm; apply decide_eq_false; omega), rfl⟩
                · rintro J59 vs w59 ⟨rfl, rfl⟩ -
                  refine W_cond_p rfl (fun h60 => ?_) (fun h60 => ?_)
                  · refine W_skip ?_
                    refine W_seq ?_
                    refine W_block ?_
                    refine W_seq ?_
                    obtain ⟨hkp, hkq⟩ := h60
                    obtain ⟨x, hx⟩ : ∃ x, (proveT T key)[k]? = some x := ⟨_, List.getElem?_eq_getElem (by omega)⟩
                    obtain ⟨y, hy⟩ : ∃ y, ns[k]? = some y := ⟨_, List.getElem?_eq_getElem (by omega)⟩
                    have hxl := prove_3000 hwa hsa key x (List.mem_of_getElem? hx)
                    have hyl := hl3 y (List.mem_of_getElem? hy)
                    obtain ⟨vp, hvp, hOp, _⟩ := RowsO.get (RowsO.k hk54 (fun _ _ _ _ _ _ => trivial) hRp) hx
                    obtain ⟨vq, hvq⟩ : ∃ vq, vns[k]? = some vq := ⟨_, List.getElem?_eq_getElem (by omega)⟩
                    have hn54 := hn53.k hk54
                    have hbp := OwnB.by_ hOp
                    have hbq := hn54.2.2 k vq y hvq hy
                    obtain ⟨ax2, cx2, rfl, _, _⟩ := hbp.form
                    obtain ⟨ay, cy, rfl, _, _⟩ := hbq.form
                    obtain ⟨bo, oo, co, eo, _, _, hco⟩ := (hP.keep hk54 (fun _ _ => trivial)).sl.at (by omega)
                    cases eo
                    obtain ⟨bp, op, cp2, ep, hcq2⟩ := hn54.at hvq
                    cases ep
                    have hincK := inc64' k (by unfold maxLen at hcpm; omega)
                    have hclash : x ≠ y → tagD 4 [x] = tagD 4 [y] := fun hxy => by
                      have hTn : T ≠ .no := wayB_some hx
                      have hnn : ns ≠ [] := fun e => by rw [e] at hkq; exact Nat.not_lt_zero _ hkq
                      obtain ⟨i, p, q, h1, h2, h3, h4, h5⟩ := bound_first hwa hsa hTn hnn hC.symm hnt
                      rcases Nat.lt_trichotomy i k with hlt | he | hgt
                      · have := hpre i hlt; rw [h1, h2] at this; exact absurd (Option.some.inj this) h3
                      · subst he; rw [hx] at h1; rw [hy] at h2; rw [Option.some.inj h1, Option.some.inj h2]; exact h4
                      · have := h5 k hgt; rw [hx, hy] at this; exact absurd (Option.some.inj this) hxy
                    refine W_quiet (Keep All w59) (by kernel_rfl) (by kernel_rfl) (Keep.drawn _) ?_
                    refine q_mvt rfl ?_
                    refine q_mvt rfl ?_
                    refine q_run (fun _ _ => r_idxS1 rfl rfl rfl rfl (by omega) (by omega)) rfl ?_
                    refine q_run (fun _ hk => r_load (v := .slice ax2 x.length cx2) rfl rfl rfl (hk.cell (by rw [Int.toNat_natCast]; exact hco k _ hvp) trivial)) rfl ?_
                    refine q_mvt rfl ?_
                    refine q_mvt rfl ?_
                    refine q_run (fun _ _ => r_idxS1 rfl rfl rfl rfl (by omega) (by omega)) rfl ?_
                    refine q_run (fun _ hk => r_load (v := .slice ay y.length cy) rfl rfl rfl (hk.cell (by rw [Int.toNat_natCast]; exact hcq2) trivial)) rfl ?_
                    refine q_call rfl rfl rfl (fun _ hk => (ref01_Same _ _ _ x y (Sl.k hbp hk) (Sl.k hbq hk)).mono fun e w'' ⟨u, he, h1, h2⟩ => ⟨u, he, h1, hk.trans h2⟩) ?_
                    refine q_run (fun _ _ => (r_not rfl)) rfl ?_
                    refine q_nil ?_; intro w67 hk67
                    refine W_cond rfl (fun h68 => ?_) (fun h68 => ?_)
                    · refine W_seq ?_
                      have hkw67 : Keep All w w67 := ((hk1.trans hk153).trans hk54).trans hk67
                      have hbp67 := Sl.k hbp hk67
                      have hbq67 := Sl.k hbq hk67
                      have hclash := hclash (by simpa using h68)
                      refine W_held (fun w' => Keep All w67 w') (by kernel_rfl) (Keep.drawn w67) (fun hS => ?_)
                      refine any_mvt 0 rfl (by kernel_rfl) (by kernel_rfl) (by kernel_rfl) rfl hS ?_
                      refine any_mvt 1 rfl (by kernel_rfl) (by kernel_rfl) (by kernel_rfl) rfl hS ?_
                      refine any_run 2 (fun w' hS' => (r_idxS1 rfl rfl rfl rfl (by omega) (by omega))) rfl (by kernel_rfl) (by kernel_rfl) (by kernel_rfl) rfl hS ?_
                      refine any_run 3 (fun w' hS' => (r_load (v := .slice ax2 x.length cx2) rfl rfl rfl ((hk67.trans hS').cell (by rw [Int.toNat_natCast]; exact hco k _ hvp) trivial))) rfl (by kernel_rfl) (by kernel_rfl) (by kernel_rfl) rfl hS ?_
                      refine any_mvt 6 rfl (by kernel_rfl) (by kernel_rfl) (by kernel_rfl) rfl hS ?_
                      refine any_mvt 7 rfl (by kernel_rfl) (by kernel_rfl) (by kernel_rfl) rfl hS ?_
                      refine any_run 8 (fun w' hS' => (r_idxS1 rfl rfl rfl rfl (by omega) (by omega))) rfl (by kernel_rfl) (by kernel_rfl) (by kernel_rfl) rfl hS ?_
                      refine any_run 9 (fun w' hS' => (r_load (v := .slice ay y.length cy) rfl rfl rfl ((hk67.trans hS').cell (by rw [Int.toNat_natCast]; exact hcq2) trivial))) rfl (by kernel_rfl) (by kernel_rfl) (by kernel_rfl) rfl hS ?_
                      refine any_two 4 10 (by kernel_rfl) (one_of rfl ?_) (one_of rfl ?_)
                      · refine o_bs1 (v := (.slice ax2 x.length cx2)) rfl rfl rfl rfl rfl rfl ?_; intro w74 b74 e74 hB74 hk74 hs74
                        refine ops_nil ⟨hS.trans hk74, fun hS => ?_⟩
                        refine any_two 5 10 (by kernel_rfl) (one_of rfl ?_) (one_of rfl ?_)
                        · refine op_call rfl rfl rfl (rf_TagD w74 _ 4 [x] (rowsB_one hB74 (Sl.k hbp67 hS)) (tag_1 4 (by omega))) ?_; rintro v76 w76 ⟨rfl, hk76⟩
                          refine ops_nil ⟨hS.trans hk76, fun hS => ?_⟩
                          refine any_one 10 (by kernel_rfl) (one_of rfl ?_)
                          refine o_bs1 (v := (.slice ay y.length cy)) rfl rfl rfl rfl rfl rfl ?_; intro w78 b78 e78 hB78 hk78 hs78
                          refine ops_nil ⟨hS.trans hk78, fun hS => ?_⟩
                          refine any_one 11 (by kernel_rfl) (one_of rfl ?_)
                          refine op_call rfl rfl rfl (rf_TagD w78 _ 4 [y] (rowsB_one hB78 (Sl.k hbq67 hS)) (tag_1 4 (by omega))) ?_; rintro v80 w80 ⟨rfl, hk80⟩
                          refine ops_nil ⟨hS.trans hk80, fun hS => ?_⟩
                          refine any_run 12 (fun w' hS' => (r_eqlC (p := tagD 4 [x] = tagD 4 [y]) rfl rfl rfl rfl (by kernel_rfl) (okC_dgR _) (okC_dgR _) rfl (dgR_inj))) rfl (by kernel_rfl) (by kernel_rfl) (by kernel_rfl) rfl hS ?_
                          refine any_ast 13 rfl (by kernel_rfl) (by kernel_rfl) (by kernel_rfl) rfl hS ?_
                          refine any_done (by kernel_rfl) ?_
                          refine W_ret ?_
                          refine ret1 (.bool (decide (tagD 4 [x] = tagD 4 [y]))) rfl ?_ ?_; rfl
                          exact ⟨by rw [decide_eq_true hclash], hkw67.trans hS⟩
                        · refine o_bs1 (v := (.slice ay y.length cy)) rfl rfl rfl rfl rfl rfl ?_; intro w84 b84 e84 hB84 hk84 hs84
                          refine ops_nil ⟨hS.trans hk84, fun hS => ?_⟩
                          refine any_one 5 (by kernel_rfl) (one_of rfl ?_)
                          refine op_call rfl rfl rfl (rf_TagD w84 _ 4 [x] (rowsB_one (hk84.blk' hB74 trivial) (Sl.k hbp67 hS)) (tag_1 4 (by omega))) ?_; rintro v86 w86 ⟨rfl, hk86⟩
                          refine ops_nil ⟨hS.trans hk86, fun hS => ?_⟩
                          refine any_one 11 (by kernel_rfl) (one_of rfl ?_)
                          refine op_call rfl rfl rfl (rf_TagD w86 _ 4 [y] (rowsB_one (hk86.blk' hB84 trivial) (Sl.k hbq67 hS)) (tag_1 4 (by omega))) ?_; rintro v88 w88 ⟨rfl, hk88⟩
                          refine ops_nil ⟨hS.trans hk88, fun hS => ?_⟩
                          refine any_run 12 (fun w' hS' => (r_eqlC (p := tagD 4 [x] = tagD 4 [y]) rfl rfl rfl rfl (by kernel_rfl) (okC_dgR _) (okC_dgR _) rfl (dgR_inj))) rfl (by kernel_rfl) (by kernel_rfl) (by kernel_rfl) rfl hS ?_
                          refine any_ast 13 rfl (by kernel_rfl) (by kernel_rfl) (by kernel_rfl) rfl hS ?_
                          refine any_done (by kernel_rfl) ?_
                          refine W_ret ?_
                          refine ret1 (.bool (decide (tagD 4 [x] = tagD 4 [y]))) rfl ?_ ?_; rfl
                          exact ⟨by rw [decide_eq_true hclash], hkw67.trans hS⟩
                      · refine o_bs1 (v := (.slice ay y.length cy)) rfl rfl rfl rfl rfl rfl ?_; intro w92 b92 e92 hB92 hk92 hs92
                        refine ops_nil ⟨hS.trans hk92, fun hS => ?_⟩
                        refine any_one 4 (by kernel_rfl) (one_of rfl ?_)
                        refine o_bs1 (v := (.slice ax2 x.length cx2)) rfl rfl rfl rfl rfl rfl ?_; intro w94 b94 e94 hB94 hk94 hs94
                        refine ops_nil ⟨hS.trans hk94, fun hS => ?_⟩
                        refine any_one 5 (by kernel_rfl) (one_of rfl ?_)
                        refine op_call rfl rfl rfl (rf_TagD w94 _ 4 [x] (rowsB_one hB94 (Sl.k hbp67 hS)) (tag_1 4 (by omega))) ?_; rintro v96 w96 ⟨rfl, hk96⟩
                        refine ops_nil ⟨hS.trans hk96, fun hS => ?_⟩
                        refine any_one 11 (by kernel_rfl) (one_of rfl ?_)
                        refine op_call rfl rfl rfl (rf_TagD w96 _ 4 [y] (rowsB_one ((hk94.trans hk96).blk' hB92 trivial) (Sl.k hbq67 hS)) (tag_1 4 (by omega))) ?_; rintro v98 w98 ⟨rfl, hk98⟩
                        refine ops_nil ⟨hS.trans hk98, fun hS => ?_⟩
                        refine any_run 12 (fun w' hS' => (r_eqlC (p := tagD 4 [x] = tagD 4 [y]) rfl rfl rfl rfl (by kernel_rfl) (okC_dgR _) (okC_dgR _) rfl (dgR_inj))) rfl (by kernel_rfl) (by kernel_rfl) (by kernel_rfl) rfl hS ?_
                        refine any_ast 13 rfl (by kernel_rfl) (by kernel_rfl) (by kernel_rfl) rfl hS ?_
                        refine any_done (by kernel_rfl) ?_
                        refine W_ret ?_
                        refine ret1 (.bool (decide (tagD 4 [x] = tagD 4 [y]))) rfl ?_ ?_; rfl
                        exact ⟨by rw [decide_eq_true hclash], hkw67.trans hS⟩
                    · refine W_skip ?_
                      refine W_region ?_
                      refine o_mvt rfl ?_
                      refine op_run (r_add rfl rfl) rfl ?_
                      refine o_ast rfl ?_
                      refine ops_nil ?_
                      have hxy : x = y := by simpa using h68
                      refine ⟨by (repeat (first | with_reducible exact offM_refl _ _ | refine offM_updc rfl ?_ | refine offM_upd rfl ?_ | refine offM_updo rfl ?_ | refine offM_updo_none ?_ | refine offM_head rfl rfl ?_)), ⟨k + 1, congrArg (fun z : Int => [Value.int .i64 z]) hincK, by omega, by omega, fun j hj => ?_, hk54.trans hk67⟩, ?_⟩
                      · by_cases e : j = k
                        · rw [e, hx, hy, hxy]
                        · exact hpre j (by omega)
                      · show ps.length - (IntKind.i64.wrap ((k : Int) + 1)).toNat < ps.length - (k : Int).toNat
                        rw [hincK]; omega
                  · refine W_exit ?_
                    refine W_seq ?_
                    refine W_region ?_
                    have hkw54 : Keep All w w59 := (hk1.trans hk153).trans hk54
                    have hn54 := hn53.k hk54
                    refine o_mvt rfl ?_
                    refine op_run (r_len rfl rfl rfl) rfl ?_
                    refine op_run (r_eql rfl rfl) rfl ?_
                    refine o_mvt rfl ?_
                    refine g_split rfl rfl rfl (fun g103 => ?_) (fun g103 => ?_)
                    · refine o_mvt (g_yes rfl rfl rfl g103) ?_
                      refine op_run (r_len rfl rfl rfl) (g_yes rfl rfl rfl g103) ?_
                      refine op_run (r_gtr rfl rfl) (g_yes rfl rfl rfl g103) ?_
                      refine o_pkTt rfl g103 rfl ?_
                      refine o_mvt rfl ?_
                      have hl0 : l = [] := List.eq_nil_of_length_eq_zero (by have := of_decide_eq_true g103; omega)
                      have hTno : T = .no := Classical.byContradiction fun e => hA.some_ e hl0
                      obtain ⟨n0, nr, hnse⟩ : ∃ n0 nr, ns = n0 :: nr := by
                        cases hnn : ns with
                        | nil => rw [hnn] at hC; exact absurd hTno (bound_nil hC.symm hnt).1
                        | cons a b => exact ⟨a, b, rfl⟩
                      have hns : 0 < ns.length := by rw [hnse]; exact Nat.succ_pos _
                      have hn0 : ns[0]? = some n0 := by rw [hnse]; rfl
                      have hns0 : tagD 4 [n0] = tagD 5 [] := by rw [hnse, hTno] at hC; exact bound_no hC.symm
                      obtain ⟨vq, hvq⟩ : ∃ vq, vns[0]? = some vq := ⟨_, List.getElem?_eq_getElem (by omega)⟩
                      have hbq := hn54.2.2 0 vq n0 hvq hn0
                      obtain ⟨ay, cy, rfl, _, _⟩ := hbq.form
                      obtain ⟨bp, op, cp2, ep, hcq2⟩ := hn54.at hvq
                      cases ep
                      have hyl := hl3 n0 (List.mem_of_getElem? hn0)
                      refine g_split rfl rfl rfl (fun g104 => ?_) (fun g => absurd g (fun h => by have h := of_decide_eq_false h; omega))
                      refine o_mvt (g_yes rfl rfl rfl g104) ?_
                      refine op_run (r_idxS1 rfl rfl rfl rfl (by decide) (by omega)) (g_yes rfl rfl rfl g104) ?_
                      refine op_run (r_load (v := .slice ay n0.length cy) rfl rfl rfl hcq2) (g_yes rfl rfl rfl g104) ?_
                      refine o_bs1 (v := (.slice ay n0.length cy)) rfl rfl rfl rfl rfl (g_yes rfl rfl rfl g104) ?_; intro w107 b107 e107 hB107 hk107 hs107
                      refine op_call rfl rfl (g_yes rfl rfl rfl g104) (rf_TagD w107 _ 4 [n0] (rowsB_one hB107 (Sl.k hbq hk107)) (tag_1 4 (by omega))) ?_; rintro v108 w108 ⟨rfl, hk108⟩
                      refine op_call rfl rfl (g_yes rfl rfl rfl g104) (rf_TagD w108 _ 5 [] (rowsB_none _) (tag_0 5)) ?_; rintro v109 w109 ⟨rfl, hk109⟩
                      refine op_run (r_eqlC (p := tagD 4 [n0] = tagD 5 []) rfl rfl rfl rfl (by kernel_rfl) (okC_dgR _) (okC_dgR _) rfl (dgR_inj)) (g_yes rfl rfl rfl g104) ?_
                      refine o_pkTt rfl g104 rfl ?_
                      refine o_mvt rfl ?_
                      refine g_split rfl rfl rfl (fun g => absurd g (fun h => of_decide_eq_false h hns0)) (fun g111 => ?_)
                      refine op_skip (g_no rfl rfl rfl g111) ?_
                      refine op_skip (g_no rfl rfl rfl g111) ?_
                      refine op_skip (g_no rfl rfl rfl g111) ?_
                      refine op_skip (g_no rfl rfl rfl g111) ?_
                      refine op_skip (g_und rfl rfl rfl) ?_
                      refine op_skip (g_und rfl rfl rfl) ?_
                      refine op_skip (g_und rfl rfl rfl) ?_
                      refine op_skip (g_no rfl rfl rfl g111) ?_
                      refine op_skip (g_no rfl rfl rfl g111) ?_
                      refine op_skip (g_und rfl rfl rfl) ?_
                      refine op_skip (g_und rfl rfl rfl) ?_
                      refine op_skip (g_und rfl rfl rfl) ?_
                      refine op_skip (g_und rfl rfl rfl) ?_
                      refine op_skip (g_und rfl rfl rfl) ?_
                      refine op_skip (g_und rfl rfl rfl) ?_
                      refine op_skip (g_und rfl rfl rfl) ?_
                      refine op_skip (g_no rfl rfl rfl g111) ?_
                      refine o_pkTc rfl g111 rfl ?_
                      refine o_ast rfl ?_
                      refine ops_nil ?_
                      refine W_ret ?_
                      refine ret1 (.bool true) rfl ?_ ?_; rfl
                      exact ⟨rfl, ((hkw54.trans hk107).trans hk108).trans hk109⟩
                    · refine op_skip (g_no rfl rfl rfl g103) ?_
                      refine op_skip (g_no rfl rfl rfl g103) ?_
                      refine op_skip (g_no rfl rfl rfl g103) ?_
                      refine o_pkFc rfl g103 rfl ?_
                      refine o_mvt rfl ?_
                      refine op_skip (g_no rfl rfl rfl rfl) ?_
                      refine op_skip (g_no rfl rfl rfl rfl) ?_
                      refine op_skip (g_no rfl rfl rfl rfl) ?_
                      refine op_skip (g_no rfl rfl rfl rfl) ?_
                      refine op_skip (g_no rfl rfl rfl rfl) ?_
                      refine op_skip (g_no rfl rfl rfl rfl) ?_
                      refine op_skip (g_no rfl rfl rfl rfl) ?_
                      refine o_pkFc rfl rfl rfl ?_
                      refine o_mvt rfl ?_
                      refine o_mvt (g_yes rfl rfl rfl rfl) ?_
                      refine op_run (r_len rfl rfl rfl) (g_yes rfl rfl rfl rfl) ?_
                      refine op_run (r_eql rfl rfl) (g_yes rfl rfl rfl rfl) ?_
                      refine o_mvt (g_yes rfl rfl rfl rfl) ?_
                      have hl0 : ¬ l.length = 0 := by have := of_decide_eq_false g103; omega
                      have hTn : T ≠ .no := fun e => by rw [e] at hA; rw [hA.no] at hl0; exact hl0 rfl
                      have hns : ns = [] := Classical.byContradiction fun hnn => by
                        obtain ⟨i, p, q, h1, h2, h3, h4, h5⟩ := bound_first hwa hsa hTn hnn hC.symm hnt
                        have i1 := (List.getElem?_eq_some_iff.1 h1).1
                        have i2 := (List.getElem?_eq_some_iff.1 h2).1
                        have hik : i < k := by omega
                        have := hpre i hik
                        rw [h1, h2] at this; exact absurd (Option.some.inj this) h3
                      have hns0 : ns.length = 0 := by rw [hns]; rfl
                      have htag : tagD 4 [nodeB T] = tagD 5 [] := by rw [hns] at hC; exact (bound_nil hC.symm hnt).2
                      have hx : (proveT T key)[0]? = some (nodeB T) := by
                        obtain ⟨t, ht⟩ := wayT_head (nibs key.val) hTn
                        unfold proveT; rw [ht]; rfl
                      have hx0 := (List.getElem?_eq_some_iff.1 hx).1
                      obtain ⟨vp, hvp, hOp, _⟩ := RowsO.get (RowsO.k hk54 (fun _ _ _ _ _ _ => trivial) hRp) hx
                      have hbp := OwnB.by_ hOp
                      obtain ⟨ax2, cx2, rfl, _, _⟩ := hbp.form
                      obtain ⟨bo, oo, co, eo, _, _, hco⟩ := (hP.keep hk54 (fun _ _ => trivial)).sl.at (by omega)
                      cases eo
                      refine g_split rfl rfl rfl (fun g113 => ?_) (fun g113 => ?_)
                      · refine o_mvt (g_yes rfl rfl rfl g113) ?_
                        refine op_run (r_len rfl rfl rfl) (g_yes rfl rfl rfl g113) ?_
                        refine op_run (r_gtr rfl rfl) (g_yes rfl rfl rfl g113) ?_
                        refine o_pkTt rfl g113 (g_yes rfl rfl rfl rfl) ?_
                        refine o_mvt (g_yes rfl rfl rfl rfl) ?_
                        refine g_split rfl rfl rfl (fun g114 => ?_) (fun g114 => ?_)
                        · refine o_mvt (g_yes rfl rfl rfl g114) ?_
                          refine op_run (r_idxS1 rfl rfl rfl rfl (by decide) (by omega)) (g_yes rfl rfl rfl g114) ?_
                          refine op_run (r_load (v := .slice ax2 (nodeB T).length cx2) rfl rfl rfl (hco 0 _ hvp)) (g_yes rfl rfl rfl g114) ?_
                          refine o_bs1 (v := (.slice ax2 (nodeB T).length cx2)) rfl rfl rfl rfl rfl (g_yes rfl rfl rfl g114) ?_; intro w117 b117 e117 hB117 hk117 hs117
                          refine op_call rfl rfl (g_yes rfl rfl rfl g114) (rf_TagD w117 _ 4 [nodeB T] (rowsB_one hB117 (Sl.k hbp hk117)) (tag_1 4 (by have := nodeB_len hsa; omega))) ?_; rintro v118 w118 ⟨rfl, hk118⟩
                          refine op_call rfl rfl (g_yes rfl rfl rfl g114) (rf_TagD w118 _ 5 [] (rowsB_none _) (tag_0 5)) ?_; rintro v119 w119 ⟨rfl, hk119⟩
                          refine op_run (r_eqlC (p := tagD 4 [nodeB T] = tagD 5 []) rfl rfl rfl rfl (by kernel_rfl) (okC_dgR _) (okC_dgR _) rfl (dgR_inj)) (g_yes rfl rfl rfl g114) ?_
                          refine o_pkTt rfl g114 (g_yes rfl rfl rfl rfl) ?_
                          refine o_pkFt rfl rfl rfl ?_
                          refine o_ast rfl ?_
                          refine ops_nil ?_
                          refine W_ret ?_
                          refine ret1 (.bool (decide (tagD 4 [nodeB T] = tagD 5 []))) rfl ?_ ?_; rfl
                          exact ⟨by rw [decide_eq_true htag], ((hkw54.trans hk117).trans hk118).trans hk119⟩
                        · refine op_skip (g_no rfl rfl rfl g114) ?_
                          refine op_skip (g_no rfl rfl rfl g114) ?_
                          refine op_skip (g_no rfl rfl rfl g114) ?_
                          refine op_skip (g_no rfl rfl rfl g114) ?_
                          refine op_skip (g_no rfl rfl rfl g114) ?_
                          refine op_skip (g_no rfl rfl rfl g114) ?_
                          refine op_skip (g_no rfl rfl rfl g114) ?_
                          refine o_pkFc rfl g114 (g_yes rfl rfl rfl rfl) ?_
                          refine o_pkFt rfl rfl rfl ?_
                          refine o_ast rfl ?_
                          refine ops_nil ?_
                          refine W_ret ?_
                          refine ret1 (.bool false) rfl ?_ ?_; rfl
                          have := of_decide_eq_false g114
                          omega
                      · refine op_skip (g_no rfl rfl rfl g113) ?_
                        refine op_skip (g_no rfl rfl rfl g113) ?_
                        refine op_skip (g_no rfl rfl rfl g113) ?_
                        refine o_pkFc rfl g113 (g_yes rfl rfl rfl rfl) ?_
                        refine o_mvt (g_yes rfl rfl rfl rfl) ?_
                        refine op_skip (g_no rfl rfl rfl rfl) ?_
                        refine op_skip (g_no rfl rfl rfl rfl) ?_
                        refine op_skip (g_no rfl rfl rfl rfl) ?_
                        refine op_skip (g_no rfl rfl rfl rfl) ?_
                        refine op_skip (g_no rfl rfl rfl rfl) ?_
                        refine op_skip (g_no rfl rfl rfl rfl) ?_
                        refine op_skip (g_no rfl rfl rfl rfl) ?_
                        refine o_pkFc rfl rfl (g_yes rfl rfl rfl rfl) ?_
                        refine o_pkFt rfl rfl rfl ?_
                        refine o_ast rfl ?_
                        refine ops_nil ?_
                        refine W_ret ?_
                        refine ret1 (.bool false) rfl ?_ ?_; rfl
                        have := of_decide_eq_false g113
                        omega
end Go.Proofs.YtpiidddccmohdaaDoor.B
