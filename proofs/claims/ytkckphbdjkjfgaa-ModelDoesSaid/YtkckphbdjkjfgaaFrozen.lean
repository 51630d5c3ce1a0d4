/-
  ModelFrozen.
-/
import Derived.Test.YtkckphbdjkjfgaaQuiet
namespace Go.Proofs.Ytkckphbdjkjfgaa.B
open Go
set_option linter.unusedVariables false
set_option maxHeartbeats 2000000
set_option maxRecDepth 100000
attribute [local irreducible] W OpsW OpsQ retP
def keptN : List UInt8 := [107, 101, 112, 116, 45, 97, 115, 45, 105, 116, 45, 105, 115]
theorem look_app_some {α β : Type} [DecidableEq α] {l : List (α × β)} {k : α} {v : β} (m : List (α × β)) (h : lookP l k = some v) : lookP (l ++ m) k = some v := by
  induction l with
  | nil => cases h
  | cons x l ih =>
    unfold lookP at h
    show (if x.1 = k then some x.2 else lookP (l ++ m) k) = _
    split
    · rename_i e; rw [if_pos e] at h; exact h
    · rename_i e; rw [if_neg e] at h; exact ih h
theorem look_app_none {α β : Type} [DecidableEq α] {l : List (α × β)} {k : α} (m : List (α × β)) (h : lookP l k = none) : lookP (l ++ m) k = lookP m k := by
  induction l with
  | nil => rfl
  | cons x l ih =>
    unfold lookP at h
    show (if x.1 = k then some x.2 else lookP (l ++ m) k) = _
    split
    · rename_i e; rw [if_pos e] at h; cases h
    · rename_i e; rw [if_neg e] at h; exact ih h
theorem look_put_ne {l : AL} {nm k : List UInt8} (bl : List (Int × Bk)) (h : k ≠ nm) : lookP (putA l nm bl) k = lookP l k := by
  induction l with
  | nil => rfl
  | cons x l ih =>
    show lookP ((if x.1 = nm then (x.1, { x.2 with bl := bl }) else x) :: putA l nm bl) k = (if x.1 = k then some x.2 else lookP l k)
    by_cases hx : x.1 = nm
    · rw [if_pos hx]
      show (if x.1 = k then _ else lookP (putA l nm bl) k) = _
      rw [if_neg (fun e => h (by rw [← e, hx])), if_neg (fun e => h (by rw [← e, hx])), ih]
    · rw [if_neg hx]
      show (if x.1 = k then some x.2 else lookP (putA l nm bl) k) = _
      rw [ih]
def snapO (nm : List UInt8) : OpV := ⟨6, nm, keptN, 0, 0, Bk.zero⟩
theorem snap {l : AL} {nm : List UInt8} (h : (doD l (snapO nm)).1.e = 0) : ∃ v, lookP (doD l (snapO nm)).2 keptN = some v ∧ v.fr = true := by
  have e : doD l (snapO nm) = (Ans.no (copD l (snapO nm)).1, (copD l (snapO nm)).2) := by
    unfold doD
    rw [if_neg (by show ¬ (6 : Int) = 1; decide), if_neg (by show ¬ (6 : Int) = 2; decide), if_neg (by show ¬ ((6 : Int) = 3 ∨ (6 : Int) = 4 ∨ (6 : Int) = 5); decide), if_pos (.inl rfl)]
  rw [e] at h ⊢
  have h : (copD l (snapO nm)).1 = 0 := h
  show ∃ v, lookP (copD l (snapO nm)).2 keptN = some v ∧ v.fr = true
  cases hv : lookP l (snapO nm).name with
  | none =>
    rw [copD_none hv] at h
    have h : addE l keptN 0 5 0 = 0 := h
    exact absurd h (addE_five _ _ _ _ 0).2
  | some v =>
    rw [copD_some hv] at h ⊢
    have h : addE l keptN v.q 0 v.bl.length = 0 := h
    obtain ⟨_, _, _, _, hno, _⟩ := addE_ok h
    refine ⟨⟨v.q, true, v.bl⟩, ?_, rfl⟩
    show lookP (if addE l keptN v.q 0 v.bl.length = 0 then l ++ [(keptN, ⟨v.q, true, v.bl⟩)] else l) keptN = _
    rw [if_pos h, look_app_none _ hno]; rfl
theorem kept {l : AL} {o : OpV} {v : VA} (h : lookP l keptN = some v) (hf : v.fr = true) (hd : ¬ (o.kind = 2 ∧ o.name = keptN)) : lookP (doD l o).2 keptN = some v := by
  unfold doD
  by_cases h1 : o.kind = 1
  · rw [if_pos h1]
    show lookP (if _ then _ else _) keptN = _
    split
    · exact look_app_some _ h
    · exact h
  rw [if_neg h1]
  by_cases h2 : o.kind = 2
  · rw [if_pos h2]
    split
    · show lookP (delP l o.name) keptN = _
      rw [lookP_del, if_neg (fun e => hd ⟨h2, e.symm⟩)]; exact h
    · exact h
  rw [if_neg h2]
  by_cases h3 : o.kind = 3 ∨ o.kind = 4 ∨ o.kind = 5
  · rw [if_pos h3]
    by_cases hn : keptN = o.name
    · by_cases hk : findD l o = 0
      · obtain ⟨v', hv', _, _, hfr⟩ := findD_ok hk
        rw [← hn, h] at hv'
        cases hv'
        rw [blockD_quiet (.inr (hfr hf))]; exact h
      · rw [blockD_err hk]; exact h
    · rcases blockD_cases l o with e | ⟨bl, e⟩
      · rw [e]; exact h
      · rw [e, look_put_ne _ hn]; exact h
  rw [if_neg h3]
  by_cases h4 : o.kind = 6 ∨ o.kind = 7
  · rw [if_pos h4]
    show lookP (copD l o).2 keptN = some v
    cases hv : lookP l o.name with
    | none => rw [copD_none hv]; exact h
    | some v' =>
      rw [copD_some hv]
      show lookP (ite (addE l o.other (if o.kind = 6 then v'.q else o.quota) 0 v'.bl.length = 0) _ _) keptN = _
      by_cases he : addE l o.other (if o.kind = 6 then v'.q else o.quota) 0 v'.bl.length = 0
      · rw [if_pos he]; exact look_app_some _ h
      · rw [if_neg he]; exact h
  rw [if_neg h4]
  split <;> exact h
theorem imgOf_nm (l : AL) (nm : List UInt8) : (imgOf l nm).nm = nm := by unfold imgOf; split <;> rfl
theorem imgD_mem {l : AL} {nm : List UInt8} {v : VA} (h : lookP l nm = some v) : (⟨nm, v.q, v.fr, blkS v.bl⟩ : Img) ∈ imgD l := by
  rw [← imgOf_some h]
  refine List.mem_map.2 ⟨nm, ?_, rfl⟩
  exact ((List.mergeSort_perm _ _).mem_iff).2 (List.mem_map.2 ⟨_, lookP_mem h, rfl⟩)
/-- Find tells the image of a volume that is there. -/
theorem find_some {l : AL} {nm : List UInt8} {v : VA} {z : Int} (h : lookP l nm = some v) (hz : FindP (imgD l) nm z) : ∃ k : Nat, z = k ∧ (imgD l)[k]? = some ⟨nm, v.q, v.fr, blkS v.bl⟩ := by
  rcases hz with ⟨_, hno⟩ | ⟨k, x, rfl, hx, hnm, _⟩
  · exact absurd rfl (hno _ (imgD_mem h))
  · refine ⟨k, rfl, ?_⟩
    rw [hx]
    obtain ⟨n, _, e⟩ := List.mem_map.1 (List.mem_of_getElem? hx)
    have : n = nm := by rw [← imgOf_nm l n, e, hnm]
    rw [← e, this, imgOf_some h]
theorem ImgsS.sub {w : World} {a : Option Addr} {L : List Img} {ys : List (Img × Value)} {c k : Nat} {i : Img} (h : ImgsS w (.slice a L.length c) L ys) (hk : L[k]? = some i) : ∃ x, ImgsS w (subSl a 4 k (k + 1) c) [i] [(i, x)] := by
  have hlt := (List.getElem?_eq_some_iff.1 hk).1
  obtain ⟨i', x, b, off, c', hy, hi, e, hc, hb⟩ := h.at hlt
  rw [hk] at hi; cases hi
  injection e with e1 _ e3
  subst e1; subst e3
  obtain ⟨_, c'', e4, h5, h6⟩ := h.o.form
  injection e4 with _ _ e4; subst e4
  refine ⟨x, rfl, ?_, fun y hy => by rw [List.mem_singleton.1 hy]; exact hb⟩
  have e7 : subSl (some ⟨b, off, none⟩) 4 k (k + 1) c = .slice (some ⟨b, off + k * 4, none⟩) 1 (c - k) := by
    unfold subSl
    rw [if_neg (by omega), show k + 1 - k = 1 by omega]
    show Value.slice (some ((⟨b, off, none⟩ : Addr).add (k * 4))) 1 (c - k) = _
    rw [Addr.add_lit]
  rw [e7]
  refine ⟨_, _, rfl, by show 1 ≤ _; omega, by omega, rfl, (fun e => by cases e), fun ad had j u hj => ?_⟩
  cases had
  refine ⟨rfl, hc j u ?_⟩
  rw [rows_cons, rows_nil, List.append_nil] at hj
  exact hj
theorem ImgsS.one {w : World} {b : Nat} {i : Img} {x : Value} {t : TypeId} (hB : Blk w b (imR (i, x)) t) (hx : Sl w x i.bl.length 49 (rows nbR i.bl)) : ImgsS w (.slice (some ⟨b, 0, none⟩) 1 1) [i] [(i, x)] := by
  refine ⟨rfl, ⟨_, _, rfl, Nat.le_refl _, by unfold maxLen; omega, rfl, (fun e => by cases e), fun ad had j u hj => ?_⟩, fun y hy => by rw [List.mem_singleton.1 hy]; exact hx⟩
  cases had
  rw [rows_cons, rows_nil, List.append_nil] at hj
  exact ⟨rfl, hB.cell (by rw [Nat.zero_add]; exact hj)⟩
theorem run_ten {os2 : List OpV} {l : AL} {v : VA} (h : lookP l keptN = some v) (hf : v.fr = true) : lookP (runD l (os2.filter fun o => !decide (o.kind = 2 ∧ o.name = keptN))) keptN = some v := by
  induction os2 generalizing l with
  | nil => exact h
  | cons o os2 ih =>
    rw [List.filter_cons]
    split
    · rename_i hd
      exact ih (kept h hf fun hc => by rw [decide_eq_true hc] at hd; cases hd)
    · exact ih h
def fltK (os : List OpV) : List OpV := os.filter fun o => !decide (o.kind = 2 ∧ o.name = keptN)
theorem fltK_len (os : List OpV) : (fltK os).length ≤ os.length := List.length_filter_le _ _
theorem imR_one1 {i : Img} {x : Value} (h : one x = true) : (imR (i, x)).all one = true := by show (true && true && true && (one x && true)) = true; rw [h]; rfl
theorem walk_ModelFrozen (w : World) (v v' : Value) (os os' : List OpV) (nm : List UInt8) (hv : OpsIn w v os) (hv' : OpsIn w v' os') : Ret Try.prog 4 [v, v', strA nm].toArray w fun r w' => r = .bool true ∧ Keep All w w' := by
  obtain ⟨a0, c0, rfl, hc0, hcm0⟩ := SlR.form hv
  obtain ⟨a1, c1, rfl, hc1, hcm1⟩ := SlR.form hv'
  have hnn := baSize nm
  refine enter (fn := Try.f4) (n := 90) Try.func4 rfl rfl (by simp) ?_
  refine W_seq ?_
  refine W_region ?_
  refine o_asc rfl ?_
  refine ops_nil ?_
  refine W_seq ?_
  refine W_seq ?_
  refine W_region ?_
  refine op_call rfl rfl rfl (lw_speaks w) ?_; rintro v1 w1 ⟨rfl, hk1⟩
  refine op_run (r_not rfl) rfl ?_
  refine ops_nil ?_
  refine W_no rfl (rfl) ?_
  refine W_skip ?_
  refine W_seq ?_
  refine W_cut [27] [17, 18, 19, 20, 21, 22, 23, 24, 25, 26, 27] (fun vs w4 => ∃ g : Bool, vs = [.bool g] ∧ Keep All w1 w4 ∧ (g = false → os.length ≤ 80 ∧ os'.length ≤ 80 ∧ (∀ o ∈ os, o.small) ∧ (∀ o ∈ os', o.small) ∧ nm.length ≤ 100)) ?_ ?_
  · refine W_region ?_
    refine o_mvt rfl ?_
    refine op_call rfl rfl rfl (lw_Great w1 _ os (hv.k hk1)) ?_; rintro v5 w5 ⟨⟨g1, rfl, hg1⟩, hk5⟩
    refine o_mvt rfl ?_
    refine g_split rfl rfl rfl (fun g6 => ?_) (fun g6 => ?_)
    · refine o_mvt (g_yes rfl rfl rfl g6) ?_
      refine op_call rfl rfl (g_yes rfl rfl rfl g6) (lw_Great w5 _ os' (hv'.k (hk1.trans hk5))) ?_; rintro v7 w7 ⟨⟨g2, rfl, hg2⟩, hk7⟩
      refine o_pkFt rfl g6 rfl ?_
      refine o_mvt rfl ?_
      refine g_split rfl rfl rfl (fun g8 => ?_) (fun g8 => ?_)
      · refine o_mvt (g_yes rfl rfl rfl g8) ?_
        refine op_run (r_len_str rfl rfl rfl) (g_yes rfl rfl rfl g8) ?_
        refine op_run (r_gtr rfl rfl) (g_yes rfl rfl rfl g8) ?_
        refine o_pkFt rfl g8 rfl ?_
        refine ops_nil ?_
        exact ⟨by (repeat (first | with_reducible exact offM_refl _ _ | refine offM_updc rfl ?_ | refine offM_upd rfl ?_ | refine offM_updo rfl ?_ | refine offM_updo_none ?_ | refine offM_head rfl rfl ?_)), _, rfl, hk5.trans hk7, fun e => ⟨(hg1 g6).1, (hg2 g8).1, (hg1 g6).2, (hg2 g8).2, by have := of_decide_eq_false e; omega⟩⟩
      · refine op_skip (g_no rfl rfl rfl g8) ?_
        refine op_skip (g_no rfl rfl rfl g8) ?_
        refine op_skip (g_no rfl rfl rfl g8) ?_
        refine o_pkTc rfl g8 rfl ?_
        refine ops_nil ?_
        exact ⟨by (repeat (first | with_reducible exact offM_refl _ _ | refine offM_updc rfl ?_ | refine offM_upd rfl ?_ | refine offM_updo rfl ?_ | refine offM_updo_none ?_ | refine offM_head rfl rfl ?_)), true, rfl, hk5.trans hk7, fun e => by cases e⟩
    · refine op_skip (g_no rfl rfl rfl g6) ?_
      refine op_skip (g_no rfl rfl rfl g6) ?_
      refine o_pkTc rfl g6 rfl ?_
      refine o_mvt rfl ?_
      refine op_skip (g_no rfl rfl rfl rfl) ?_
      refine op_skip (g_no rfl rfl rfl rfl) ?_
      refine op_skip (g_no rfl rfl rfl rfl) ?_
      refine o_pkTc rfl rfl rfl ?_
      refine ops_nil ?_
      exact ⟨by (repeat (first | with_reducible exact offM_refl _ _ | refine offM_updc rfl ?_ | refine offM_upd rfl ?_ | refine offM_updo rfl ?_ | refine offM_updo_none ?_ | refine offM_head rfl rfl ?_)), true, rfl, hk5, fun e => by cases e⟩
  · rintro J12 vs w12 ⟨g, rfl, hk12, hg⟩ -
    refine W_cond rfl (fun h13 => ?_) (fun h13 => ?_)
    · refine W_seq ?_
      refine W_region ?_
      refine o_asc rfl ?_
      refine ops_nil ?_
      refine W_ret ?_
      refine ret1 (.bool true) rfl ?_ ?_; rfl
      exact ⟨rfl, hk1.trans hk12⟩
    · refine W_skip ?_
      refine W_seq ?_
      refine W_region ?_
      obtain ⟨hlen, hlen', hall, hall', hnl⟩ := hg h13
      have hkA := hk1.trans hk12
      refine op_call rfl rfl rfl (md_New w12) ?_; rintro v15 w15 ⟨mb, bm, rfl, hmb, hbm, _, hBm, hMm, hk15⟩
      have hz12 := hkA.size
      have M15 : MS w w15 mb bm [] := ⟨ModW.new hBm hMm, hkA.trans hk15, fun z hz => by
        rcases hz with rfl | ⟨x, hx, _⟩
        · omega
        · cases hx⟩
      refine o_ast rfl ?_
      refine ops_nil ?_
      refine W_seq ?_
      refine W_seq ?_
      refine W_region ?_
      refine o_mvt rfl ?_
      refine op_run (r_len rfl rfl rfl) rfl ?_
      refine o_mvc rfl ?_
      refine ops_nil ?_
      refine W_block ?_
      refine W_loop [31] [9, 31, 32, 33, 34, 35, 36, 37, 38] (fun vs w' => ∃ (k : Nat) (l' : ModL), vs = [.int .i64 k] ∧ k ≤ os.length ∧ abs l' = runD [] (os.take k) ∧ MS w w' mb bm l') (fun vs _ => match vs with | [.int _ y] => os.length - y.toNat | _ => 0) ⟨0, [], rfl, Nat.zero_le _, rfl, M15⟩ ?_
      rintro J16 vs w16 ⟨k, l', rfl, hk, ha, M⟩ -
      have hsm : SmallM (abs l') := by rw [ha]; exact small_take hlen k
      refine W_seq ?_
      refine W_region ?_
      refine op_run (r_lss rfl rfl) rfl ?_
      refine ops_nil ?_
      refine W_seq ?_
      refine W_cond_p rfl (fun h17 => ?_) (fun h17 => ?_)
      · refine W_skip ?_
        refine W_seq ?_
        refine W_block ?_
        refine W_seq ?_
        refine W_region ?_
        have hkl : k < os.length := by omega
        obtain ⟨c, hc⟩ : ∃ c, os[k]? = some c := ⟨_, List.getElem?_eq_getElem hkl⟩
        obtain ⟨b, off, cp, ev_, _, hcell⟩ := (hv.k M.k).at hc
        cases ev_
        have hinc := inc64' k (by unfold maxLen at hcm0; omega)
        have hcs := hall c (List.mem_of_getElem? hc)
        have htk : runD [] (os.take (k + 1)) = (doD (abs l') c).2 := by
          rw [List.take_succ_eq_append_getElem hkl, (List.getElem?_eq_some_iff.1 hc).2, runD_snoc, ← ha]
        refine op_run (r_idxS rfl rfl rfl rfl (by omega) (by omega)) rfl ?_
        refine op_run (r_loadA (opR c) rfl rfl rfl (by first | rfl | (rw [binV_len]; rfl) | (rw [dgR_len]; rfl) | (rw [refR_len]; rfl) | (rw [secR_len]; rfl) | (rw [List.length_map, tagF_len]; rfl) | (rw [opR_len]; rfl) | (rw [ansS_len]; rfl) | (rw [blkR_len]; rfl)) ((fun j u hj => by rw [Int.toNat_natCast]; exact hcell j u hj))) rfl ?_
        refine o_alloc rfl rfl rfl ?_; intro w20 b20 e20 hB20 hk20 hs20
        have hB20' : Blk w20 b20 (opR OpV.zero) 26 := hB20
        have M20 := M.keep hk20
        have hzk := M.k.size
        refine o_storeA (cs := opR c) rfl rfl (by first | rfl | exact binV_one _ | exact dgR_one _ | exact refR_one _ | exact secR_one _ | exact all_c8 _ | exact opR_one _ | exact blkR_one _ | (exact imR_one1 (by assumption))) (by first | rfl | (rw [binV_len]; rfl) | (rw [dgR_len]; rfl) | (rw [refR_len]; rfl) | (rw [secR_len]; rfl) | (rw [List.length_map, tagF_len]; rfl) | (rw [opR_len]; rfl) | (rw [ansS_len]; rfl) | (rw [blkR_len]; rfl)) hB20' (by exact Nat.le_of_eq (by simp [opR_len])) rfl ?_; intro w21 hB21 hk21 hs21
        have hB21' := op_st hB21
        have M21 := M20.st hB20' (by decide) (by decide) hk21 (by omega)
        refine ops_nil ?_
        refine W_region ?_
        refine o_mvt rfl ?_
        refine op_run (r_loadA (opR c) rfl rfl rfl (by first | rfl | (rw [binV_len]; rfl) | (rw [dgR_len]; rfl) | (rw [refR_len]; rfl) | (rw [secR_len]; rfl) | (rw [List.length_map, tagF_len]; rfl) | (rw [opR_len]; rfl) | (rw [ansS_len]; rfl) | (rw [blkR_len]; rfl)) (hB21'.all)) rfl ?_
        refine op_call rfl rfl rfl (md_Do w21 mb bm l' c M21.m hcs hsm) ?_; rintro v23 w23 ⟨_, l2, ha2, hS⟩
        refine ops_nil ?_
        refine W_region ?_
        refine op_run (r_add rfl rfl) rfl ?_
        refine o_mvt rfl ?_
        refine ops_nil ?_
        have M23 := M21.go hS
        refine ⟨by (repeat (first | with_reducible exact offM_refl _ _ | refine offM_updc rfl ?_ | refine offM_upd rfl ?_ | refine offM_updo rfl ?_ | refine offM_updo_none ?_ | refine offM_head rfl rfl ?_)), ⟨k + 1, l2, congrArg (fun z : Int => [Value.int .i64 z]) hinc, by omega, ?_, M23⟩, ?_⟩
        · rw [htk]; exact ha2
        · show os.length - (IntKind.i64.wrap ((k : Int) + 1)).toNat < os.length - (k : Int).toNat
          rw [hinc]; omega
      · refine W_exit ?_
        refine W_seq ?_
        refine W_seq ?_
        refine W_region ?_
        refine o_mvt rfl ?_
        refine o_mvt rfl ?_
        refine op_run (r_build (opR (snapO nm)) (_) ([(0, .int .i64 6), (1, strA nm), (2, strA keptN)]) rfl rfl rfl rfl rfl (rfl)) rfl ?_
        refine op_call rfl rfl rfl (md_Do6 w16 mb bm l' (snapO nm) M.m ⟨hnl, by show keptN.length ≤ 100; decide⟩ rfl) ?_; rintro v26 w26 ⟨rfl, l2, ha2, hS⟩
        refine op_run (r_field1 rfl rfl rfl rfl rfl ((show (ansR _ _ _)[0]? = some (.int .i64 _) from rfl))) rfl ?_
        refine op_run (r_neq rfl rfl) rfl ?_
        refine ops_nil ?_
        refine W_cond_p rfl (fun h28 => ?_) (fun h28 => ?_)
        · refine W_seq ?_
          refine W_region ?_
          refine o_asc rfl ?_
          refine ops_nil ?_
          refine W_ret ?_
          refine ret1 (.bool true) rfl ?_ ?_; rfl
          exact ⟨rfl, (M.go hS).k⟩
        · refine W_skip ?_
          refine W_seq ?_
          refine W_region ?_
          refine o_mvt rfl ?_
          have M26 := M.go hS
          have he0 : (doD (abs l') (snapO nm)).1.e = 0 := by omega
          obtain ⟨vk, hvk, hfr⟩ := snap he0
          rw [← ha2] at hvk
          have hsN : SmallN (81 + (fltK []).length) (abs l2) := by
            rw [ha2, ha]
            have h1 := small_step (small_run (os.take k) 0 [] SmallN.nil) (snapO nm)
            exact ⟨Nat.le_trans h1.1 (by rw [List.length_take]; show _ ≤ 81; omega), h1.2⟩
          have hbN : BlkN 81 (abs l2) := by
            rw [ha2, ha]
            exact (blk_step (blk_run (os.take k) 0 [] BlkN.nil) (snapO nm)).mono (by rw [List.length_take]; omega)
          refine op_call rfl rfl rfl (md_Images w26 mb bm l2 M26.m (hsN.m (by show 81 ≤ 1000; decide)) (hbN.mono (by decide))) ?_; rintro v30 w30 ⟨⟨ys, hO⟩, hI30, hk30⟩
          have M30 := M26.keep hk30
          refine o_ast rfl ?_
          refine ops_nil ?_
          refine W_seq ?_
          refine W_region ?_
          refine o_mvt rfl ?_
          refine o_mvt rfl ?_
          refine op_call rfl rfl rfl (rf15_Find w30 v30 _ ys keptN hO.s) ?_; rintro v31 w31 ⟨⟨z, rfl, hz⟩, hk31⟩
          obtain ⟨ki, rfl, hki⟩ := find_some hvk hz
          have M31 := M30.keep hk31
          have hO31 := hO.k hk31
          have hkil := (List.getElem?_eq_some_iff.1 hki).1
          obtain ⟨i0, x0, bi, oi, ci, hy0, hi0, ei0, hci0, hbi0⟩ := hO31.s.at hkil
          rw [hki] at hi0
          cases hi0
          have hz31 := M31.k.size
          subst ei0
          refine op_run (r_idxS rfl rfl rfl rfl (by omega) (by omega)) rfl ?_
          refine op_run (r_loadA (imR (⟨keptN, vk.q, vk.fr, blkS vk.bl⟩, x0)) rfl rfl rfl (by first | rfl | (rw [binV_len]; rfl) | (rw [dgR_len]; rfl) | (rw [refR_len]; rfl) | (rw [secR_len]; rfl) | (rw [List.length_map, tagF_len]; rfl) | (rw [opR_len]; rfl) | (rw [ansS_len]; rfl) | (rw [blkR_len]; rfl)) ((fun j u hj => by rw [Int.toNat_natCast, Addr.add_lit]; exact hci0 j u hj))) rfl ?_
          refine o_alloc rfl rfl rfl ?_; intro w34 b34 e34 hB34 hk34 hs34
          have hB34' : Blk w34 b34 (imR (⟨[], 0, false, []⟩, .slice none 0 0)) 41 := hB34
          have hx01 : one x0 = true := by obtain ⟨_, _, rfl, _⟩ := hbi0.form; rfl
          have M34 := M31.keep hk34
          have hO34 := hO31.k hk34
          refine o_storeA (cs := imR (⟨keptN, vk.q, vk.fr, blkS vk.bl⟩, x0)) rfl rfl (by first | rfl | exact binV_one _ | exact dgR_one _ | exact refR_one _ | exact secR_one _ | exact all_c8 _ | exact opR_one _ | exact blkR_one _ | (exact imR_one1 (by assumption))) (by first | rfl | (rw [binV_len]; rfl) | (rw [dgR_len]; rfl) | (rw [refR_len]; rfl) | (rw [secR_len]; rfl) | (rw [List.length_map, tagF_len]; rfl) | (rw [opR_len]; rfl) | (rw [ansS_len]; rfl) | (rw [blkR_len]; rfl)) hB34' (by exact Nat.le_refl _) rfl ?_; intro w35 hB35 hk35 hs35
          have hB35' : Blk w35 b34 (imR (⟨keptN, vk.q, vk.fr, blkS vk.bl⟩, x0)) 41 := hB35
          have M35 := M34.st hB34' (by decide) (by decide) hk35 (by omega)
          have hx35 : ImgsO w35 (.slice (some ⟨bi, oi, none⟩) (imgD (abs l2)).length ci) (imgD (abs l2)) ys := ⟨hO34.e, hO34.o.keep hk35 (fun z hz e => by
            have := hO31.o.lt z hz
            omega), fun y hy => (hO34.b y hy).keep hk35 (fun z hz e => by
            have := (hO31.b y hy).lt z hz
            omega)⟩
          have hl35 := hB35'.lt
          refine ops_nil ?_
          refine W_seq ?_
          refine W_seq ?_
          refine W_region ?_
          refine o_mvt rfl ?_
          refine op_run (r_len rfl rfl rfl) rfl ?_
          refine o_mvc rfl ?_
          refine ops_nil ?_
          refine W_block ?_
          refine W_loop [54] [13, 54, 55, 56, 57, 58, 59, 60, 61, 62, 63, 64, 65, 66, 67, 68, 69] (fun vs w' => ∃ (j : Nat) (l' : ModL), vs = [.int .i64 j] ∧ j ≤ os'.length ∧ abs l' = runD (abs l2) (fltK (os'.take j)) ∧ MS w w' mb bm l' ∧ Blk w' b34 (imR (⟨keptN, vk.q, vk.fr, blkS vk.bl⟩, x0)) 41 ∧ ImgsO w' (.slice (some ⟨bi, oi, none⟩) (imgD (abs l2)).length ci) (imgD (abs l2)) ys) (fun vs _ => match vs with | [.int _ y] => os'.length - y.toNat | _ => 0) ⟨0, l2, rfl, Nat.zero_le _, rfl, M35, hB35', hx35⟩ ?_
          rintro J36 vs w36 ⟨j, l3, rfl, hj, ha3, M36, hB36, hO36⟩ -
          have hfl : (fltK (os'.take j)).length ≤ 80 := Nat.le_trans (fltK_len _) (by rw [List.length_take]; omega)
          have hsm3 : SmallM (abs l3) := by
            rw [ha3]
            exact (small_run _ _ _ hsN).m (by show 81 + _ ≤ 1000; omega)
          have hbk3 : BlkN 1000 (abs l3) := by
            rw [ha3]
            exact (blk_run _ _ _ hbN).mono (by omega)
          have hv3 : lookP (abs l3) keptN = some vk := by rw [ha3]; exact run_ten hvk hfr
          refine W_seq ?_
          refine W_region ?_
          refine op_run (r_lss rfl rfl) rfl ?_
          refine ops_nil ?_
          refine W_seq ?_
          refine W_cond_p rfl (fun h37 => ?_) (fun h37 => ?_)
          · refine W_skip ?_
            refine W_seq ?_
            refine W_block ?_
            refine W_seq ?_
            refine W_region ?_
            have hjl : j < os'.length := by omega
            obtain ⟨c, hc⟩ : ∃ c, os'[j]? = some c := ⟨_, List.getElem?_eq_getElem hjl⟩
            obtain ⟨b, off, cp, ev_, _, hcell⟩ := (hv'.k M36.k).at hc
            cases ev_
            have hinc := inc64' j (by unfold maxLen at hcm1; omega)
            have hcs := hall' c (List.mem_of_getElem? hc)
            have htk : os'.take (j + 1) = os'.take j ++ [c] := by
              rw [List.take_succ_eq_append_getElem hjl, (List.getElem?_eq_some_iff.1 hc).2]
            refine op_run (r_idxS rfl rfl rfl rfl (by omega) (by omega)) rfl ?_
            refine op_run (r_loadA (opR c) rfl rfl rfl (by first | rfl | (rw [binV_len]; rfl) | (rw [dgR_len]; rfl) | (rw [refR_len]; rfl) | (rw [secR_len]; rfl) | (rw [List.length_map, tagF_len]; rfl) | (rw [opR_len]; rfl) | (rw [ansS_len]; rfl) | (rw [blkR_len]; rfl)) ((fun j u hj => by rw [Int.toNat_natCast]; exact hcell j u hj))) rfl ?_
            refine o_alloc rfl rfl rfl ?_; intro w40 b40 e40 hB40 hk40 hs40
            have hB40' : Blk w40 b40 (opR OpV.zero) 26 := hB40
            have M40 := M36.keep hk40
            have hzk := M36.k.size
            have hl36 := hB36.lt
            refine o_storeA (cs := opR c) rfl rfl (by first | rfl | exact binV_one _ | exact dgR_one _ | exact refR_one _ | exact secR_one _ | exact all_c8 _ | exact opR_one _ | exact blkR_one _ | (exact imR_one1 (by assumption))) (by first | rfl | (rw [binV_len]; rfl) | (rw [dgR_len]; rfl) | (rw [refR_len]; rfl) | (rw [secR_len]; rfl) | (rw [List.length_map, tagF_len]; rfl) | (rw [opR_len]; rfl) | (rw [ansS_len]; rfl) | (rw [blkR_len]; rfl)) hB40' (by exact Nat.le_of_eq (by simp [opR_len])) rfl ?_; intro w41 hB41 hk41 hs41
            have hB41' := op_st hB41
            have M41 := M40.st hB40' (by decide) (by decide) hk41 (by omega)
            have hB341 := hk41.blk' (hk40.blk' hB36 trivial) (show b34 ≠ b40 by omega)
            have hO41 : ImgsO w41 (.slice (some ⟨bi, oi, none⟩) (imgD (abs l2)).length ci) (imgD (abs l2)) ys := ⟨hO36.e, (hO36.o.keep hk40 (fun _ _ => trivial)).keep hk41 (fun z hz e => by
              have := hO36.o.lt z hz
              omega), fun y hy => ((hO36.b y hy).keep hk40 (fun _ _ => trivial)).keep hk41 (fun z hz e => by
              have := (hO36.b y hy).lt z hz
              omega)⟩
            refine ops_nil ?_
            refine W_seq ?_
            refine W_cut [65] [58, 59, 60, 61, 62, 63, 64, 65] (fun vs w42 => vs = [.bool (decide (c.kind = 2 ∧ c.name = keptN))] ∧ w42 = w41) ?_ ?_
            · refine W_region ?_
              refine op_run (r_fieldAddr rfl rfl rfl rfl rfl) rfl ?_
              refine op_run (r_load rfl rfl rfl (hB41'.cell rfl)) rfl ?_
              refine op_run (r_eql rfl rfl) rfl ?_
              refine o_mvt rfl ?_
              refine g_split rfl rfl rfl (fun g44 => ?_) (fun g44 => ?_)
              · refine op_run (r_fieldAddr rfl rfl rfl rfl rfl) (g_yes rfl rfl rfl g44) ?_
                refine op_run (r_load rfl rfl rfl (hB41'.cell rfl)) (g_yes rfl rfl rfl g44) ?_
                refine op_run (r_eqlStr rfl rfl) (g_yes rfl rfl rfl g44) ?_
                refine o_pkTt rfl g44 rfl ?_
                refine ops_nil ?_
                exact ⟨by (repeat (first | with_reducible exact offM_refl _ _ | refine offM_updc rfl ?_ | refine offM_upd rfl ?_ | refine offM_updo rfl ?_ | refine offM_updo_none ?_ | refine offM_head rfl rfl ?_)), congrArg (fun b => [Value.bool b]) (by have g := of_decide_eq_true g44; rw [decide_eq_decide]; exact ⟨fun h => ⟨g, h⟩, fun h => h.2⟩), rfl⟩
              · refine op_skip (g_no rfl rfl rfl g44) ?_
                refine op_skip (g_no rfl rfl rfl g44) ?_
                refine op_skip (g_no rfl rfl rfl g44) ?_
                refine o_pkFc rfl g44 rfl ?_
                refine ops_nil ?_
                exact ⟨by (repeat (first | with_reducible exact offM_refl _ _ | refine offM_updc rfl ?_ | refine offM_upd rfl ?_ | refine offM_updo rfl ?_ | refine offM_updo_none ?_ | refine offM_head rfl rfl ?_)), congrArg (fun b => [Value.bool b]) (by have g := of_decide_eq_false g44; symm; apply decide_eq_false; exact fun h => g h.1), rfl⟩
            · rintro J48 vs w48 ⟨rfl, rfl⟩ -
              refine W_cond_p rfl (fun h49 => ?_) (fun h49 => ?_)
              · refine W_exit ?_
                refine W_region ?_
                refine op_run (r_add rfl rfl) rfl ?_
                refine o_mvt rfl ?_
                refine ops_nil ?_
                refine ⟨by (repeat (first | with_reducible exact offM_refl _ _ | refine offM_updc rfl ?_ | refine offM_upd rfl ?_ | refine offM_updo rfl ?_ | refine offM_updo_none ?_ | refine offM_head rfl rfl ?_)), ⟨j + 1, l3, congrArg (fun z : Int => [Value.int .i64 z]) hinc, by omega, ?_, M41, hB341, hO41⟩, ?_⟩
                · rw [htk, ha3]; unfold fltK; rw [List.filter_append, List.filter_cons, if_neg (by simp [h49]), List.filter_nil, List.append_nil]
                · show os'.length - (IntKind.i64.wrap ((j : Int) + 1)).toNat < os'.length - (j : Int).toNat
                  rw [hinc]; omega
              · refine W_skip ?_
                refine W_region ?_
                refine o_mvt rfl ?_
                refine op_run (r_loadA (opR c) rfl rfl rfl (by first | rfl | (rw [binV_len]; rfl) | (rw [dgR_len]; rfl) | (rw [refR_len]; rfl) | (rw [secR_len]; rfl) | (rw [List.length_map, tagF_len]; rfl) | (rw [opR_len]; rfl) | (rw [ansS_len]; rfl) | (rw [blkR_len]; rfl)) (hB41'.all)) rfl ?_
                refine op_call rfl rfl rfl (md_Do w48 mb bm l3 c M41.m hcs hsm3) ?_; rintro v52 w52 ⟨_, l4, ha4, hS4⟩
                refine ops_nil ?_
                refine W_region ?_
                refine op_run (r_add rfl rfl) rfl ?_
                refine o_mvt rfl ?_
                refine ops_nil ?_
                have M52 := M41.go hS4
                refine ⟨by (repeat (first | with_reducible exact offM_refl _ _ | refine offM_updc rfl ?_ | refine offM_upd rfl ?_ | refine offM_updo rfl ?_ | refine offM_updo_none ?_ | refine offM_head rfl rfl ?_)), ⟨j + 1, l4, congrArg (fun z : Int => [Value.int .i64 z]) hinc, by omega, ?_, M52, M41.blk hS4 hB341, hO41.kM M41.m hS4.2.1⟩, ?_⟩
                · rw [htk]; unfold fltK; rw [List.filter_append, List.filter_cons, if_pos (by rw [decide_eq_false h49]; rfl), List.filter_nil, runD_snoc]; rw [ha4, ha3]; rfl
                · show os'.length - (IntKind.i64.wrap ((j : Int) + 1)).toNat < os'.length - (j : Int).toNat
                  rw [hinc]; omega
          · refine W_exit ?_
            refine W_seq ?_
            refine W_region ?_
            refine o_mvt rfl ?_
            refine op_call rfl rfl rfl (md_Images w36 mb bm l3 M36.m hsm3 hbk3) ?_; rintro v54 w54 ⟨⟨ys3, hO3⟩, hI54, hk54⟩
            refine o_ast rfl ?_
            refine ops_nil ?_
            refine W_seq ?_
            refine W_region ?_
            refine o_mvt rfl ?_
            refine op_call rfl rfl rfl (rf15_Find w54 v54 _ ys3 keptN hO3.s) ?_; rintro v55 w55 ⟨⟨z, rfl, hz⟩, hk55⟩
            refine o_ast rfl ?_
            refine ops_nil ?_
            refine W_seq ?_
            obtain ⟨ki, rfl, hki⟩ := find_some hv3 hz
            have hkB := hk54.trans hk55
            have hB55 := hkB.blk' hB36 trivial
            have hO55 := (hO36.k hkB).s
            have hO35 := (hO3.k hk55).s
            obtain ⟨a3, c3, rfl, hc3, hcm3⟩ := hO35.o.form
            have hkil := (List.getElem?_eq_some_iff.1 hki).1
            have hinc3 := inc64' ki (by unfold maxLen at hcm3; omega)
            obtain ⟨xk, hsub⟩ := hO35.sub hki
            refine W_held (fun w' => Keep All w55 w') (by kernel_rfl) (Keep.drawn w55) (fun hS => ?_)
            refine any_mvt 0 rfl (by kernel_rfl) (by kernel_rfl) (by kernel_rfl) rfl hS ?_
            refine any_run 1 (fun w' hS' => (r_geq rfl rfl)) rfl (by kernel_rfl) (by kernel_rfl) (by kernel_rfl) rfl hS ?_
            refine any_mvt 2 rfl (by kernel_rfl) (by kernel_rfl) (by kernel_rfl) rfl hS ?_
            refine a_split 76 true rfl (fun g57 => ?_) (fun g => absurd g (by simp))
            refine any_run 3 (fun w' hS' => (r_fieldAddr rfl rfl rfl rfl rfl)) rfl (by kernel_rfl) (by kernel_rfl) (by kernel_rfl) (g_yes rfl rfl rfl g57) hS ?_
            refine any_run 4 (fun w' hS' => (r_load rfl rfl rfl ((hS'.cell (hB55.cell rfl) trivial)))) rfl (by kernel_rfl) (by kernel_rfl) (by kernel_rfl) (g_yes rfl rfl rfl g57) hS ?_
            refine any_run 5 (fun w' hS' => (r_pickT rfl g57)) rfl (by kernel_rfl) (by kernel_rfl) (by kernel_rfl) rfl hS ?_
            refine any_mvt 6 rfl (by kernel_rfl) (by kernel_rfl) (by kernel_rfl) rfl hS ?_
            refine a_split 80 true rfl (fun g59 => ?_) (fun g => absurd g (by simp [hfr]))
            refine any_mvt 7 rfl (by kernel_rfl) (by kernel_rfl) (by kernel_rfl) (g_yes rfl rfl rfl g59) hS ?_
            refine any_mvt 8 rfl (by kernel_rfl) (by kernel_rfl) (by kernel_rfl) (g_yes rfl rfl rfl g59) hS ?_
            refine any_mvt 9 rfl (by kernel_rfl) (by kernel_rfl) (by kernel_rfl) (g_yes rfl rfl rfl g59) hS ?_
            refine any_run 10 (fun w' hS' => (r_add rfl rfl)) rfl (by kernel_rfl) (by kernel_rfl) (by kernel_rfl) (g_yes rfl rfl rfl g59) hS ?_
            refine any_run 11 (fun w' hS' => ((r_sliceS_lohi rfl rfl rfl rfl rfl (by omega) (by rw [hinc3]; omega) (by rw [hinc3]; omega)).val ((show subSl a3 4 ((ki : Int)).toNat (IntKind.i64.wrap ((ki : Int) + 1)).toNat c3 = subSl a3 4 ki (ki + 1) c3 by rw [hinc3]; rfl)))) rfl (by kernel_rfl) (by kernel_rfl) (by kernel_rfl) (g_yes rfl rfl rfl g59) hS ?_
            refine any_run 12 (fun w' hS' => (r_loadA (imR (⟨keptN, vk.q, vk.fr, blkS vk.bl⟩, x0)) rfl rfl rfl (by first | rfl | (rw [binV_len]; rfl) | (rw [dgR_len]; rfl) | (rw [refR_len]; rfl) | (rw [secR_len]; rfl) | (rw [List.length_map, tagF_len]; rfl) | (rw [opR_len]; rfl) | (rw [ansS_len]; rfl) | (rw [blkR_len]; rfl)) ((fun j u hj => hS'.cell (hB55.all j u hj) trivial)))) rfl (by kernel_rfl) (by kernel_rfl) (by kernel_rfl) (g_yes rfl rfl rfl g59) hS ?_
            refine any_one 13 (by kernel_rfl) (one_of rfl ?_)
            refine o_bsR imR imR_len [(⟨keptN, vk.q, vk.fr, blkS vk.bl⟩, x0)] rfl ti_im rfl rfl rfl rfl rfl (g_yes rfl rfl rfl g59) ?_; intro w62 b62 e62 hB62 hk62 hs62
            refine ops_nil ⟨(hS.trans hk62), fun hS => ?_⟩
            refine any_one 14 (by kernel_rfl) (one_of rfl ?_)
            refine op_call rfl rfl (g_yes rfl rfl rfl g59) (rf15_Same w62 _ _ [⟨keptN, vk.q, vk.fr, blkS vk.bl⟩] [(_, xk)] [(_, x0)] (hsub.k hS) (ImgsS.one hB62 ((hO55.b _ (List.mem_of_getElem? hy0)).keep hS (fun _ _ => trivial))) (fun i hi => by rw [List.mem_singleton.1 hi]; exact imgD_small hbk3 (by decide) _ (imgD_mem hv3))) ?_; rintro v64 w64 ⟨rfl, hk64⟩
            refine ops_nil ⟨(hS.trans hk64), fun hS => ?_⟩
            refine any_run 15 (fun w' hS' => (r_pickT rfl g59)) rfl (by kernel_rfl) (by kernel_rfl) (by kernel_rfl) rfl hS ?_
            refine any_ast 16 rfl (by kernel_rfl) (by kernel_rfl) (by kernel_rfl) rfl hS ?_
            refine any_done (by kernel_rfl) ?_
            refine W_ret ?_
            refine ret1 (.bool true) rfl ?_ ?_; rfl
            exact ⟨rfl, M36.k.trans (hkB.trans hS)⟩
end Go.Proofs.Ytkckphbdjkjfgaa.B
