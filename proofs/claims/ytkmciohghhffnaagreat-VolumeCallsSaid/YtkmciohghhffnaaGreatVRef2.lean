/-
  sporranref12.Set.
-/
import Derived.Test.YtkmciohghhffnaaGreatVRef1
namespace Go.Proofs
open Go
variable {P : Program}
/-- A value, an array or struct that lies in memory, and two values. -/
theorem YtkmciohghhffnaaGreat.B.retTATT {fn : Func} {S : Value → World → Prop} {F : Fr} {w : World} {t0 t u u2 : Tmp} {ty : TypeId} {d : TypeDesc} {a : Addr} {z : Option Value} {by_ : Nat} (v1 : Value) (cs : List Value) (v2 v3 : Value) (h : fn.results = #[.tmp t0, .cell t ty, .tmp u, .tmp u2]) (hv1 : F t0 = v1) (ha : F t = .pointer (some a)) (hv2 : F u = v2) (hv3 : F u2 = v3) (ht : P.underlying ty = some d) (hd : aggD d = true)
    (hi : tinfo P ty = some (z, cs.length, by_)) (hc : ∀ (j : Nat) (v : Value), cs[j]? = some v → w.cell? (a.add j) = some v) (hS : S (.tuple #[v1, .agg cs.toArray, v2, v3]) w) : retP P fn S .ret F w := by
  unfold retP
  exact ⟨_, fun tmps htm => by
    have h0 : tmps.getD t0 undef = v1 := by rw [htm, hv1]
    have h1 : tmps.getD t undef = .pointer (some a) := by rw [htm, ha]
    have h2 : tmps.getD u undef = v2 := by rw [htm, hv2]
    have h3 : tmps.getD u2 undef = v3 := by rw [htm, hv3]
    simp only [Array.getD_eq_getD_getElem?] at h0 h1 h2 h3
    simp [results, h, h0, h1, h2, h3, asAddr, loadVar, run_isAgg ht, hd, run_sizeOf_t hi, run_loadCells_list w a cs hc], hS⟩
end Go.Proofs
namespace Go.Proofs.YtkmciohghhffnaaGreat.B
open Go
set_option linter.unusedVariables false
set_option maxHeartbeats 2000000
set_option maxRecDepth 100000
attribute [local irreducible] W OpsW OpsQ retP
def setR (l : AL) (nm : List UInt8) (n : Int) (put : Bool) (f : Bk) : RV × AL := if put = true then putR l nm n f else dropR l nm n
theorem chgV_get {l : AL} {nm : List UInt8} {n : Int} (h : ¬ ((getV l nm n).e = 0 ∧ frQ l nm = true)) : chgV l nm n = getV l nm n := if_neg h
theorem setR_err {l : AL} {nm : List UInt8} {n : Int} {put : Bool} {f : Bk} (h : (chgV l nm n).e ≠ 0) : setR l nm n put f = (chgV l nm n, l) := by
  unfold setR; split
  · exact putR_err h
  · exact dropR_err h
theorem setR_k {l : AL} {nm : List UInt8} {n : Int} {put : Bool} {f : Bk} (h : (getV l nm n).e ≠ 0) : setR l nm n put f = (getV l nm n, l) := by
  have e := chgV_get (l := l) (nm := nm) (n := n) (fun hh => h hh.1)
  rw [setR_err (by rw [e]; exact h), e]
theorem setR_fr {l : AL} {nm : List UInt8} {n : Int} {put : Bool} {f : Bk} {v : VA} (h : (getV l nm n).e = 0) (hv : lookP l nm = some v) (hf : v.fr = true) : setR l nm n put f = (RV.no 10, l) := by
  have e : chgV l nm n = RV.no 10 := if_pos ⟨h, by rw [frQ_some hv]; exact hf⟩
  rw [setR_err (by rw [e]; decide), e]
theorem setR_0 {l : AL} {nm : List UInt8} {n : Int} {v : VA} (hv : lookP l nm = some v) (hf : v.fr = false) : chgV l nm n = getV l nm n := chgV_get (fun hh => by have h2 := hh.2; rw [frQ_some hv, hf] at h2; cases h2)
theorem setR_put {l : AL} {nm : List UInt8} {n : Int} {f : Bk} {v : VA} (h : (getV l nm n).e = 0) (hv : lookP l nm = some v) (hf : v.fr = false) : setR l nm n true f = if lookP v.bl n = none ∧ v.q ≤ v.bl.length then (⟨(getV l nm n).f, (getV l nm n).t, 8⟩, l) else (getV l nm n, putA l nm (setP v.bl n f)) := by
  have e := setR_0 (n := n) hv hf
  unfold setR
  rw [if_pos rfl, putR_some (by rw [e]; exact h) hv, e]
theorem setR_drop {l : AL} {nm : List UInt8} {n : Int} {f : Bk} {v : VA} (h : (getV l nm n).e = 0) (hv : lookP l nm = some v) (hf : v.fr = false) : setR l nm n false f = (getV l nm n, putA l nm (delP v.bl n)) := by
  have e := setR_0 (n := n) hv hf
  unfold setR
  rw [if_neg (by decide), dropR_some (by rw [e]; exact h) hv, e]
theorem getV_t {l : AL} {nm : List UInt8} {n : Int} {v : VA} (h : (getV l nm n).e = 0) (hv : lookP l nm = some v) : (getV l nm n).t = (lookP v.bl n).isSome := by
  obtain ⟨v', hv', _, _, e⟩ := getV_ok h
  rw [hv] at hv'; cases hv'
  rw [e]
def RV.v4 (r : RV) (v : Value) : Value := .tuple #[v, .agg (blkR r.f).toArray, .bool r.t, .int .i64 r.e]
def SetQ (w : World) (l : AL) (x : RV × AL) (r : Value) (w' : World) : Prop := (∃ v' ys', r = x.1.v4 v' ∧ ImgsS w' v' (imgD x.2) ys') ∧ Keep All w w'
theorem setq_same {w w' : World} {l : AL} {x : RV × AL} {a : RV} {v : Value} {ys : List (Img × Value)} (e : x = (a, l)) (h : ImgsS w v (imgD l) ys) (hk : Keep All w w') : SetQ w l x (a.v4 v) w' := by rw [e]; exact ⟨⟨v, ys, rfl, h.k hk⟩, hk⟩
theorem rf12_Set (w : World) (v : Value) (l : AL) (ys : List (Img × Value)) (nm : List UInt8) (n : Int) (put : Bool) (f : Bk) (h : ImgsS w v (imgD l) ys) (hN : NdA l) (hl : l.length ≤ 1000) (hbk : BlkN 1000 l) : Ret Tryz.prog 20 [v, strA nm, .int .i64 n, .bool put, .agg (blkR f).toArray].toArray w (SetQ w l (setR l nm n put f)) := by
  have hil := imgD_len l
  refine enter (fn := Tryz.f20) (n := 121) Tryz.func20 rfl rfl (by simp) ?_
  refine W_seq ?_
  refine W_region ?_
  refine o_box rfl rfl rfl ?_; intro w1 b1 e1 hB1 hk1 hs1
  have hB1' : Blk w1 b1 (blkR f) 29 := hB1
  refine o_asc rfl ?_
  refine o_alloc rfl rfl rfl ?_; intro w2 b2 e2 hB2 hk2 hs2
  have hB2' : Blk w2 b2 (blkR Bk.zero) 29 := hB2
  have hk02 := hk1.trans hk2
  have hB12 := hk2.blk' hB1' trivial
  have hz1 := hk1.size
  have hlt1 := hB1'.lt
  refine o_asc rfl ?_
  refine o_asc rfl ?_
  refine ops_nil ?_
  refine W_seq ?_
  refine W_region ?_
  refine o_mvt rfl ?_
  refine o_mvt rfl ?_
  refine o_mvt rfl ?_
  refine op_call rfl rfl rfl (rf12_Get w2 v l ys nm n (h.k hk02) hl hbk) ?_; rintro v3 w3 ⟨rfl, hk3⟩
  have hk03 := hk02.trans hk3
  have hB13 := hk3.blk' hB12 trivial
  have hB23 := hk3.blk' hB2' trivial
  have hlt2 := hB23.lt
  obtain ⟨g, hg⟩ : ∃ g, getV l nm n = g := ⟨_, rfl⟩
  rw [hg]
  refine o_mvt rfl ?_
  refine op_run (r_extract rfl rfl) rfl ?_
  refine op_run (r_extract rfl rfl) rfl ?_
  refine op_run (r_extract rfl rfl) rfl ?_
  refine o_alloc rfl rfl rfl ?_; intro w4 b4 e4 hB4 hk4 hs4
  have hB4' : Blk w4 b4 (blkR Bk.zero) 29 := hB4
  refine o_storeA (cs := blkR g.f) rfl rfl (by first | rfl | exact binV_one _ | exact dgR_one _ | exact refR_one _ | exact secR_one _ | exact all_c8 _ | exact blkR_one _ | exact imR_one1 rfl | exact nbR_one _) (by first | rfl | (rw [binV_len]; rfl) | (rw [dgR_len]; rfl) | (rw [refR_len]; rfl) | (rw [secR_len]; rfl) | (rw [List.length_map, tagF_len]; rfl) | (rw [blkR_len]; rfl) | (rw [imR_len]; rfl) | (rw [nbR_len]; rfl)) hB4' (by exact Nat.le_of_eq (by simp [blkR_len])) rfl ?_; intro w5 hB5 hk5 hs5
  have hB5' := bk_st hB5
  have hB25 := hk5.blk' (hk4.blk' hB23 trivial) (show b2 ≠ b4 by omega)
  have hB15 := hk5.blk' (hk4.blk' hB13 trivial) (show b1 ≠ b4 by omega)
  have hk05 := (hk03.trans hk4).new hk5 (by have := hk03.size; omega)
  have hlt25 := hB25.lt
  have hlt15 := hB15.lt
  have hlt55 := hB5'.lt
  refine o_ast rfl ?_
  refine o_ast rfl ?_
  refine ops_nil ?_
  refine W_seq ?_
  refine W_seq ?_
  refine W_region ?_
  refine o_mvt rfl ?_
  refine op_run (r_neq rfl rfl) rfl ?_
  refine ops_nil ?_
  refine W_cond_p rfl (fun h6 => ?_) (fun h6 => ?_)
  · refine W_seq ?_
    refine W_gate 5 (fun w' => Keep All w5 w') (by kernel_rfl) (Keep.drawn w5) (fun hS => ?_)
    refine gt_mvt 0 rfl (by kernel_rfl) (by kernel_rfl) (by kernel_rfl) (by kernel_rfl) rfl hS ?_
    refine gt_run 1 (fun w' hS' => (r_loadA (blkR g.f) rfl rfl rfl (by first | rfl | (rw [binV_len]; rfl) | (rw [dgR_len]; rfl) | (rw [refR_len]; rfl) | (rw [secR_len]; rfl) | (rw [List.length_map, tagF_len]; rfl) | (rw [blkR_len]; rfl) | (rw [imR_len]; rfl) | (rw [nbR_len]; rfl)) ((hS'.blk' hB5' trivial).all))) rfl (by kernel_rfl) (by kernel_rfl) (by kernel_rfl) (by kernel_rfl) rfl hS ?_
    refine gt_ast 4 rfl (by kernel_rfl) (by kernel_rfl) (by kernel_rfl) (by kernel_rfl) rfl hS ?_
    refine gp_mvt 2 rfl (by kernel_rfl) (by kernel_rfl) (by kernel_rfl) (by kernel_rfl) rfl hS ?_
    refine gp_mvt 3 rfl (by kernel_rfl) (by kernel_rfl) (by kernel_rfl) (by kernel_rfl) rfl hS ?_
    refine gt_past 5 (by kernel_rfl) (by kernel_rfl) (one_of rfl ?_)
    refine o_storeA (cs := blkR g.f) rfl rfl (by first | rfl | exact binV_one _ | exact dgR_one _ | exact refR_one _ | exact secR_one _ | exact all_c8 _ | exact blkR_one _ | exact imR_one1 rfl | exact nbR_one _) (by first | rfl | (rw [binV_len]; rfl) | (rw [dgR_len]; rfl) | (rw [refR_len]; rfl) | (rw [secR_len]; rfl) | (rw [List.length_map, tagF_len]; rfl) | (rw [blkR_len]; rfl) | (rw [imR_len]; rfl) | (rw [nbR_len]; rfl)) (hS.blk' hB25 trivial) (by exact Nat.le_of_eq (by simp [blkR_len])) rfl ?_; intro w9 hB9 hk9 hs9
    refine ops_nil ?_
    refine gt_past 6 (by kernel_rfl) (by kernel_rfl) (one_of rfl ?_)
    refine o_ast rfl ?_
    refine ops_nil ?_
    refine gt_past 7 (by kernel_rfl) (by kernel_rfl) (one_of rfl ?_)
    refine o_ast rfl ?_
    refine ops_nil ?_
    refine gt_done (by kernel_rfl) ?_
    refine W_ret ?_
    refine retTATT (v) ((blkR g.f)) ((.bool g.t)) ((.int .i64 g.e)) rfl rfl rfl rfl rfl rfl rfl (by first | rfl | (rw [binV_len]; rfl) | (rw [dgR_len]; rfl) | (rw [refR_len]; rfl) | (rw [secR_len]; rfl) | (rw [List.length_map, tagF_len]; rfl) | (rw [blkR_len]; rfl) | (rw [imR_len]; rfl) | (rw [nbR_len]; rfl)) ((bk_st hB9).all) ?_
    exact setq_same (by rw [← hg]; exact setR_k (by rw [hg]; exact h6)) h ((hk05.trans hS).new hk9 (by omega))
  · refine W_skip ?_
    refine W_seq ?_
    refine W_region ?_
    refine o_mvt rfl ?_
    refine o_mvt rfl ?_
    have he0 : (getV l nm n).e = 0 := by rw [hg]; exact Classical.byContradiction fun hh => h6 hh
    obtain ⟨vv, hv, hn0, hn1, hge⟩ := getV_ok he0
    have hgt := getV_t he0 hv
    rw [hg] at hgt
    refine op_call rfl rfl rfl (rf12_Find w5 v (imgD l) ys nm (h.k hk05)) ?_; rintro v11 w11 ⟨⟨z, rfl, hz⟩, hk11⟩
    have hzz := find_case hz
    have hk0B := hk05.trans hk11
    have hB1B := hk11.blk' hB15 trivial
    have hB2B := hk11.blk' hB25 trivial
    have hB4B := hk11.blk' hB5' trivial
    obtain ⟨ki, rfl, hki⟩ : ∃ (k : Nat), z = k ∧ (imgD l)[k]? = some ⟨nm, vv.q, vv.fr, blkS vv.bl⟩ := by
      rcases hzz with ⟨e, _⟩ | ⟨v', k, e, e2, e3⟩
      · rw [hv] at e; cases e
      · rw [hv] at e; cases e; exact ⟨k, e2, e3⟩
    have hkil := (List.getElem?_eq_some_iff.1 hki).1
    obtain ⟨a0, c0, rfl, hc0, hca⟩ := h.o.form
    obtain ⟨i0, x0, bi, oi, ci, hy0, hi0, ei0, hci, hbi⟩ := h.at hkil
    rw [hki] at hi0
    cases hi0
    cases ei0
    obtain ⟨xa, xc, exa, _, _⟩ := hbi.form
    subst exa
    have hbe : (Img.mk nm vv.q vv.fr (blkS vv.bl)).bl.length = (blkS vv.bl).length := rfl
    have hvb := (hN.2 _ (lookP_mem hv))
    have hblen : (blkS vv.bl).length = vv.bl.length := blkS_len _
    have hbl : vv.bl.length ≤ 1000 := (hbk _ (lookP_mem hv)).1
    refine o_ast rfl ?_
    refine ops_nil ?_
    refine W_seq ?_
    refine W_region ?_
    refine o_mvt rfl ?_
    refine o_mvt rfl ?_
    refine op_run (r_idxS rfl rfl rfl rfl (by omega) (by omega)) rfl ?_
    refine op_run (r_loadA (imR (⟨nm, vv.q, vv.fr, blkS vv.bl⟩, .slice xa (blkS vv.bl).length xc)) rfl rfl rfl (by first | rfl | (rw [binV_len]; rfl) | (rw [dgR_len]; rfl) | (rw [refR_len]; rfl) | (rw [secR_len]; rfl) | (rw [List.length_map, tagF_len]; rfl) | (rw [blkR_len]; rfl) | (rw [imR_len]; rfl) | (rw [nbR_len]; rfl)) ((fun m u hm => by rw [Int.toNat_natCast, Addr.add_lit]; exact hk0B.cell (hci m u hm) trivial))) rfl ?_
    refine o_alloc rfl rfl rfl ?_; intro w14 b14 e14 hB14 hk14 hs14
    have hB14' : Blk w14 b14 (imR (⟨[], 0, false, []⟩, .slice none 0 0)) 69 := hB14
    refine o_storeA (cs := imR (⟨nm, vv.q, vv.fr, blkS vv.bl⟩, .slice xa (blkS vv.bl).length xc)) rfl rfl (by first | rfl | exact binV_one _ | exact dgR_one _ | exact refR_one _ | exact secR_one _ | exact all_c8 _ | exact blkR_one _ | exact imR_one1 rfl | exact nbR_one _) (by first | rfl | (rw [binV_len]; rfl) | (rw [dgR_len]; rfl) | (rw [refR_len]; rfl) | (rw [secR_len]; rfl) | (rw [List.length_map, tagF_len]; rfl) | (rw [blkR_len]; rfl) | (rw [imR_len]; rfl) | (rw [nbR_len]; rfl)) hB14' (by exact Nat.le_of_eq (by simp [imR_len])) rfl ?_; intro w15 hB15 hk15 hs15
    have hBv : Blk w15 b14 (imR (⟨nm, vv.q, vv.fr, blkS vv.bl⟩, .slice xa (blkS vv.bl).length xc)) 69 := by
      have h := hB15
      rwa [splice_all (by rw [imR_len, imR_len])] at h
    have hzB := hk0B.size
    have hk0C := (hk0B.trans hk14).new hk15 (by omega)
    have hl1B := hB1B.lt
    have hl2B := hB2B.lt
    have hl4B := hB4B.lt
    have hB1C := hk15.blk' (hk14.blk' hB1B trivial) (show b1 ≠ b14 by omega)
    have hB2C := hk15.blk' (hk14.blk' hB2B trivial) (show b2 ≠ b14 by omega)
    have hB4C := hk15.blk' (hk14.blk' hB4B trivial) (show b4 ≠ b14 by omega)
    refine ops_nil ?_
    refine W_seq ?_
    refine W_seq ?_
    refine W_region ?_
    refine op_run (r_fieldAddr rfl rfl rfl rfl rfl) rfl ?_
    refine op_run (r_load rfl rfl rfl (hBv.cell rfl)) rfl ?_
    refine ops_nil ?_
    refine W_cond rfl (fun h17 => ?_) (fun h17 => ?_)
    · refine W_seq ?_
      refine W_region ?_
      refine o_mvt rfl ?_
      refine op_run (r_buildA (blkR Bk.zero) (_) ([]) rfl rfl rfl rfl rfl (rfl)) rfl ?_
      refine o_ast rfl ?_
      refine o_storeA (cs := blkR Bk.zero) rfl rfl (by first | rfl | exact binV_one _ | exact dgR_one _ | exact refR_one _ | exact secR_one _ | exact all_c8 _ | exact blkR_one _ | exact imR_one1 rfl | exact nbR_one _) (by first | rfl | (rw [binV_len]; rfl) | (rw [dgR_len]; rfl) | (rw [refR_len]; rfl) | (rw [secR_len]; rfl) | (rw [List.length_map, tagF_len]; rfl) | (rw [blkR_len]; rfl) | (rw [imR_len]; rfl) | (rw [nbR_len]; rfl)) hB2C (by exact Nat.le_of_eq (by simp [blkR_len])) rfl ?_; intro w19 hB19 hk19 hs19
      refine o_asc rfl ?_
      refine o_asc rfl ?_
      refine ops_nil ?_
      refine W_ret ?_
      refine retTATT (_) ((blkR Bk.zero)) ((.bool false)) ((.int .i64 10)) rfl rfl rfl rfl rfl rfl rfl (by first | rfl | (rw [binV_len]; rfl) | (rw [dgR_len]; rfl) | (rw [refR_len]; rfl) | (rw [secR_len]; rfl) | (rw [List.length_map, tagF_len]; rfl) | (rw [blkR_len]; rfl) | (rw [imR_len]; rfl) | (rw [nbR_len]; rfl)) ((bk_st hB19).all) ?_
      exact setq_same (a := RV.no 10) (setR_fr he0 hv h17) h (hk0C.new hk19 (by omega))
    · refine W_skip ?_
      refine W_seq ?_
      have hvf : vv.fr = false := h17
      refine W_cut [61] [49, 50, 51, 52, 53, 54, 55, 56, 57, 58, 59, 60, 61] (fun vs w21 => vs = [.bool (decide (put = true ∧ g.t = false ∧ vv.q ≤ vv.bl.length))] ∧ w21 = w15) ?_ ?_
      · refine W_region ?_
        refine o_mvt rfl ?_
        refine o_mvt rfl ?_
        refine g_split rfl rfl rfl (fun g22 => ?_) (fun g22 => ?_)
        · refine o_mvt (g_yes rfl rfl rfl g22) ?_
          refine op_run (r_not rfl) (g_yes rfl rfl rfl g22) ?_
          refine o_pkTt rfl g22 rfl ?_
          refine o_mvt rfl ?_
          refine g_split rfl rfl rfl (fun g23 => ?_) (fun g23 => ?_)
          · refine op_run (r_fieldAddr rfl rfl rfl rfl rfl) (g_yes rfl rfl rfl (by rw [g23] <;> rfl)) ?_
            refine op_run (r_load rfl rfl rfl (hBv.cell rfl)) (g_yes rfl rfl rfl (by rw [g23] <;> rfl)) ?_
            refine op_run (r_len rfl rfl rfl) (g_yes rfl rfl rfl (by rw [g23] <;> rfl)) ?_
            refine op_run (r_fieldAddr rfl rfl rfl rfl rfl) (g_yes rfl rfl rfl (by rw [g23] <;> rfl)) ?_
            refine op_run (r_load rfl rfl rfl (hBv.cell rfl)) (g_yes rfl rfl rfl (by rw [g23] <;> rfl)) ?_
            refine op_run (r_geq rfl rfl) (g_yes rfl rfl rfl (by rw [g23] <;> rfl)) ?_
            refine o_pkTt rfl (by rw [g23] <;> rfl) rfl ?_
            refine ops_nil ?_
            exact ⟨by (repeat (first | with_reducible exact offM_refl _ _ | refine offM_updc rfl ?_ | refine offM_upd rfl ?_ | refine offM_updo rfl ?_ | refine offM_updo_none ?_ | refine offM_head rfl rfl ?_)), congrArg (fun b => [Value.bool b]) (by have q1 : put = true := (by simpa using g22); have q2 : g.t = false := (by simpa using g23); show decide (vv.q ≤ ((blkS vv.bl).length : Int)) = _; rw [hblen, decide_eq_decide]; exact ⟨fun h => ⟨q1, q2, h⟩, fun h => h.2.2⟩), rfl⟩
          · refine op_skip (g_no rfl rfl rfl (by rw [g23] <;> rfl)) ?_
            refine op_skip (g_no rfl rfl rfl (by rw [g23] <;> rfl)) ?_
            refine op_skip (g_no rfl rfl rfl (by rw [g23] <;> rfl)) ?_
            refine op_skip (g_no rfl rfl rfl (by rw [g23] <;> rfl)) ?_
            refine op_skip (g_no rfl rfl rfl (by rw [g23] <;> rfl)) ?_
            refine op_skip (g_no rfl rfl rfl (by rw [g23] <;> rfl)) ?_
            refine o_pkFc rfl (by rw [g23] <;> rfl) rfl ?_
            refine ops_nil ?_
            exact ⟨by (repeat (first | with_reducible exact offM_refl _ _ | refine offM_updc rfl ?_ | refine offM_upd rfl ?_ | refine offM_updo rfl ?_ | refine offM_updo_none ?_ | refine offM_head rfl rfl ?_)), congrArg (fun b => [Value.bool b]) (by have q2 : g.t = true := (by simpa using g23); symm; apply decide_eq_false; rintro ⟨_, h, _⟩; rw [q2] at h; cases h), rfl⟩
        · refine op_skip (g_no rfl rfl rfl g22) ?_
          refine op_skip (g_no rfl rfl rfl g22) ?_
          refine o_pkFc rfl g22 rfl ?_
          refine o_mvt rfl ?_
          refine op_skip (g_no rfl rfl rfl rfl) ?_
          refine op_skip (g_no rfl rfl rfl rfl) ?_
          refine op_skip (g_no rfl rfl rfl rfl) ?_
          refine op_skip (g_no rfl rfl rfl rfl) ?_
          refine op_skip (g_no rfl rfl rfl rfl) ?_
          refine op_skip (g_no rfl rfl rfl rfl) ?_
          refine o_pkFc rfl rfl rfl ?_
          refine ops_nil ?_
          exact ⟨by (repeat (first | with_reducible exact offM_refl _ _ | refine offM_updc rfl ?_ | refine offM_upd rfl ?_ | refine offM_updo rfl ?_ | refine offM_updo_none ?_ | refine offM_head rfl rfl ?_)), congrArg (fun b => [Value.bool b]) (by have q1 : put = false := (by simpa using g22); symm; apply decide_eq_false; rintro ⟨h, _⟩; rw [q1] at h; cases h), rfl⟩
      · rintro J29 vs w29 ⟨rfl, rfl⟩ -
        refine W_cond rfl (fun h30 => ?_) (fun h30 => ?_)
        · refine W_seq ?_
          have h30 := of_decide_eq_true h30
          refine W_gate 4 (fun w' => Keep All w29 w') (by kernel_rfl) (Keep.drawn w29) (fun hS => ?_)
          refine gt_mvt 0 rfl (by kernel_rfl) (by kernel_rfl) (by kernel_rfl) (by kernel_rfl) rfl hS ?_
          refine gt_run 1 (fun w' hS' => (r_loadA (blkR g.f) rfl rfl rfl (by first | rfl | (rw [binV_len]; rfl) | (rw [dgR_len]; rfl) | (rw [refR_len]; rfl) | (rw [secR_len]; rfl) | (rw [List.length_map, tagF_len]; rfl) | (rw [blkR_len]; rfl) | (rw [imR_len]; rfl) | (rw [nbR_len]; rfl)) ((hS'.blk' hB4C trivial).all))) rfl (by kernel_rfl) (by kernel_rfl) (by kernel_rfl) (by kernel_rfl) rfl hS ?_
          refine gt_ast 3 rfl (by kernel_rfl) (by kernel_rfl) (by kernel_rfl) (by kernel_rfl) rfl hS ?_
          refine gp_mvt 2 rfl (by kernel_rfl) (by kernel_rfl) (by kernel_rfl) (by kernel_rfl) rfl hS ?_
          refine gt_past 4 (by kernel_rfl) (by kernel_rfl) (one_of rfl ?_)
          refine o_storeA (cs := blkR g.f) rfl rfl (by first | rfl | exact binV_one _ | exact dgR_one _ | exact refR_one _ | exact secR_one _ | exact all_c8 _ | exact blkR_one _ | exact imR_one1 rfl | exact nbR_one _) (by first | rfl | (rw [binV_len]; rfl) | (rw [dgR_len]; rfl) | (rw [refR_len]; rfl) | (rw [secR_len]; rfl) | (rw [List.length_map, tagF_len]; rfl) | (rw [blkR_len]; rfl) | (rw [imR_len]; rfl) | (rw [nbR_len]; rfl)) (hS.blk' hB2C trivial) (by exact Nat.le_of_eq (by simp [blkR_len])) rfl ?_; intro w33 hB33 hk33 hs33
          refine ops_nil ?_
          refine gt_past 5 (by kernel_rfl) (by kernel_rfl) (one_of rfl ?_)
          refine o_ast rfl ?_
          refine ops_nil ?_
          refine gt_past 6 (by kernel_rfl) (by kernel_rfl) (one_of rfl ?_)
          refine o_asc rfl ?_
          refine ops_nil ?_
          refine gt_done (by kernel_rfl) ?_
          refine W_ret ?_
          refine retTATT (_) ((blkR g.f)) ((.bool g.t)) ((.int .i64 8)) rfl rfl rfl rfl rfl rfl rfl (by first | rfl | (rw [binV_len]; rfl) | (rw [dgR_len]; rfl) | (rw [refR_len]; rfl) | (rw [secR_len]; rfl) | (rw [List.length_map, tagF_len]; rfl) | (rw [blkR_len]; rfl) | (rw [imR_len]; rfl) | (rw [nbR_len]; rfl)) ((bk_st hB33).all) ?_
          refine setq_same (a := ⟨g.f, g.t, 8⟩) ?_ h ((hk0C.trans hS).new hk33 (by omega))
          have hno : lookP vv.bl n = none := by
            have q := h30.2.1
            rw [hgt] at q
            cases hh : lookP vv.bl n with
            | none => rfl
            | some x => rw [hh] at q; cases q
          rw [h30.1, setR_put he0 hv hvf, if_pos ⟨hno, h30.2.2⟩, hg]
        · refine W_skip ?_
          refine W_seq ?_
          refine W_region ?_
          have h30 := of_decide_eq_false h30
          refine o_bs0 rfl rfl rfl ?_; intro w35 b35 e35 hB35 hk35 hs35
          have hO35 : Own w35 71 33 (.slice (some ⟨b35, 0, none⟩) 0 0) 0 [] := Own.blk hB35 rfl (Nat.zero_le _)
          obtain ⟨tr, htr⟩ : ∃ tr : Bool, (!put) = tr := ⟨_, rfl⟩
          refine o_ast rfl ?_
          refine ops_nil ?_
          refine W_seq ?_
          refine W_region ?_
          refine o_mvt rfl ?_
          refine op_run (r_not rfl) rfl ?_
          refine o_ast rfl ?_
          refine ops_nil ?_
          refine W_seq ?_
          refine W_seq ?_
          refine W_region ?_
          refine o_asc rfl ?_
          refine ops_nil ?_
          refine W_block ?_
          refine W_loop [19, 20, 21] [19, 20, 21, 22, 68, 69, 70, 71, 72, 73, 74, 75, 76, 77, 78, 79, 80, 81, 82, 83, 84, 85, 86, 87, 88, 89, 90, 91, 92, 93, 94, 95, 96, 97, 98, 99, 100, 101] (fun vs w' => ∃ (u : Value) (acc : List (Int × Bk)) (dn : Bool) (k : Nat), vs = [u, .bool dn, .int .i64 k] ∧ k ≤ (blkS vv.bl).length ∧ accN n f tr ((blkS vv.bl).take k) = (acc, dn) ∧ Own w' 71 33 u acc.length (rows nbR acc) ∧ InB (fun z => w29.heap.size ≤ z) u ∧ Keep All w29 w') (fun vs _ => match vs with | [_, _, .int _ y] => (blkS vv.bl).length - y.toNat | _ => 0) ⟨_, [], tr, 0, by rw [← htr]; rfl, Nat.zero_le _, rfl, hO35, (fun z hz => by have hz : some b35 = some z := hz; injection hz with hz; omega), hk35⟩ ?_
          rintro J36 vs w36 ⟨u, acc, dn, k, rfl, hkk, hacc, hOu, hIu, hkA⟩ -
          have hk0A := hk0C.trans hkA
          have hBvA := hkA.blk' hBv trivial
          have hB1A := hkA.blk' hB1C trivial
          have hlt2 := hB2C.lt
          have hz0 := hk0C.size
          refine W_seq ?_
          refine W_seq ?_
          refine W_region ?_
          refine o_mvt rfl ?_
          refine op_run (r_fieldAddr rfl rfl rfl rfl rfl) rfl ?_
          refine op_run (r_load rfl rfl rfl (hBvA.cell rfl)) rfl ?_
          refine op_run (r_len rfl rfl rfl) rfl ?_
          refine op_run (r_lss rfl rfl) rfl ?_
          refine ops_nil ?_
          refine W_cond_p rfl (fun h38 => ?_) (fun h38 => ?_)
          · refine W_skip ?_
            refine W_seq ?_
            refine W_block ?_
            refine W_seq ?_
            refine W_region ?_
            refine op_run (r_fieldAddr rfl rfl rfl rfl rfl) rfl ?_
            have hkl : k < (blkS vv.bl).length := by omega
            obtain ⟨p, pb, po, pc, hp, ep, hcp⟩ := nb_at hbi hkl
            cases ep
            have hinc2 := inc64' k (by omega)
            have htk : (blkS vv.bl).take (k + 1) = (blkS vv.bl).take k ++ [p] := by rw [List.take_succ_eq_append_getElem hkl, (List.getElem?_eq_some_iff.1 hp).2]
            have hal : acc.length ≤ 1001 := by
              have h1 := (accN_len n f tr ((blkS vv.bl).take k)).1
              rw [hacc, List.length_take] at h1
              have h1 : acc.length ≤ min k (blkS vv.bl).length + 1 := h1
              omega
            refine op_run (r_load rfl rfl rfl (hBvA.cell rfl)) rfl ?_
            refine o_mvt rfl ?_
            refine op_run (r_idxS rfl rfl rfl rfl (by omega) (by omega)) rfl ?_
            refine op_run (r_loadA (nbR p) rfl rfl rfl (by first | rfl | (rw [binV_len]; rfl) | (rw [dgR_len]; rfl) | (rw [refR_len]; rfl) | (rw [secR_len]; rfl) | (rw [List.length_map, tagF_len]; rfl) | (rw [blkR_len]; rfl) | (rw [imR_len]; rfl) | (rw [nbR_len]; rfl)) ((fun m u hm => by rw [Int.toNat_natCast]; exact hk0A.cell (hcp m u hm) trivial))) rfl ?_
            refine o_alloc rfl rfl rfl ?_; intro w42 b42 e42 hB42 hk42 hs42
            have hB42' : Blk w42 b42 (nbR (0, Bk.zero)) 71 := hB42
            have hzA := hkA.size
            refine o_storeA (cs := nbR p) rfl rfl (by first | rfl | exact binV_one _ | exact dgR_one _ | exact refR_one _ | exact secR_one _ | exact all_c8 _ | exact blkR_one _ | exact imR_one1 rfl | exact nbR_one _) (by first | rfl | (rw [binV_len]; rfl) | (rw [dgR_len]; rfl) | (rw [refR_len]; rfl) | (rw [secR_len]; rfl) | (rw [List.length_map, tagF_len]; rfl) | (rw [blkR_len]; rfl) | (rw [imR_len]; rfl) | (rw [nbR_len]; rfl)) hB42' (by exact Nat.le_of_eq (by simp [nbR_len])) rfl ?_; intro w43 hB43 hk43 hs43
            have hB43' : Blk w43 b42 (nbR p) 71 := by
              have h := hB43
              rwa [splice_all (by rw [nbR_len, nbR_len])] at h
            have hkB : Keep All w29 w43 := (hkA.trans hk42).new hk43 (by omega)
            have hO43 : Own w43 71 33 u acc.length (rows nbR acc) := (hOu.keep hk42 (fun _ _ => trivial)).keep hk43 (fun z hz => by have := hOu.lt z hz; omega)
            have hB1X := hkB.blk' hB1C trivial
            have hne0 : some b42 ≠ u.ownBlock := fun e => by have := hOu.lt b42 e.symm; omega
            refine ops_nil ?_
            refine W_cut [19, 20] [19, 20, 80, 81, 82, 83, 84, 85, 86, 87, 88, 89, 90, 91, 92, 93] (fun vs w44 => ∃ (u1 : Value) (acc1 : List (Int × Bk)) (dn1 : Bool), vs = [u1, .bool dn1] ∧ (acc1, dn1) = (if dn = false ∧ n ≤ p.1 then (acc ++ [(n, f)], true) else (acc, dn)) ∧ Own w44 71 33 u1 acc1.length (rows nbR acc1) ∧ InB (fun z => w29.heap.size ≤ z) u1 ∧ Keep All w29 w44 ∧ Blk w44 b42 (nbR p) 71 ∧ acc1.length ≤ 1002 ∧ w43.heap.size ≤ w44.heap.size) ?_ ?_
            · refine W_cut [87] [80, 81, 82, 83, 84, 85, 86, 87] (fun vs w45 => vs = [.bool (decide (dn = false ∧ n ≤ p.1))] ∧ w45 = w43) ?_ ?_
              · refine W_region ?_
                refine o_mvt rfl ?_
                refine op_run (r_not rfl) rfl ?_
                refine o_mvt rfl ?_
                refine g_split rfl rfl rfl (fun g46 => ?_) (fun g46 => ?_)
                · refine op_run (r_fieldAddr rfl rfl rfl rfl rfl) (g_yes rfl rfl rfl (by rw [g46] <;> rfl)) ?_
                  refine op_run (r_load rfl rfl rfl (hB43'.cell rfl)) (g_yes rfl rfl rfl (by rw [g46] <;> rfl)) ?_
                  refine o_mvt (g_yes rfl rfl rfl (by rw [g46] <;> rfl)) ?_
                  refine op_run (r_geq rfl rfl) (g_yes rfl rfl rfl (by rw [g46] <;> rfl)) ?_
                  refine o_pkTt rfl (by rw [g46] <;> rfl) rfl ?_
                  refine ops_nil ?_
                  exact ⟨by (repeat (first | with_reducible exact offM_refl _ _ | refine offM_updc rfl ?_ | refine offM_upd rfl ?_ | refine offM_updo rfl ?_ | refine offM_updo_none ?_ | refine offM_head rfl rfl ?_)), congrArg (fun b => [Value.bool b]) (by have g : dn = false := (by simpa using g46); rw [decide_eq_decide]; exact ⟨fun h => ⟨g, h⟩, fun h => h.2⟩), rfl⟩
                · refine op_skip (g_no rfl rfl rfl (by rw [g46] <;> rfl)) ?_
                  refine op_skip (g_no rfl rfl rfl (by rw [g46] <;> rfl)) ?_
                  refine op_skip (g_no rfl rfl rfl (by rw [g46] <;> rfl)) ?_
                  refine op_skip (g_no rfl rfl rfl (by rw [g46] <;> rfl)) ?_
                  refine o_pkFc rfl (by rw [g46] <;> rfl) rfl ?_
                  refine ops_nil ?_
                  exact ⟨by (repeat (first | with_reducible exact offM_refl _ _ | refine offM_updc rfl ?_ | refine offM_upd rfl ?_ | refine offM_updo rfl ?_ | refine offM_updo_none ?_ | refine offM_head rfl rfl ?_)), congrArg (fun b => [Value.bool b]) (by have g : dn = true := (by simpa using g46); symm; apply decide_eq_false; rintro ⟨h, _⟩; rw [g] at h; cases h), rfl⟩
              · rintro J50 vs w50 ⟨rfl, rfl⟩ -
                refine W_cond_p rfl (fun h51 => ?_) (fun h51 => ?_)
                · refine W_seq ?_
                  refine W_region ?_
                  refine o_mvt rfl ?_
                  refine o_mvt rfl ?_
                  refine op_run (r_loadA (blkR f) rfl rfl rfl (by first | rfl | (rw [binV_len]; rfl) | (rw [dgR_len]; rfl) | (rw [refR_len]; rfl) | (rw [secR_len]; rfl) | (rw [List.length_map, tagF_len]; rfl) | (rw [blkR_len]; rfl) | (rw [imR_len]; rfl) | (rw [nbR_len]; rfl)) (hB1X.all)) rfl ?_
                  refine op_run (r_build (nbR (n, f)) (_) ([(0, .int .i64 n), (1, .agg (blkR f).toArray)]) rfl rfl rfl rfl rfl (fill_two rfl rfl rfl (blkR_len _))) rfl ?_
                  refine o_bsR nbR nbR_len [(n, f)] rfl ti_nb rfl rfl rfl rfl rfl rfl ?_; intro w54 b54 e54 hB54 hk54 hs54
                  refine o_app (v := u) (c := 1) (m := acc.length) (k := 1) (rows nbR [(n, f)]) rfl rfl rfl ti_nb rfl (by decide) (hO43.keep hk54 (fun _ _ => trivial)) (by rw [rows_len nbR_len]; rfl) hB54.all (rows_one nbR_one _) (by unfold maxLen; omega) (by omega) rfl ?_; intro v55 w55 hown55 hk55 hb55
                  refine o_ast rfl ?_
                  refine ops_nil ?_
                  refine W_region ?_
                  refine o_asc rfl ?_
                  refine ops_nil ?_
                  refine ⟨by (repeat (first | with_reducible exact offM_refl _ _ | refine offM_updc rfl ?_ | refine offM_upd rfl ?_ | refine offM_updo rfl ?_ | refine offM_updo_none ?_ | refine offM_head rfl rfl ?_)), ⟨v55, acc ++ [(n, f)], true, rfl, by rw [if_pos h51], ?_, ?_, ?_, ?_, ?_, ?_⟩⟩
                  · rw [List.length_append, rows_app]; exact hown55
                  · intro z hz
                    rcases hb55 z hz with h | h
                    · exact hIu z h
                    · have := hkB.size; have := hk54.size; omega
                  · exact (hkB.trans hk54).own hk55 (fun z hz _ => hIu z hz)
                  · exact hk55.blk' (hk54.blk' hB43' trivial) hne0
                  · rw [List.length_append]; show acc.length + 1 ≤ 1002; omega
                  · have := hk54.size; have := hk55.size; omega
                · refine W_skip ?_
                  exact ⟨by (repeat (first | with_reducible exact offM_refl _ _ | refine offM_updc rfl ?_ | refine offM_upd rfl ?_ | refine offM_updo rfl ?_ | refine offM_updo_none ?_ | refine offM_head rfl rfl ?_)), ⟨u, acc, dn, rfl, by rw [if_neg h51], hO43, hIu, hkB, hB43', by omega, Nat.le_refl _⟩⟩
            · rintro J58 vs w58 ⟨u1, acc1, dn1, rfl, hph, hO1, hI1, hkC, hBp, hal1, hzC⟩ -
              refine W_seq ?_
              refine W_region ?_
              refine op_run (r_fieldAddr rfl rfl rfl rfl rfl) rfl ?_
              refine op_run (r_load rfl rfl rfl (hBp.cell rfl)) rfl ?_
              refine o_mvt rfl ?_
              refine op_run (r_neq rfl rfl) rfl ?_
              refine ops_nil ?_
              refine W_cond_p rfl (fun h60 => ?_) (fun h60 => ?_)
              · refine W_region ?_
                refine o_mvt rfl ?_
                refine op_run (r_loadA (nbR p) rfl rfl rfl (by first | rfl | (rw [binV_len]; rfl) | (rw [dgR_len]; rfl) | (rw [refR_len]; rfl) | (rw [secR_len]; rfl) | (rw [List.length_map, tagF_len]; rfl) | (rw [blkR_len]; rfl) | (rw [imR_len]; rfl) | (rw [nbR_len]; rfl)) (hBp.all)) rfl ?_
                refine o_bsR nbR nbR_len [p] rfl ti_nb rfl rfl rfl rfl rfl rfl ?_; intro w62 b62 e62 hB62 hk62 hs62
                refine o_app (v := u1) (c := 1) (m := acc1.length) (k := 1) (rows nbR [p]) rfl rfl rfl ti_nb rfl (by decide) (hO1.keep hk62 (fun _ _ => trivial)) (by rw [rows_len nbR_len]; rfl) hB62.all (rows_one nbR_one _) (by unfold maxLen; omega) (by omega) rfl ?_; intro v63 w63 hown63 hk63 hb63
                refine o_ast rfl ?_
                refine ops_nil ?_
                refine W_region ?_
                refine o_mvt rfl ?_
                refine op_run (r_add rfl rfl) rfl ?_
                refine o_ast rfl ?_
                refine ops_nil ?_
                refine ⟨by (repeat (first | with_reducible exact offM_refl _ _ | refine offM_updc rfl ?_ | refine offM_upd rfl ?_ | refine offM_updo rfl ?_ | refine offM_updo_none ?_ | refine offM_head rfl rfl ?_)), ⟨v63, acc1 ++ [p], dn1, k + 1, congrArg (fun z : Int => [_, _, Value.int .i64 z]) hinc2, by omega, ?_, ?_, ?_, ?_⟩, ?_⟩
                · rw [htk, accN_snoc, hacc]
                  show (if p.1 ≠ n then ((if dn = false ∧ n ≤ p.1 then (acc ++ [(n, f)], true) else (acc, dn)).1 ++ [p], (if dn = false ∧ n ≤ p.1 then (acc ++ [(n, f)], true) else (acc, dn)).2) else _) = _
                  rw [if_pos h60, ← hph]
                · rw [List.length_append, rows_app]; exact hown63
                · intro z hz
                  rcases hb63 z hz with h | h
                  · exact hI1 z h
                  · have := hkC.size; have := hk62.size; omega
                · exact (hkC.trans hk62).own hk63 (fun z hz _ => hI1 z hz)
                · show (blkS vv.bl).length - (IntKind.i64.wrap ((k : Int) + 1)).toNat < (blkS vv.bl).length - (k : Int).toNat
                  rw [hinc2]; omega
              · refine W_skip ?_
                refine W_region ?_
                refine o_mvt rfl ?_
                refine op_run (r_add rfl rfl) rfl ?_
                refine o_ast rfl ?_
                refine ops_nil ?_
                refine ⟨by (repeat (first | with_reducible exact offM_refl _ _ | refine offM_updc rfl ?_ | refine offM_upd rfl ?_ | refine offM_updo rfl ?_ | refine offM_updo_none ?_ | refine offM_head rfl rfl ?_)), ⟨u1, acc1, dn1, k + 1, congrArg (fun z : Int => [_, _, Value.int .i64 z]) hinc2, by omega, ?_, hO1, hI1, hkC⟩, ?_⟩
                · rw [htk, accN_snoc, hacc]
                  show (if p.1 ≠ n then _ else (if dn = false ∧ n ≤ p.1 then (acc ++ [(n, f)], true) else (acc, dn))) = _
                  rw [if_neg h60, ← hph]
                · show (blkS vv.bl).length - (IntKind.i64.wrap ((k : Int) + 1)).toNat < (blkS vv.bl).length - (k : Int).toNat
                  rw [hinc2]; omega
          · refine W_exit ?_
            have hke : k = (blkS vv.bl).length := by omega
            rw [hke, List.take_length] at hacc
            have hal : acc.length ≤ 1001 := by
              have h1 := (accN_len n f tr (blkS vv.bl)).1
              rw [hacc] at h1
              have h1 : acc.length ≤ (blkS vv.bl).length + 1 := h1
              omega
            refine W_cut [19] [19, 102, 103, 104, 105, 106, 107, 108, 109] (fun vs w66 => ∃ u1 : Value, vs = [u1] ∧ Own w66 71 33 u1 (finN n f tr (blkS vv.bl)).length (rows nbR (finN n f tr (blkS vv.bl))) ∧ InB (fun z => w29.heap.size ≤ z) u1 ∧ Keep All w29 w66) ?_ ?_
            · refine W_seq ?_
              refine W_region ?_
              refine o_mvt rfl ?_
              refine op_run (r_not rfl) rfl ?_
              refine ops_nil ?_
              refine W_cond rfl (fun h67 => ?_) (fun h67 => ?_)
              · refine W_region ?_
                refine o_mvt rfl ?_
                refine o_mvt rfl ?_
                refine op_run (r_loadA (blkR f) rfl rfl rfl (by first | rfl | (rw [binV_len]; rfl) | (rw [dgR_len]; rfl) | (rw [refR_len]; rfl) | (rw [secR_len]; rfl) | (rw [List.length_map, tagF_len]; rfl) | (rw [blkR_len]; rfl) | (rw [imR_len]; rfl) | (rw [nbR_len]; rfl)) (hB1A.all)) rfl ?_
                refine op_run (r_build (nbR (n, f)) (_) ([(0, .int .i64 n), (1, .agg (blkR f).toArray)]) rfl rfl rfl rfl rfl (fill_two rfl rfl rfl (blkR_len _))) rfl ?_
                refine o_bsR nbR nbR_len [(n, f)] rfl ti_nb rfl rfl rfl rfl rfl rfl ?_; intro w70 b70 e70 hB70 hk70 hs70
                refine o_app (v := u) (c := 1) (m := acc.length) (k := 1) (rows nbR [(n, f)]) rfl rfl rfl ti_nb rfl (by decide) (hOu.keep hk70 (fun _ _ => trivial)) (by rw [rows_len nbR_len]; rfl) hB70.all (rows_one nbR_one _) (by unfold maxLen; omega) (by omega) rfl ?_; intro v71 w71 hown71 hk71 hb71
                refine o_ast rfl ?_
                refine ops_nil ?_
                have hfin : finN n f tr (blkS vv.bl) = acc ++ [(n, f)] := by
                  unfold finN; rw [hacc]; exact if_pos (by simpa using h67)
                refine ⟨by (repeat (first | with_reducible exact offM_refl _ _ | refine offM_updc rfl ?_ | refine offM_upd rfl ?_ | refine offM_updo rfl ?_ | refine offM_updo_none ?_ | refine offM_head rfl rfl ?_)), v71, rfl, ?_, ?_, ?_⟩
                · rw [hfin, List.length_append, rows_app]; exact hown71
                · intro z hz
                  rcases hb71 z hz with h | h
                  · exact hIu z h
                  · have := hkA.size; have := hk70.size; omega
                · exact (hkA.trans hk70).own hk71 (fun z hz _ => hIu z hz)
              · refine W_skip ?_
                have hfin : finN n f tr (blkS vv.bl) = acc := by
                  unfold finN; rw [hacc]; exact if_neg (by have h : dn = true := (by simpa using h67); rw [h]; simp)
                exact ⟨by (repeat (first | with_reducible exact offM_refl _ _ | refine offM_updc rfl ?_ | refine offM_upd rfl ?_ | refine offM_updo rfl ?_ | refine offM_updo_none ?_ | refine offM_head rfl rfl ?_)), u, rfl, by rw [hfin]; exact hOu, hIu, hkA⟩
            · rintro J74 vs w74 ⟨u1, rfl, hOf, hIf, hkF⟩ -
              have hk0F := hk0C.trans hkF
              have hzF := hkF.size
              refine W_seq ?_
              refine W_region ?_
              refine o_bs0 rfl rfl rfl ?_; intro w75 b75 e75 hB75 hk75 hs75
              have hB75e : Own w75 69 4 (.slice (some ⟨b75, 0, none⟩) 0 0) 0 [] := Own.blk hB75 rfl (Nat.zero_le _)
              refine o_mvt rfl ?_
              refine o_appS (v := .slice (some ⟨b75, 0, none⟩) 0 0) rfl rfl (h.k (hk0F.trans hk75)).o rfl ti_im rfl rfl hB75e (rowsIm_one fun y hy => imgs_ones h y hy) (by unfold maxLen; omega) (by omega) rfl ?_; intro v76 w76 hown76 hk76 hb76
              have hk0G : Keep All w w76 := (hk0F.trans hk75).own hk76 (fun z hz _ => by have hz : some b75 = some z := hz; injection hz with hz; have := hk0F.size; omega)
              have hown76 : Own w76 69 4 v76 (imgD l).length (rows imR ys) := by
                have h := hown76
                rw [Nat.zero_add, List.nil_append] at h; exact h
              obtain ⟨gg, gc, ex, eg, hgc1, hgc2, hBg, hgo⟩ := hown76.open (by omega)
              subst eg
              have hgF : w74.heap.size ≤ gg := by
                rcases hb76 gg rfl with h | h
                · have h : some b75 = some gg := h; injection h with h; omega
                · have := hk75.size; omega
              have hyl := h.len
              have hrl : (rows imR ys).length = (imgD l).length * 4 := by rw [rows_len imR_len, hyl]
              refine o_ast rfl ?_
              refine ops_nil ?_
              refine W_seq ?_
              refine W_region ?_
              refine o_mvt rfl ?_
              refine o_mvt rfl ?_
              refine o_mvt rfl ?_
              refine op_run (r_idxS rfl rfl rfl rfl (by omega) (by omega)) rfl ?_
              refine op_run (r_fieldAddr rfl rfl rfl rfl rfl) rfl ?_
              refine o_store (v := u1) rfl rfl (own_one hOf) rfl hBg (by rw [List.length_append, hrl, Int.toNat_natCast]; show 0 + ki * 4 + 3 < _; omega) rfl ?_; intro w78 hB78 hk78 hs78
              have hO1f : Own w78 71 33 u1 (finN n f tr (blkS vv.bl)).length (rows nbR (finN n f tr (blkS vv.bl))) := ((hOf.keep hk75 (fun _ _ => trivial)).keep hk76 (fun z hz e => by
                have e : some z = some b75 := e
                injection e with e
                have := hOf.lt z hz
                omega)).keep hk78 (fun z hz => by have := hOf.lt z hz; omega)
              have hk0H : Keep All w w78 := hk0G.new hk78 (by have := hk0F.size; omega)
              have hmv : ∀ {x : Nat} {cs : List Value} {t : TypeId}, Blk w29 x cs t → Blk w78 x cs t := fun {x cs t} hB => hk78.blk' (hk76.blk' (hk75.blk' (hkF.blk' hB trivial) trivial) (fun e => by have e : some x = some b75 := e; injection e with e; have := hB.lt; omega)) (show x ≠ gg by have := hB.lt; omega)
              have hB2H := hmv hB2C
              have hB4H := hmv hB4C
              have hBg2 : Blk w78 gg (rows imR (ys.set ki (⟨nm, vv.q, vv.fr, finN n f tr (blkS vv.bl)⟩, u1)) ++ ex) 69 := by
                have h := hB78
                rw [Int.toNat_natCast] at h
                have h : Blk w78 gg ((rows imR ys ++ ex).set (0 + ki * 4 + 3) u1) 69 := h
                rw [Nat.zero_add, List.set_append_left _ _ (by rw [hrl]; omega), rows_set3 (i' := ⟨nm, vv.q, vv.fr, finN n f tr (blkS vv.bl)⟩) hy0 rfl rfl rfl] at h
                exact h
              refine ops_nil ?_
              refine W_seq ?_
              refine W_gate 4 (fun w' => Keep All w78 w') (by kernel_rfl) (Keep.drawn w78) (fun hS => ?_)
              refine gt_mvt 0 rfl (by kernel_rfl) (by kernel_rfl) (by kernel_rfl) (by kernel_rfl) rfl hS ?_
              refine gt_run 1 (fun w' hS' => (r_loadA (blkR g.f) rfl rfl rfl (by first | rfl | (rw [binV_len]; rfl) | (rw [dgR_len]; rfl) | (rw [refR_len]; rfl) | (rw [secR_len]; rfl) | (rw [List.length_map, tagF_len]; rfl) | (rw [blkR_len]; rfl) | (rw [imR_len]; rfl) | (rw [nbR_len]; rfl)) ((hS'.blk' hB4H trivial).all))) rfl (by kernel_rfl) (by kernel_rfl) (by kernel_rfl) (by kernel_rfl) rfl hS ?_
              refine gt_ast 3 rfl (by kernel_rfl) (by kernel_rfl) (by kernel_rfl) (by kernel_rfl) rfl hS ?_
              refine gp_mvt 2 rfl (by kernel_rfl) (by kernel_rfl) (by kernel_rfl) (by kernel_rfl) rfl hS ?_
              refine gt_past 4 (by kernel_rfl) (by kernel_rfl) (one_of rfl ?_)
              refine o_storeA (cs := blkR g.f) rfl rfl (by first | rfl | exact binV_one _ | exact dgR_one _ | exact refR_one _ | exact secR_one _ | exact all_c8 _ | exact blkR_one _ | exact imR_one1 rfl | exact nbR_one _) (by first | rfl | (rw [binV_len]; rfl) | (rw [dgR_len]; rfl) | (rw [refR_len]; rfl) | (rw [secR_len]; rfl) | (rw [List.length_map, tagF_len]; rfl) | (rw [blkR_len]; rfl) | (rw [imR_len]; rfl) | (rw [nbR_len]; rfl)) (hS.blk' hB2H trivial) (by exact Nat.le_of_eq (by simp [blkR_len])) rfl ?_; intro w81 hB81 hk81 hs81
              refine ops_nil ?_
              refine gt_past 5 (by kernel_rfl) (by kernel_rfl) (one_of rfl ?_)
              refine o_ast rfl ?_
              refine ops_nil ?_
              refine gt_past 6 (by kernel_rfl) (by kernel_rfl) (one_of rfl ?_)
              refine o_asc rfl ?_
              refine ops_nil ?_
              refine gt_done (by kernel_rfl) ?_
              refine W_ret ?_
              refine retTATT ((.slice (some ⟨gg, 0, none⟩) (imgD l).length gc)) ((blkR g.f)) ((.bool g.t)) ((.int .i64 0)) rfl rfl rfl rfl rfl rfl rfl (by first | rfl | (rw [binV_len]; rfl) | (rw [dgR_len]; rfl) | (rw [refR_len]; rfl) | (rw [secR_len]; rfl) | (rw [List.length_map, tagF_len]; rfl) | (rw [blkR_len]; rfl) | (rw [imR_len]; rfl) | (rw [nbR_len]; rfl)) ((bk_st hB81).all) ?_
              have hkZ := (hk0H.trans hS).new hk81 (by omega)
              have hOg := hgo w78 _ hBg2 (by rw [rows_len imR_len, rows_len imR_len, List.length_set])
              have hI : ImgsS w81 (.slice (some ⟨gg, 0, none⟩) (imgD l).length gc) ((imgD l).set ki ⟨nm, vv.q, vv.fr, finN n f tr (blkS vv.bl)⟩) (ys.set ki (⟨nm, vv.q, vv.fr, finN n f tr (blkS vv.bl)⟩, u1)) := by
                have hlt2 := hB2C.lt
                refine ⟨by rw [List.map_set, h.e], ?_, fun y hy => ?_⟩
                · rw [List.length_set]
                  exact (hOg.sl.keep hS (fun _ _ => trivial)).keep hk81 (fun z hz => by have hz : some gg = some z := hz; injection hz with hz; omega)
                · rcases List.mem_or_eq_of_mem_set hy with hy | rfl
                  · exact (h.b y hy).keep hkZ (fun _ _ => trivial)
                  · exact (hO1f.sl.keep hS (fun _ _ => trivial)).keep hk81 (fun z hz => by have := hIf z hz; omega)
              have key : ∀ bl', blkS bl' = finN n f tr (blkS vv.bl) → (imgD l).set ki ⟨nm, vv.q, vv.fr, finN n f tr (blkS vv.bl)⟩ = imgD (putA l nm bl') := fun bl' e => by rw [← e]; exact imgD_put hN.1 hv hki
              have hge0 : g.e = 0 := by rw [← hg]; exact he0
              cases hput : put with
              | false =>
                have et : tr = true := by rw [← htr, hput]; rfl
                rw [key (delP vv.bl n) (by rw [et]; exact blkS_del hvb _ _)] at hI
                refine ⟨⟨_, _, ?_, by rw [setR_drop he0 hv hvf]; exact hI⟩, hkZ⟩
                rw [setR_drop he0 hv hvf, hg]; show _ = RV.v4 g _; unfold RV.v4; rw [hge0]
              | true =>
                have et : tr = false := by rw [← htr, hput]; rfl
                rw [key (setP vv.bl n f) (by rw [et]; exact blkS_set hvb _ _)] at hI
                have hno : ¬ (lookP vv.bl n = none ∧ vv.q ≤ vv.bl.length) := fun hh => h30 ⟨hput, by rw [hgt, hh.1]; rfl, hh.2⟩
                refine ⟨⟨_, _, ?_, by rw [setR_put he0 hv hvf, if_neg hno]; exact hI⟩, hkZ⟩
                rw [setR_put he0 hv hvf, if_neg hno, hg]; show _ = RV.v4 g _; unfold RV.v4; rw [hge0]
end Go.Proofs.YtkmciohghhffnaaGreat.B
