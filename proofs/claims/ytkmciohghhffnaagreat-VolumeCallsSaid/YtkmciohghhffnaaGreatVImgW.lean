/-
  volume: All: the walk.
-/
import Derived.Test.YtkmciohghhffnaaGreatVImg
namespace Go.Proofs.YtkmciohghhffnaaGreat.B
open Go
set_option linter.unusedVariables false
set_option maxHeartbeats 2000000
set_option maxRecDepth 100000
attribute [local irreducible] W OpsW OpsQ retP
theorem own_one {w : World} {e sz n : Nat} {v : Value} {xs : List Value} (h : Own w e sz v n xs) : one v = true := by obtain ⟨_, _, rfl, _⟩ := h.form; rfl
theorem names_look {l : ModL} {nm : List UInt8} (h : nm ∈ namesD (abs l)) : ∃ v, lookP l nm = some v := by
  have h1 : nm ∈ (abs l).map (·.1) := ((List.mergeSort_perm _ _).mem_iff).1 h
  rw [← abs_names, mapP_keys] at h1
  obtain ⟨x, hx, e⟩ := List.mem_map.1 h1
  cases hv : lookP l nm with
  | some v => exact ⟨v, rfl⟩
  | none => exact absurd e (lookP_none hv x hx)
theorem volR_one {q : Int} {fr : Bool} {x : Value} (h : one x = true) : (volR q fr x).all one = true := by show (true && (true && (one x && true))) = true; rw [h]; rfl
theorem vol_st {w : World} {b : Nat} {q q' : Int} {fr fr' : Bool} {x x' : Value} (h : Blk w b (splice (volR q fr x) 0 (volR q' fr' x')) 66) : Blk w b (volR q' fr' x') 66 := h
theorem md_Images (w : World) (mb bm : Nat) (l : ModL) (h : ModW w mb bm l) (hsm : SmallM (abs l)) (hbk : BlkN 1000 (abs l)) :
    Ret Tryz.prog 11 [.pointer (some ⟨mb, 0, none⟩)].toArray w fun r w' => (∃ ys, ImgsO w' r (imgD (abs l)) ys) ∧ InB (fun z => w.heap.size ≤ z) r ∧ Keep All w w' := by
  have hl8 : ∀ x ∈ mapP ptrV l, x.1.length ≤ maxLen := fun x hx => by
    have : x.1 ∈ (mapP ptrV l).map (·.1) := List.mem_map.2 ⟨x, hx, rfl⟩
    rw [abs_names] at this
    obtain ⟨y, hy, e⟩ := List.mem_map.1 this
    have := hsm.2 y hy
    rw [e] at this
    unfold maxLen; omega
  have hlen : (mapP ptrV l).length = l.length := by unfold mapP; simp
  have hla : (abs l).length = l.length := by unfold abs mapP; simp
  have hl1 : l.length ≤ 1000 := by have := hsm.1; omega
  have hn8 : (mapP ptrV l).length ≤ 1000000 := by omega
  have hnl : (namesD (abs l)).length = l.length := by rw [namesD_len, hla]
  refine enter (fn := Tryz.f11) (n := 59) Tryz.func11 rfl rfl (by simp) ?_
  refine W_seq ?_
  refine W_region ?_
  refine o_asc rfl ?_
  refine ops_nil ?_
  refine W_seq ?_
  refine W_seq ?_
  refine W_region ?_
  refine o_mvt rfl ?_
  refine op_run (r_nilCheck rfl) rfl ?_
  refine op_run (r_fieldAddr rfl rfl rfl rfl rfl) rfl ?_
  refine op_run (r_load rfl rfl rfl (h.m.cell rfl)) rfl ?_
  refine op_call rfl rfl rfl (sl_keysS w bm) ?_; rintro v2 w2 ⟨rfl, rfl⟩
  refine op_call rfl rfl rfl (sl_sortedS w bm _ h.vs hl8 hn8) ?_; rintro v3 w3 ⟨hS, hI, hkS⟩
  obtain ⟨sa, sc, es, _, hscm⟩ := Sl.form hS
  subst es
  rw [abs_names, hlen] at hS
  rw [hlen]
  refine op_run (r_len rfl rfl rfl) rfl ?_
  refine o_mvc rfl ?_
  refine ops_nil ?_
  refine W_block ?_
  refine W_loop [2, 16] [2, 4, 5, 6, 8, 16, 17, 18, 19, 20, 21, 22, 23, 24, 25, 26, 27, 28, 29, 30, 31, 32, 33, 34, 35, 36, 37, 38, 39, 40, 41, 42, 43, 44, 45, 46, 47, 48, 49, 50, 51, 52, 53, 54, 55, 56, 57] (fun vs w' => ∃ (k : Nat) (v : Value) (ys : List (Img × Value)), vs = [v, .int .i64 k] ∧ k ≤ l.length ∧ ImgsO w' v ((imgD (abs l)).take k) ys ∧ InB (fun z => w3.heap.size ≤ z) v ∧ Keep All w3 w') (fun vs _ => match vs with | [_, .int _ y] => l.length - y.toNat | _ => 0) ⟨0, .slice none 0 0, [], rfl, Nat.zero_le _, ⟨rfl, own_nil _ _ _, fun y hy => by cases hy⟩, InB.nil, Keep.refl _⟩ ?_
  rintro J4 vs w4 ⟨k, v, ys, rfl, hk, hO, hIv, hkw⟩ -
  refine W_seq ?_
  refine W_region ?_
  refine op_run (r_lss rfl rfl) rfl ?_
  refine ops_nil ?_
  refine W_seq ?_
  refine W_cond_p rfl (fun h5 => ?_) (fun h5 => ?_)
  · refine W_skip ?_
    refine W_seq ?_
    refine W_block ?_
    refine W_seq ?_
    refine W_region ?_
    have hkl : k < l.length := by omega
    obtain ⟨nm, hnm⟩ : ∃ nm, (namesD (abs l))[k]? = some nm := ⟨_, List.getElem?_eq_getElem (by omega)⟩
    have hnm2 : (sortS ((abs l).map (·.1)))[k]? = some nm := hnm
    obtain ⟨v0, hv0⟩ := names_look (List.mem_of_getElem? hnm)
    have hlk : (getA (mapP ptrV l) nm).getD (.agg (volR 0 false (.map none)).toArray) = ptrV v0 := by rw [getA_look, hv0]; rfl
    obtain ⟨nb_, noff, nc, en, _, _, hcell⟩ := hS.at (by omega)
    cases en
    have hinc := inc64' k (by omega)
    have h4 := h.k (hkS.trans hkw)
    have hV : VolW w4 v0 := h4.v _ (lookP_mem hv0)
    have hva : lookP (abs l) nm = some v0.a := by rw [look_abs, hv0]; rfl
    have hbv := hbk _ (lookP_mem hva)
    have hbl : v0.bl.length ≤ 1000 := hbv.1
    refine op_run (r_idxS1 rfl rfl rfl rfl (by omega) (by omega)) rfl ?_
    refine op_run (r_load rfl rfl rfl (by rw [Int.toNat_natCast]; exact hkw.cell (hcell k (strA nm) (by rw [List.getElem?_map, hnm2]; rfl)) trivial)) rfl ?_
    refine o_ast rfl ?_
    refine ops_nil ?_
    refine W_seq ?_
    refine W_region ?_
    refine o_mvt rfl ?_
    refine op_run (r_nilCheck rfl) rfl ?_
    refine op_run (r_fieldAddr rfl rfl rfl rfl rfl) rfl ?_
    refine op_run (r_load rfl rfl rfl (h4.m.cell rfl)) rfl ?_
    refine o_mvt rfl ?_
    refine op_run ((r_lookupG (a := nm) (keyOk_strA rfl) rfl rfl rfl ti_ptrV (h4.vs)).val (hlk)) rfl ?_
    refine o_alloc rfl rfl rfl ?_; intro w10 b10 e10 hB10 hk10 hs10
    have hB10' : Blk w10 b10 (volR 0 false (.map none)) 66 := hB10
    refine o_storeA (cs := volR v0.q v0.fr (.map (some v0.xa))) rfl rfl (by first | rfl | exact binV_one _ | exact dgR_one _ | exact refR_one _ | exact secR_one _ | exact all_c8 _ | exact volR_one rfl) (by first | rfl | (rw [binV_len]; rfl) | (rw [dgR_len]; rfl) | (rw [refR_len]; rfl) | (rw [secR_len]; rfl) | (rw [List.length_map, tagF_len]; rfl) | (rw [nbR_len]; rfl)) hB10' (by show 0 + 3 ≤ 3; decide) rfl ?_; intro w11 hB11 hk11 hs11
    have hB11' : Blk w11 b10 (volR v0.q v0.fr (.map (some v0.xa))) 66 := vol_st hB11
    have hk411 : Keep All w4 w11 := hk10.new hk11 (by omega)
    refine ops_nil ?_
    refine W_seq ?_
    refine W_region ?_
    refine o_mvt rfl ?_
    refine op_run (r_fieldAddr rfl rfl rfl rfl rfl) rfl ?_
    refine op_run (r_load rfl rfl rfl (hB11'.cell rfl)) rfl ?_
    refine op_run (r_fieldAddr rfl rfl rfl rfl rfl) rfl ?_
    refine op_run (r_load rfl rfl rfl (hB11'.cell rfl)) rfl ?_
    refine op_run (r_build (imR (⟨nm, v0.q, v0.fr, []⟩, .slice none 0 0)) (_) ([(0, strA nm), (1, .int .i64 v0.q), (2, .bool v0.fr)]) rfl rfl rfl rfl rfl (rfl)) rfl ?_
    refine o_alloc rfl rfl rfl ?_; intro w15 b15 e15 hB15 hk15 hs15
    refine o_storeA (cs := imR (⟨nm, v0.q, v0.fr, []⟩, .slice none 0 0)) rfl rfl (by first | rfl | exact binV_one _ | exact dgR_one _ | exact refR_one _ | exact secR_one _ | exact all_c8 _ | exact volR_one rfl) (by first | rfl | (rw [binV_len]; rfl) | (rw [dgR_len]; rfl) | (rw [refR_len]; rfl) | (rw [secR_len]; rfl) | (rw [List.length_map, tagF_len]; rfl) | (rw [nbR_len]; rfl)) hB15 (by exact Nat.le_refl _) rfl ?_; intro w16 hB16 hk16 hs16
    have hk416 : Keep All w4 w16 := (hk411.trans hk15).new hk16 (by have := hk411.size; omega)
    have hB16' : Blk w16 b15 (imR (⟨nm, v0.q, v0.fr, []⟩, .slice none 0 0)) 69 := hB16
    have hlt10 := hB11'.lt
    have hB1016 := hk16.blk' (hk15.blk' hB11' trivial) (show b10 ≠ b15 by omega)
    have hV16 := hV.k hk416
    have hz411 := hk411.size
    refine ops_nil ?_
    refine W_seq ?_
    refine W_seq ?_
    refine W_region ?_
    refine op_run (r_fieldAddr rfl rfl rfl rfl rfl) rfl ?_
    refine op_run (r_load rfl rfl rfl (hB1016.cell rfl)) rfl ?_
    refine op_call rfl rfl rfl (sl_keysI w16 v0.xa) ?_; rintro v18 w18 ⟨rfl, rfl⟩
    refine op_call rfl rfl rfl (sl_sortedI w16 v0.xa _ hV16.2 (fun x hx => by obtain ⟨p, hp, rfl⟩ := List.mem_map.1 hx; exact hbv.2 p hp) (by unfold mapP; rw [List.length_map]; omega)) ?_; rintro v19 w19 ⟨hSI, hII, hkI⟩
    obtain ⟨ia, ic, ei, _, hicm⟩ := Sl.form hSI
    subst ei
    rw [mapP_keys, show (mapP bkV v0.bl).length = v0.bl.length by unfold mapP; simp] at hSI
    rw [show (mapP bkV v0.bl).length = v0.bl.length by unfold mapP; simp]
    have hB19 := hkI.blk' hB16' trivial
    have hB1019 := hkI.blk' hB1016 trivial
    have hz416 := hk416.size
    have hzI := hkI.size
    have hl15 := hB16'.lt
    have hnn : (sortI (v0.bl.map (·.1))).length = v0.bl.length := by unfold sortI; rw [List.length_mergeSort, List.length_map]
    refine op_run (r_len rfl rfl rfl) rfl ?_
    refine o_mvc rfl ?_
    refine ops_nil ?_
    refine W_block ?_
    refine W_loop [37] [8, 37, 38, 39, 40, 41, 42, 43, 44, 45, 46, 47, 48, 49, 50, 51, 52] (fun vs w' => ∃ (j : Nat) (vb : Value), vs = [.int .i64 j] ∧ j ≤ v0.bl.length ∧ Blk w' b15 (imR (⟨nm, v0.q, v0.fr, []⟩, vb)) 69 ∧ Own w' 71 33 vb j (rows nbR ((blkS v0.bl).take j)) ∧ InB (fun z => w19.heap.size ≤ z) vb ∧ Keep (· ≠ b15) w19 w') (fun vs _ => match vs with | [.int _ y] => v0.bl.length - y.toNat | _ => 0) ⟨0, .slice none 0 0, rfl, Nat.zero_le _, hB19, own_nil _ _ _, InB.nil, Keep.refl _⟩ ?_
    rintro J20 vs w20 ⟨j, vb, rfl, hj, hB20, hOb, hIb, hkJ⟩ -
    refine W_seq ?_
    refine W_region ?_
    refine op_run (r_lss rfl rfl) rfl ?_
    refine ops_nil ?_
    refine W_seq ?_
    refine W_cond_p rfl (fun h21 => ?_) (fun h21 => ?_)
    · refine W_skip ?_
      refine W_seq ?_
      refine W_block ?_
      refine W_seq ?_
      refine W_region ?_
      have hjl : j < v0.bl.length := by omega
      obtain ⟨n, hn⟩ : ∃ n, (sortI (v0.bl.map (·.1)))[j]? = some n := ⟨_, List.getElem?_eq_getElem (by omega)⟩
      obtain ⟨ib_, ioff, ic2, ei2, _, _, hcellI⟩ := hSI.at (by omega)
      cases ei2
      have hinc2 := inc64' j (by omega)
      have hne15 : some b15 ≠ vb.ownBlock := fun e => own_neB hB20 hOb (by decide) b15 e.symm rfl
      have hk420 : Keep All w4 w20 := (hk416.trans hkI).new hkJ (by omega)
      have hV20 := hV.k hk420
      have hB1020 := hkJ.blk' hB1019 (show b10 ≠ b15 by omega)
      have hlk2 : (getA (mapP bkV v0.bl) n).getD (.agg (List.replicate 32 (c8 0)).toArray) = bkV ((lookP v0.bl n).getD Bk.zero) := by
        rw [getA_look]
        cases lookP v0.bl n with
        | none => show Value.agg _ = Value.agg (blkR Bk.zero).toArray; rw [blkR_zero]
        | some v => rfl
      refine op_run (r_idxS1 rfl rfl rfl rfl (by omega) (by omega)) rfl ?_
      refine op_run (r_load rfl rfl rfl (by rw [Int.toNat_natCast]; exact hkJ.cell (hcellI j (intK n) (by rw [List.getElem?_map, hn]; rfl)) (show ib_ ≠ b15 by have := hII ib_ rfl; omega))) rfl ?_
      refine o_ast rfl ?_
      refine ops_nil ?_
      refine W_region ?_
      refine op_run (r_fieldAddr rfl rfl rfl rfl rfl) rfl ?_
      refine op_run (r_load rfl rfl rfl (hB20.cell rfl)) rfl ?_
      refine o_mvt rfl ?_
      refine op_run (r_fieldAddr rfl rfl rfl rfl rfl) rfl ?_
      refine op_run (r_load rfl rfl rfl (hB1020.cell rfl)) rfl ?_
      refine o_mvt rfl ?_
      refine op_run ((r_lookupG (a := n) (keyOk_int rfl) rfl rfl rfl ti_bk (hV20.2)).val (hlk2)) rfl ?_
      refine op_run (r_build (nbR (n, (lookP v0.bl n).getD Bk.zero)) (_) ([(0, .int .i64 n), (1, bkV ((lookP v0.bl n).getD Bk.zero))]) rfl rfl rfl rfl rfl (fill_two rfl rfl rfl (blkR_len _))) rfl ?_
      refine o_bsR nbR nbR_len [(n, (lookP v0.bl n).getD Bk.zero)] rfl ti_nb rfl rfl rfl rfl rfl rfl ?_; intro w28 b28 e28 hB28 hk28 hs28
      have hOb28 := hOb.keep hk28 (fun _ _ => trivial)
      refine o_app (v := vb) (c := 1) (m := j) (k := 1) (rows nbR [(n, (lookP v0.bl n).getD Bk.zero)]) rfl rfl rfl ti_nb rfl (by decide) hOb28 (by rw [rows_len nbR_len]; rfl) hB28.all (rows_one nbR_one _) (by unfold maxLen; omega) (by omega) rfl ?_; intro v29 w29 hown29 hk29 hb29
      have hB29 := hk29.blk' (hk28.blk' hB20 trivial) hne15
      obtain ⟨a29, c29, e29, _, _⟩ := hown29.form
      subst e29
      refine op_run (r_fieldAddr rfl rfl rfl rfl rfl) rfl ?_
      refine o_store (v := (.slice a29 (j + 1) c29)) rfl rfl rfl rfl hB29 (by show 3 < 4; decide) rfl ?_; intro w30 hB30 hk30 hs30
      refine ops_nil ?_
      refine W_region ?_
      refine op_run (r_add rfl rfl) rfl ?_
      refine o_mvt rfl ?_
      refine ops_nil ?_
      have hB30' : Blk w30 b15 (imR (⟨nm, v0.q, v0.fr, []⟩, .slice a29 (j + 1) c29)) 69 := hB30
      have hz28 := hk28.size
      have hzJ := hkJ.size
      have hk1929 : Keep (· ≠ b15) w19 w29 := (hkJ.trans hk28.all).own hk29 (fun z hz _ => hIb z hz)
      refine ⟨by (repeat (first | with_reducible exact offM_refl _ _ | refine offM_updc rfl ?_ | refine offM_upd rfl ?_ | refine offM_updo rfl ?_ | refine offM_updo_none ?_ | refine offM_head rfl rfl ?_)), ⟨j + 1, .slice a29 (j + 1) c29, congrArg (fun z : Int => [Value.int .i64 z]) hinc2, by omega, hB30', ?_, ?_, hk1929.trans hk30⟩, ?_⟩
      · refine Own.keep (A := fun z => z ≠ b15) ?_ hk30 (own_neB hB29 hown29 (by decide))
        have e : (blkS v0.bl).take (j + 1) = (blkS v0.bl).take j ++ [(n, (lookP v0.bl n).getD Bk.zero)] := by
          have hjj : j < (blkS v0.bl).length := by rw [blkS_len]; exact hjl
          rw [List.take_succ_eq_append_getElem hjj]
          congr 1
          have : (blkS v0.bl)[j]? = some (n, (lookP v0.bl n).getD Bk.zero) := by unfold blkS; rw [List.getElem?_map, hn]; rfl
          rw [List.getElem?_eq_getElem hjj] at this
          rw [Option.some.inj this]
        rw [e, rows_app]; exact hown29
      · intro z hz
        rcases hb29 z hz with h | h
        · exact hIb z h
        · omega
      · show v0.bl.length - (IntKind.i64.wrap ((j : Int) + 1)).toNat < v0.bl.length - (j : Int).toNat
        rw [hinc2]; omega
    · refine W_exit ?_
      refine W_region ?_
      refine o_mvt rfl ?_
      have hje : j = v0.bl.length := by omega
      have hk420 : Keep All w4 w20 := (hk416.trans hkI).new hkJ (by omega)
      refine op_run (r_loadA (imR (⟨nm, v0.q, v0.fr, []⟩, vb)) rfl rfl rfl (by first | rfl | (rw [binV_len]; rfl) | (rw [dgR_len]; rfl) | (rw [refR_len]; rfl) | (rw [secR_len]; rfl) | (rw [List.length_map, tagF_len]; rfl) | (rw [nbR_len]; rfl)) (hB20.all)) rfl ?_
      refine o_bsR imR imR_len [(⟨nm, v0.q, v0.fr, blkS v0.bl⟩, vb)] rfl ti_im rfl rfl rfl rfl rfl rfl ?_; intro w33 b33 e33 hB33 hk33 hs33
      have hO33 := hO.k (hk420.trans hk33)
      have hOb33 := hOb.keep hk33 (fun _ _ => trivial)
      have hLk : ((imgD (abs l)).take k).length = k := by
        rw [List.length_take]; unfold imgD; rw [List.length_map, hnl]; omega
      refine o_app (v := v) (c := 1) (m := ((imgD (abs l)).take k).length) (k := 1) (rows imR [(⟨nm, v0.q, v0.fr, blkS v0.bl⟩, vb)]) rfl rfl rfl ti_im rfl (by decide) hO33.o (by rw [rows_len imR_len]; rfl) hB33.all (by show (true && true && true && (one vb && true)) = true; rw [own_one hOb]; rfl) (by unfold maxLen; omega) (by omega) rfl ?_; intro v34 w34 hown34 hk34 hb34
      refine o_ast rfl ?_
      refine ops_nil ?_
      refine W_region ?_
      refine op_run (r_add rfl rfl) rfl ?_
      refine o_mvt rfl ?_
      refine ops_nil ?_
      have hz420 := hk420.size
      have hz33 := hk33.size
      have hzw := hkw.size
      have hk334 : Keep All w3 w34 := ((hkw.trans hk420).trans hk33).own hk34 (fun z hz _ => hIv z hz)
      have eL : (imgD (abs l)).take (k + 1) = (imgD (abs l)).take k ++ [⟨nm, v0.q, v0.fr, blkS v0.bl⟩] := by
        have hkk : k < (imgD (abs l)).length := by unfold imgD; rw [List.length_map, hnl]; exact hkl
        rw [List.take_succ_eq_append_getElem hkk]
        congr 1
        have : (imgD (abs l))[k]? = some ⟨nm, v0.q, v0.fr, blkS v0.bl⟩ := by
          unfold imgD; rw [List.getElem?_map, hnm]
          show some (imgOf (abs l) nm) = _
          rw [imgOf_some hva]; rfl
        rw [List.getElem?_eq_getElem hkk] at this
        rw [Option.some.inj this]
      refine ⟨by (repeat (first | with_reducible exact offM_refl _ _ | refine offM_updc rfl ?_ | refine offM_upd rfl ?_ | refine offM_updo rfl ?_ | refine offM_updo_none ?_ | refine offM_head rfl rfl ?_)), ⟨k + 1, v34, ys ++ [(⟨nm, v0.q, v0.fr, blkS v0.bl⟩, vb)], congrArg (fun z : Int => [v34, Value.int .i64 z]) hinc, by omega, ⟨?_, ?_, fun y hy => ?_⟩, ?_, hk334⟩, ?_⟩
      · rw [eL, List.map_append, hO.e]; rfl
      · rw [eL, List.length_append, rows_app]; exact hown34
      · have key : ∀ {n : Nat} {u : Value} {xs : List Value}, Own w33 71 33 u n xs → Own w34 71 33 u n xs := fun hu => hu.keep hk34 (own_ne hO33.o hu (by decide))
        rcases List.mem_append.1 hy with hy | hy
        · exact key (hO33.b y hy)
        · rw [List.mem_singleton.1 hy]
          show Own w34 71 33 vb (blkS v0.bl).length (rows nbR (blkS v0.bl))
          rw [hje, ← blkS_len, List.take_length] at hOb33
          exact key hOb33
      · intro z hz
        rcases hb34 z hz with h | h
        · exact hIv z h
        · omega
      · show l.length - (IntKind.i64.wrap ((k : Int) + 1)).toNat < l.length - (k : Int).toNat
        rw [hinc]; omega
  · refine W_exit ?_
    refine W_seq ?_
    refine W_region ?_
    refine o_mvt rfl ?_
    refine o_ast rfl ?_
    refine ops_nil ?_
    refine W_ret ?_
    refine ret1 v rfl ?_ ?_; rfl
    have hke : k = l.length := by omega
    have hLl : (imgD (abs l)).length = l.length := by unfold imgD; rw [List.length_map, hnl]
    rw [hke, ← hLl, List.take_length] at hO
    exact ⟨⟨ys, hO⟩, hIv.mono fun z hz => Nat.le_trans hkS.size hz, hkS.trans hkw⟩
end Go.Proofs.YtkmciohghhffnaaGreat.B
