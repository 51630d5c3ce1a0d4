/-
  ModelDoes.
-/
import Derived.Test.YtkckphbdjkjfgaaDoR7
namespace Go.Proofs.Ytkckphbdjkjfgaa.B
open Go
set_option linter.unusedVariables false
set_option maxHeartbeats 2000000
set_option maxRecDepth 100000
attribute [local irreducible] W OpsW OpsQ retP
theorem rf15_Do (w : World) (v : Value) (l : AL) (ys : List (Img × Value)) (o : OpV) (h : ImgsS w v (imgD l) ys) (hN : NdA l) (hs : o.small) (hl : l.length ≤ 1000) (hbk : BlkN 1000 l) :
    Ret Try.prog 19 [v, .agg (opR o).toArray].toArray w (DoQR w l o) := by
  by_cases h1 : o.kind = 1
  · exact rf15_Do1 w v l ys o h hN hs hl h1
  by_cases h2 : o.kind = 2
  · exact rf15_Do2 w v l ys o h hN hl h2
  by_cases h3 : o.kind = 3 ∨ o.kind = 4 ∨ o.kind = 5
  · exact rf15_Do345 w v l ys o h hN hl hbk h3
  by_cases h4 : o.kind = 6 ∨ o.kind = 7
  · exact rf15_Do67 w v l ys o h hN hs hl h4
  by_cases h8 : o.kind = 8
  · exact rf15_Do8 w v l ys o h hl h8
  · exact rf15_DoX w v l ys o h (by omega)
theorem ModW.nd {w : World} {mb bm : Nat} {l : ModL} (h : ModW w mb bm l) : NdA (abs l) := by
  refine ⟨by unfold abs; rw [mapP_keys]; exact h.nodup, fun x hx => ?_⟩
  obtain ⟨y, hy, rfl⟩ := List.mem_map.1 hx
  have := (h.v y hy).2.nodup
  rw [mapP_keys] at this
  exact this
theorem cell_map {w : World} {b off : Nat} {u : Value} {es : Array MapEntry} {cl : Nat} (h : w.cell? ⟨b, off, none⟩ = some u) (hm : w.heap[b]? = some (.map es cl)) : False := by
  unfold World.cell? at h
  rw [hm] at h
  simp at h
theorem cell_noB {w : World} {mb bm b off : Nat} {l : ModL} {u : Value} (hM : ModW w mb bm l) (h : w.cell? ⟨b, off, none⟩ = some u) : ¬ ModB bm l b := fun hB => by
  rcases hB with rfl | ⟨x, hx, rfl⟩
  · obtain ⟨es, cl, h1, _⟩ := hM.vs; exact cell_map h h1
  · obtain ⟨es, cl, h1, _⟩ := (hM.v x hx).2; exact cell_map h h1
theorem Sl.kM {w w' : World} {mb bm : Nat} {l : ModL} {v : Value} {n sz : Nat} {cs : List Value} (h : Sl w v n sz cs) (hM : ModW w mb bm l) (hk : Keep (fun z => ¬ ModB bm l z) w w') : Sl w' v n sz cs := by
  obtain ⟨a, c, rfl, h1, h2, h3, h4, h5⟩ := h
  refine ⟨a, c, rfl, h1, h2, h3, h4, fun x hx i u hu => ?_⟩
  obtain ⟨e, hc⟩ := h5 x hx i u hu
  exact ⟨e, hk.cell hc (cell_noB hM hc)⟩
theorem ImgsS.kM {w w' : World} {mb bm : Nat} {l : ModL} {v : Value} {L : List Img} {ys : List (Img × Value)} (h : ImgsS w v L ys) (hM : ModW w mb bm l) (hk : Keep (fun z => ¬ ModB bm l z) w w') : ImgsS w' v L ys :=
  ⟨h.e, h.o.kM hM hk, fun y hy => (h.b y hy).kM hM hk⟩
def namesL (l : AL) (o : OpV) : List (List UInt8) := if o.kind = 8 then sortS (l.map (·.1)) else []
theorem names_sl {w w' : World} {l : AL} {o : OpV} {s : Value} (h : NamesIn w w' l o s) : Sl w' s (namesL l o).length 1 ((namesL l o).map strA) := by
  unfold namesL
  by_cases h8 : o.kind = 8
  · rw [if_pos h8]
    have e : (sortS (l.map (·.1))).length = l.length := by unfold sortS; rw [List.length_mergeSort, List.length_map]
    rw [e]; exact (h.2 h8).1
  · rw [if_neg h8, h.1 h8]; exact Sl.nil _ _
theorem flat_mem {l : AL} (hN : NdA l) (b : Bk) : b ∈ flatN (imgD l) ↔ ∃ x ∈ l, ∃ p ∈ x.2.bl, p.2 = b := by
  unfold flatN
  rw [List.mem_flatMap]
  constructor
  · rintro ⟨i, hi, hb⟩
    obtain ⟨v, hv, e⟩ := imgD_iff.1 hi
    rw [e] at hb
    obtain ⟨p, hp, rfl⟩ := List.mem_map.1 hb
    exact ⟨_, lookP_mem hv, (p.1, p.2), lookP_mem (blkS_mem.1 hp), rfl⟩
  · rintro ⟨x, hx, p, hp, rfl⟩
    have hv := lookP_at hN.1 hx
    exact ⟨_, imgD_mem hv, List.mem_map.2 ⟨p, blkS_mem.2 (lookP_at (hN.2 x hx) hp), rfl⟩⟩
theorem len_DD {ks bs : List Bk} {l : ModL} (hN : NdA (abs l)) (h1 : ks.Nodup) (h2 : ∀ b, b ∈ ks ↔ ∃ x ∈ l, ∃ p ∈ x.2.bl, p.2 = b) (h : DD bs (flatN (imgD (abs l)))) : ks.length = bs.length := by
  refine ((List.perm_ext_iff_of_nodup h1 h.1).2 fun b => ?_).length_eq
  rw [h2 b, h.2 b, flat_mem hN b, bl_abs]
theorem imgD_blN {n : Nat} {l : AL} (h : BlkN n l) : ∀ i ∈ imgD l, i.bl.length ≤ n := fun i hi => by
  obtain ⟨vv, hvv, e⟩ := imgD_iff.1 hi
  rw [e]
  show (blkS vv.bl).length ≤ n
  rw [blkS_len]
  exact (h _ (lookP_mem hvv)).1
theorem imgD_nil : imgD [] = [] := by simp [imgD, namesD, sortS]
theorem walk_ModelDoes (w : World) (v : Value) (os : List OpV) (hv : OpsIn w v os) : Ret Try.prog 7 [v].toArray w fun r w' => r = .bool true ∧ Keep All w w' := by
  obtain ⟨a0, c0, rfl, hc0, hcm0⟩ := SlR.form hv
  refine enter (fn := Try.f7) (n := 67) Try.func7 rfl rfl (by simp) ?_
  refine W_seq ?_
  refine W_region ?_
  refine o_asc rfl ?_
  refine ops_nil ?_
  refine W_seq ?_
  refine W_seq ?_
  refine W_region ?_
  refine op_call rfl rfl rfl (lw_speaks w) ?_; rintro v1 w1 ⟨rfl, hk1⟩
  refine op_run (r_not rfl) rfl ?_
  refine ops_nil ?_
  refine W_no rfl (rfl) ?_
  refine W_skip ?_
  refine W_seq ?_
  refine W_seq ?_
  refine W_region ?_
  refine o_mvt rfl ?_
  refine op_call rfl rfl rfl (lw_Great w1 _ os (hv.k hk1)) ?_; rintro v4 w4 ⟨⟨g, rfl, hg⟩, hk4⟩
  refine ops_nil ?_
  refine W_cond rfl (fun h5 => ?_) (fun h5 => ?_)
  · refine W_seq ?_
    refine W_region ?_
    refine o_asc rfl ?_
    refine ops_nil ?_
    refine W_ret ?_
    refine ret1 (.bool true) rfl ?_ ?_; rfl
    exact ⟨rfl, hk1.trans hk4⟩
  · refine W_skip ?_
    refine W_seq ?_
    refine W_region ?_
    obtain ⟨hlen, hall⟩ := hg h5
    have hkA := hk1.trans hk4
    refine op_call rfl rfl rfl (md_New w4) ?_; rintro v7 w7 ⟨mb, bm, rfl, hmb, hbm, _, hBm, hMm, hk7⟩
    have hz4 := hkA.size
    have M7 : MS w w7 mb bm [] := ⟨ModW.new hBm hMm, hkA.trans hk7, fun z hz => by
      rcases hz with rfl | ⟨x, hx, _⟩
      · omega
      · cases hx⟩
    refine o_bs0 rfl rfl rfl ?_; intro w8 b8 e8 hB8 hk8 hs8
    have hI8 : ImgsS w8 (.slice (some ⟨b8, 0, none⟩) 0 0) (imgD (abs [])) [] := by
      rw [show abs [] = [] from rfl, imgD_nil]
      exact ⟨rfl, (Own.blk (sz := 4) hB8 rfl (Nat.zero_le _)).sl, fun y hy => by cases hy⟩
    refine o_ast rfl ?_
    refine o_ast rfl ?_
    refine ops_nil ?_
    refine W_seq ?_
    refine W_seq ?_
    refine W_region ?_
    refine o_mvt rfl ?_
    refine op_run (r_len rfl rfl rfl) rfl ?_
    refine o_mvc rfl ?_
    refine ops_nil ?_
    refine W_block ?_
    refine W_loop [4, 17] [2, 4, 6, 7, 8, 17, 18, 19, 20, 21, 22, 23, 24, 25, 26, 27, 28, 29, 30, 31, 32, 33, 34, 35, 36, 37, 38, 39, 40, 41, 42, 43, 44, 45, 46, 47, 48, 49, 50, 51, 52, 53, 54, 55, 56, 57, 58, 59, 60, 61, 62, 63, 64, 65, 66] (fun vs w' => ∃ (u : Value) (ys : List (Img × Value)) (k : Nat) (l' : ModL), vs = [u, .int .i64 k] ∧ k ≤ os.length ∧ abs l' = runD [] (os.take k) ∧ MS w w' mb bm l' ∧ ImgsS w' u (imgD (abs l')) ys) (fun vs _ => match vs with | [_, .int _ y] => os.length - y.toNat | _ => 0) ⟨_, [], 0, [], rfl, Nat.zero_le _, rfl, M7.keep hk8, hI8⟩ ?_
    rintro J9 vs w9 ⟨u, ys, k, l', rfl, hk, ha, M, hI⟩ -
    refine W_seq ?_
    refine W_region ?_
    refine op_run (r_lss rfl rfl) rfl ?_
    refine ops_nil ?_
    refine W_seq ?_
    refine W_cond_p rfl (fun h10 => ?_) (fun h10 => ?_)
    · refine W_skip ?_
      refine W_seq ?_
      refine W_block ?_
      refine W_seq ?_
      refine W_region ?_
      have hkl : k < os.length := by omega
      obtain ⟨c, hc⟩ : ∃ c, os[k]? = some c := ⟨_, List.getElem?_eq_getElem hkl⟩
      obtain ⟨b, off, cp, ev_, _, hcell⟩ := (hv.k M.k).at hc
      cases ev_
      have hinc := inc64' k (by unfold maxLen at hcm0; omega)
      have hcs := hall c (List.mem_of_getElem? hc)
      have hsm : SmallM (abs l') := by rw [ha]; exact small_take hlen k
      have hbk : BlkN 1000 (abs l') := by rw [ha]; exact blk_take hlen k
      have htk : runD [] (os.take (k + 1)) = (doD (abs l') c).2 := by
        rw [List.take_succ_eq_append_getElem hkl, (List.getElem?_eq_some_iff.1 hc).2, runD_snoc, ← ha]
      refine op_run (r_idxS rfl rfl rfl rfl (by omega) (by omega)) rfl ?_
      refine op_run (r_loadA (opR c) rfl rfl rfl (by first | rfl | (rw [binV_len]; rfl) | (rw [dgR_len]; rfl) | (rw [refR_len]; rfl) | (rw [secR_len]; rfl) | (rw [List.length_map, tagF_len]; rfl) | (rw [opR_len]; rfl) | (rw [ansS_len]; rfl) | (rw [blkR_len]; rfl)) ((fun j u hj => by rw [Int.toNat_natCast]; exact hcell j u hj))) rfl ?_
      refine o_alloc rfl rfl rfl ?_; intro w13 b13 e13 hB13 hk13 hs13
      have hB13' : Blk w13 b13 (opR OpV.zero) 26 := hB13
      have M13 := M.keep hk13
      have hzk := M.k.size
      have hI13 := hI.k hk13
      refine o_storeA (cs := opR c) rfl rfl (by first | rfl | exact binV_one _ | exact dgR_one _ | exact refR_one _ | exact secR_one _ | exact all_c8 _ | exact opR_one _ | exact ansS_one (names_one (by assumption)) | exact blkR_one _) (by first | rfl | (rw [binV_len]; rfl) | (rw [dgR_len]; rfl) | (rw [refR_len]; rfl) | (rw [secR_len]; rfl) | (rw [List.length_map, tagF_len]; rfl) | (rw [opR_len]; rfl) | (rw [ansS_len]; rfl) | (rw [blkR_len]; rfl)) hB13' (by exact Nat.le_of_eq (by simp [opR_len])) rfl ?_; intro w14 hB14 hk14 hs14
      have hB14' := op_st hB14
      have M14 := M13.st hB13' (by decide) (by decide) hk14 (by omega)
      have hkI : Keep (fun z => z < b13) w9 w14 := ⟨hk14.os.trans hk13.os, hk14.tape.trans hk13.tape, hk14.output.trans hk13.output, by have := hk13.size; have := hk14.size; omega, fun z hz hlt => by
        rw [hk14.blk z (by have := hk13.size; omega) (by omega), hk13.blk z hz trivial]⟩
      have hI14 : ImgsS w14 u (imgD (abs l')) ys := ⟨hI.e, Sl.old hI.o hkI (fun z hz => by omega), fun y hy => Sl.old (hI.b y hy) hkI (fun z hz => by omega)⟩
      refine ops_nil ?_
      refine W_seq ?_
      refine W_region ?_
      refine o_mvt rfl ?_
      refine op_run (r_loadA (opR c) rfl rfl rfl (by first | rfl | (rw [binV_len]; rfl) | (rw [dgR_len]; rfl) | (rw [refR_len]; rfl) | (rw [secR_len]; rfl) | (rw [List.length_map, tagF_len]; rfl) | (rw [opR_len]; rfl) | (rw [ansS_len]; rfl) | (rw [blkR_len]; rfl)) (hB14'.all)) rfl ?_
      refine op_call rfl rfl rfl (rf15_Do w14 u (abs l') ys c hI14 M14.m.nd hcs hsm.1 hbk) ?_; rintro v16 w16 ⟨⟨v', s', ys', rfl, hNm', hI16⟩, hk16⟩
      have M16 := M14.keep hk16
      have hB16 := hk16.blk' hB14' trivial
      have hz16 := M16.k.size
      have hl16 := hB16.lt
      refine o_mvt rfl ?_
      refine op_run (r_extract rfl rfl) rfl ?_
      refine op_run (r_extract rfl rfl) rfl ?_
      refine o_alloc rfl rfl rfl ?_; intro w17 b17 e17 hB17 hk17 hs17
      have hB17' : Blk w17 b17 (ansR 0 false Bk.zero) 34 := hB17
      refine o_ast rfl ?_
      refine o_storeA (cs := ansS (doD (abs l') c).1.e (doD (abs l') c).1.t (doD (abs l') c).1.b s') rfl rfl (by first | rfl | exact binV_one _ | exact dgR_one _ | exact refR_one _ | exact secR_one _ | exact all_c8 _ | exact opR_one _ | exact ansS_one (names_one (by assumption)) | exact blkR_one _) (by first | rfl | (rw [binV_len]; rfl) | (rw [dgR_len]; rfl) | (rw [refR_len]; rfl) | (rw [secR_len]; rfl) | (rw [List.length_map, tagF_len]; rfl) | (rw [opR_len]; rfl) | (rw [ansS_len]; rfl) | (rw [blkR_len]; rfl)) hB17' (by rw [ansR_len, ansS_len]; decide) rfl ?_; intro w18 hB18 hk18 hs18
      have hB18' := ans_stS hB18
      have M18 := (M16.keep hk17).st hB17' (by decide) (by decide) hk18 (by omega)
      have hB1318 := hk18.blk' (hk17.blk' hB16 trivial) (show b13 ≠ b17 by omega)
      have hkJ : Keep (fun z => z < b17) w16 w18 := ⟨hk18.os.trans hk17.os, hk18.tape.trans hk17.tape, hk18.output.trans hk17.output, by have := hk17.size; have := hk18.size; omega, fun z hz hlt => by
        rw [hk18.blk z (by have := hk17.size; omega) (by omega), hk17.blk z hz trivial]⟩
      have hI18 : ImgsS w18 v' (imgD (doD (abs l') c).2) ys' := ⟨hI16.e, Sl.old hI16.o hkJ (fun z hz => by omega), fun y hy => Sl.old (hI16.b y hy) hkJ (fun z hz => by omega)⟩
      have hs18 := Sl.old (names_sl hNm') hkJ (fun z hz => by omega)
      have hkD := Keep.drawn w18
      have M18D := M18.keep hkD
      have hI18D := hI18.k hkD
      have hs18D := hs18.keep hkD (fun _ _ => trivial)
      refine ops_nil ?_
      refine W_seq ?_
      refine W_cut [64] [27, 28, 29, 30, 31, 32, 33, 34, 35, 36, 37, 38, 39, 40, 41, 42, 43, 44, 45, 46, 47, 48, 49, 50, 51, 52, 53, 54, 55, 56, 57, 58, 59, 60, 61, 62, 63, 64] (fun vs w19 => vs = [.bool false] ∧ ∃ l2, abs l2 = (doD (abs l') c).2 ∧ MS w w19 mb bm l2 ∧ ImgsS w19 v' (imgD (abs l2)) ys') ?_ ?_
      · refine W_held (fun w' => Blk w' b13 (opR c) 26 ∧ Blk w' b17 (ansS (doD (abs l') c).1.e (doD (abs l') c).1.t (doD (abs l') c).1.b s') 34) (by kernel_rfl) (⟨hkD.blk' hB1318 trivial, hkD.blk' hB18' trivial⟩) (fun hS => ?_)
        refine any_mvt 0 rfl (by kernel_rfl) (by kernel_rfl) (by kernel_rfl) rfl hS ?_
        refine any_run 1 (fun w' hS' => (r_loadA (opR c) rfl rfl rfl (by first | rfl | (rw [binV_len]; rfl) | (rw [dgR_len]; rfl) | (rw [refR_len]; rfl) | (rw [secR_len]; rfl) | (rw [List.length_map, tagF_len]; rfl) | (rw [opR_len]; rfl) | (rw [ansS_len]; rfl) | (rw [blkR_len]; rfl)) (hS'.1.all))) rfl (by kernel_rfl) (by kernel_rfl) (by kernel_rfl) rfl hS ?_
        refine any_run 3 (fun w' hS' => (r_loadA (ansS (doD (abs l') c).1.e (doD (abs l') c).1.t (doD (abs l') c).1.b s') rfl rfl rfl (by first | rfl | (rw [binV_len]; rfl) | (rw [dgR_len]; rfl) | (rw [refR_len]; rfl) | (rw [secR_len]; rfl) | (rw [List.length_map, tagF_len]; rfl) | (rw [opR_len]; rfl) | (rw [ansS_len]; rfl) | (rw [blkR_len]; rfl)) (hS'.2.all))) rfl (by kernel_rfl) (by kernel_rfl) (by kernel_rfl) rfl hS ?_
        refine any_one 2 (by kernel_rfl) (one_of rfl ?_)
        refine op_call rfl rfl rfl (md_Do _ mb bm l' c M18D.m hcs hsm) ?_; rintro v23 w23 ⟨⟨s, rfl, hNm⟩, l2, ha2, hSd⟩
        refine ops_nil ⟨⟨hSd.2.1.blk' hS.1 (neB M18D.m hS.1), hSd.2.1.blk' hS.2 (neB M18D.m hS.2)⟩, fun hS => ?_⟩
        have M23 := M18D.go hSd
        have hI23 := hI18D.kM M18D.m hSd.2.1
        have hs23 := hs18D.kM M18D.m hSd.2.1
        rw [← ha2] at hI23
        have hsm2 : SmallM (abs l2) := by rw [ha2, ← htk]; exact small_take hlen _
        have hbk2 : BlkN 1000 (abs l2) := by rw [ha2, ← htk]; exact blk_take hlen _
        refine any_one 4 (by kernel_rfl) (one_of rfl ?_)
        refine op_call rfl rfl rfl (rf15_SameAnswer w23 _ _ _ s s' (namesL (abs l') c) (names_sl hNm) hs23) ?_; rintro v25 w25 ⟨rfl, hk25⟩
        refine ops_nil ⟨⟨hk25.blk' hS.1 trivial, hk25.blk' hS.2 trivial⟩, fun hS => ?_⟩
        have M25 := M23.keep hk25
        refine any_run 5 (fun w' hS' => (r_not rfl)) rfl (by kernel_rfl) (by kernel_rfl) (by kernel_rfl) rfl hS ?_
        refine any_mvt 6 rfl (by kernel_rfl) (by kernel_rfl) (by kernel_rfl) rfl hS ?_
        refine a_split 33 false rfl (fun g27 => ?_) (fun g => absurd g (by simp))
        refine any_mvt 7 rfl (by kernel_rfl) (by kernel_rfl) (by kernel_rfl) (g_yes rfl rfl rfl (by rw [g27] <;> rfl)) hS ?_
        refine any_mvt 9 rfl (by kernel_rfl) (by kernel_rfl) (by kernel_rfl) (g_yes rfl rfl rfl (by rw [g27] <;> rfl)) hS ?_
        refine any_one 8 (by kernel_rfl) (one_of rfl ?_)
        refine op_call rfl rfl (g_yes rfl rfl rfl (by rw [g27] <;> rfl)) (md_Images w25 mb bm l2 M25.m hsm2 hbk2) ?_; rintro v28 w28 ⟨⟨ys2, hO2⟩, _, hk28⟩
        refine ops_nil ⟨⟨hk28.blk' hS.1 trivial, hk28.blk' hS.2 trivial⟩, fun hS => ?_⟩
        have M28 := M25.keep hk28
        have hI28 := (hI23.k hk25).k hk28
        refine any_one 10 (by kernel_rfl) (one_of rfl ?_)
        refine op_call rfl rfl (g_yes rfl rfl rfl (by rw [g27] <;> rfl)) (rf15_Same w28 v28 v' (imgD (abs l2)) ys2 ys' hO2.s hI28 (imgD_small hbk2 (by decide))) ?_; rintro v30 w30 ⟨rfl, hk30⟩
        refine ops_nil ⟨⟨hk30.blk' hS.1 trivial, hk30.blk' hS.2 trivial⟩, fun hS => ?_⟩
        have M30 := M28.keep hk30
        refine any_run 11 (fun w' hS' => (r_not rfl)) rfl (by kernel_rfl) (by kernel_rfl) (by kernel_rfl) (g_yes rfl rfl rfl (by rw [g27] <;> rfl)) hS ?_
        refine any_run 12 (fun w' hS' => (r_pickF rfl (by rw [g27] <;> rfl))) rfl (by kernel_rfl) (by kernel_rfl) (by kernel_rfl) rfl hS ?_
        refine any_mvt 13 rfl (by kernel_rfl) (by kernel_rfl) (by kernel_rfl) rfl hS ?_
        refine a_split 40 false rfl (fun g32 => ?_) (fun g => absurd g (by simp))
        refine any_mvt 14 rfl (by kernel_rfl) (by kernel_rfl) (by kernel_rfl) (g_yes rfl rfl rfl (by rw [g32] <;> rfl)) hS ?_
        refine any_mvt 16 rfl (by kernel_rfl) (by kernel_rfl) (by kernel_rfl) (g_yes rfl rfl rfl (by rw [g32] <;> rfl)) hS ?_
        refine any_one 15 (by kernel_rfl) (one_of rfl ?_)
        refine op_call rfl rfl (g_yes rfl rfl rfl (by rw [g32] <;> rfl)) (md_Distinct w30 mb bm l2 M30.m) ?_; rintro v33 w33 ⟨⟨ks, hn, hm, rfl⟩, hk33⟩
        refine ops_nil ⟨⟨hk33.blk' hS.1 trivial, hk33.blk' hS.2 trivial⟩, fun hS => ?_⟩
        have hI33 := (hI28.k hk30).k hk33
        refine any_one 17 (by kernel_rfl) (one_of rfl ?_)
        refine op_call rfl rfl (g_yes rfl rfl rfl (by rw [g32] <;> rfl)) (rf15_Blocks w33 v' (imgD (abs l2)) ys' hI33 (by rw [imgD_len]; exact hsm2.1) (imgD_blN hbk2)) ?_; rintro v35 w35 ⟨⟨bs, ba, bc, hDD, rfl⟩, hk35⟩
        refine ops_nil ⟨⟨hk35.blk' hS.1 trivial, hk35.blk' hS.2 trivial⟩, fun hS => ?_⟩
        have hlenD := len_DD M30.m.nd hn hm hDD
        refine any_run 18 (fun w' hS' => (r_len rfl rfl rfl)) rfl (by kernel_rfl) (by kernel_rfl) (by kernel_rfl) (g_yes rfl rfl rfl (by rw [g32] <;> rfl)) hS ?_
        refine any_run 19 (fun w' hS' => (r_neq rfl rfl)) rfl (by kernel_rfl) (by kernel_rfl) (by kernel_rfl) (g_yes rfl rfl rfl (by rw [g32] <;> rfl)) hS ?_
        refine any_run 20 (fun w' hS' => (r_pickF rfl (by rw [g32] <;> rfl))) rfl (by kernel_rfl) (by kernel_rfl) (by kernel_rfl) rfl hS ?_
        refine any_mvt 21 rfl (by kernel_rfl) (by kernel_rfl) (by kernel_rfl) rfl hS ?_
        refine a_split 48 false rfl (fun g37 => ?_) (fun g => absurd g (by rw [hlenD]; simp))
        refine any_run 22 (fun w' hS' => (r_fieldAddr rfl rfl rfl rfl rfl)) rfl (by kernel_rfl) (by kernel_rfl) (by kernel_rfl) (g_yes rfl rfl rfl g37) hS ?_
        refine any_run 23 (fun w' hS' => (r_load rfl rfl rfl ((hS'.1.cell rfl)))) rfl (by kernel_rfl) (by kernel_rfl) (by kernel_rfl) (g_yes rfl rfl rfl g37) hS ?_
        refine any_run 25 (fun w' hS' => (r_fieldAddr rfl rfl rfl rfl rfl)) rfl (by kernel_rfl) (by kernel_rfl) (by kernel_rfl) (g_yes rfl rfl rfl g37) hS ?_
        refine any_run 26 (fun w' hS' => (r_load rfl rfl rfl ((hS'.1.cell rfl)))) rfl (by kernel_rfl) (by kernel_rfl) (by kernel_rfl) (g_yes rfl rfl rfl g37) hS ?_
        refine any_one 24 (by kernel_rfl) (one_of rfl ?_)
        refine op_call rfl rfl (g_yes rfl rfl rfl g37) (md_Changes _ c.kind) ?_; rintro v40 w40 ⟨rfl, rfl⟩
        refine ops_nil ⟨hS, fun hS => ?_⟩
        refine any_one 27 (by kernel_rfl) (one_of rfl ?_)
        refine op_call rfl rfl (g_yes rfl rfl rfl g37) (rf15_Changes _ c.kind) ?_; rintro v42 w42 ⟨rfl, rfl⟩
        refine ops_nil ⟨hS, fun hS => ?_⟩
        refine any_run 28 (fun w' hS' => (r_neqB rfl rfl rfl)) rfl (by kernel_rfl) (by kernel_rfl) (by kernel_rfl) (g_yes rfl rfl rfl g37) hS ?_
        refine any_run 29 (fun w' hS' => (r_pickF rfl g37)) rfl (by kernel_rfl) (by kernel_rfl) (by kernel_rfl) rfl hS ?_
        refine any_mvt 30 rfl (by kernel_rfl) (by kernel_rfl) (by kernel_rfl) rfl hS ?_
        refine a_split 57 false rfl (fun g44 => ?_) (fun g => absurd g (by simp))
        refine any_run 31 (fun w' hS' => (r_loadA (opR c) rfl rfl rfl (by first | rfl | (rw [binV_len]; rfl) | (rw [dgR_len]; rfl) | (rw [refR_len]; rfl) | (rw [secR_len]; rfl) | (rw [List.length_map, tagF_len]; rfl) | (rw [opR_len]; rfl) | (rw [ansS_len]; rfl) | (rw [blkR_len]; rfl)) (hS'.1.all))) rfl (by kernel_rfl) (by kernel_rfl) (by kernel_rfl) (g_yes rfl rfl rfl g44) hS ?_
        refine any_run 33 (fun w' hS' => (r_loadA (opR c) rfl rfl rfl (by first | rfl | (rw [binV_len]; rfl) | (rw [dgR_len]; rfl) | (rw [refR_len]; rfl) | (rw [secR_len]; rfl) | (rw [List.length_map, tagF_len]; rfl) | (rw [opR_len]; rfl) | (rw [ansS_len]; rfl) | (rw [blkR_len]; rfl)) (hS'.1.all))) rfl (by kernel_rfl) (by kernel_rfl) (by kernel_rfl) (g_yes rfl rfl rfl g44) hS ?_
        refine any_one 32 (by kernel_rfl) (one_of rfl ?_)
        refine op_call rfl rfl (g_yes rfl rfl rfl g44) (md_Event _ c hcs) ?_; rintro v47 w47 ⟨hO47, hi47, hk47⟩
        refine ops_nil ⟨⟨hk47.blk' hS.1 trivial, hk47.blk' hS.2 trivial⟩, fun hS => ?_⟩
        refine any_one 34 (by kernel_rfl) (one_of rfl ?_)
        refine op_call rfl rfl (g_yes rfl rfl rfl g44) (rf15_Event _ c hcs) ?_; rintro v49 w49 ⟨hO49, hi49, hk49⟩
        refine ops_nil ⟨⟨hk49.blk' hS.1 trivial, hk49.blk' hS.2 trivial⟩, fun hS => ?_⟩
        refine any_one 35 (by kernel_rfl) (one_of rfl ?_)
        refine op_call rfl rfl (g_yes rfl rfl rfl g44) (ref01_Same _ v47 v49 (eventB c) (eventB c) (Sl.keep hO47.by_ hk49 (fun _ _ => trivial)) hO49.by_) ?_; rintro v51 w51 ⟨rfl, hk51⟩
        refine ops_nil ⟨⟨hk51.blk' hS.1 trivial, hk51.blk' hS.2 trivial⟩, fun hS => ?_⟩
        refine any_run 36 (fun w' hS' => (r_not rfl)) rfl (by kernel_rfl) (by kernel_rfl) (by kernel_rfl) (g_yes rfl rfl rfl g44) hS ?_
        refine any_run 37 (fun w' hS' => (r_pickF rfl g44)) rfl (by kernel_rfl) (by kernel_rfl) (by kernel_rfl) rfl hS ?_
        refine any_done (by kernel_rfl) ?_
        have hkE := ((hk33.trans hk35).trans hk47).trans (hk49.trans hk51)
        exact ⟨by (repeat (first | with_reducible exact offM_refl _ _ | refine offM_updc rfl ?_ | refine offM_upd rfl ?_ | refine offM_updo rfl ?_ | refine offM_updo_none ?_ | refine offM_head rfl rfl ?_)), congrArg (fun b => [Value.bool b]) (by simp), l2, ha2, M30.keep hkE, (hI28.k hk30).k hkE⟩
      · rintro J54 vs w54 ⟨rfl, l2, ha2, M54, hI54⟩ -
        refine W_no rfl (rfl) ?_
        refine W_skip ?_
        refine W_region ?_
        refine o_mvt rfl ?_
        refine o_ast rfl ?_
        refine ops_nil ?_
        refine W_region ?_
        refine op_run (r_add rfl rfl) rfl ?_
        refine o_mvt rfl ?_
        refine ops_nil ?_
        refine ⟨by (repeat (first | with_reducible exact offM_refl _ _ | refine offM_updc rfl ?_ | refine offM_upd rfl ?_ | refine offM_updo rfl ?_ | refine offM_updo_none ?_ | refine offM_head rfl rfl ?_)), ⟨v', ys', k + 1, l2, congrArg (fun z : Int => [v', Value.int .i64 z]) hinc, by omega, by rw [htk]; exact ha2, M54, hI54⟩, ?_⟩
        show os.length - (IntKind.i64.wrap ((k : Int) + 1)).toNat < os.length - (k : Int).toNat
        rw [hinc]; omega
    · refine W_exit ?_
      refine W_seq ?_
      refine W_region ?_
      refine o_asc rfl ?_
      refine ops_nil ?_
      refine W_ret ?_
      refine ret1 (.bool true) rfl ?_ ?_; rfl
      exact ⟨rfl, M.k⟩
end Go.Proofs.Ytkckphbdjkjfgaa.B
