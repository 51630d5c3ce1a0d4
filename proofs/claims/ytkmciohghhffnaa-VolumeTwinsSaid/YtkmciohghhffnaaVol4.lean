/-
  volume: New, Copy, Twin.
-/
import Derived.Test.YtkmciohghhffnaaVIter
namespace Go.Proofs.Ytkmciohghhffnaa.B
open Go
set_option linter.unusedVariables false
set_option maxHeartbeats 2000000
set_option maxRecDepth 100000
attribute [local irreducible] W OpsW OpsQ retP
theorem vl_New (w : World) : Ret Try.prog 17 [].toArray w fun r w' => ∃ mb bm, r = .pointer (some ⟨mb, 0, none⟩) ∧ mb < w'.heap.size ∧ MSv w w' mb bm [] := by
  refine enter (fn := Try.f17) (n := 4) Try.func17 rfl rfl (by simp) ?_
  refine W_seq ?_
  refine W_region ?_
  refine o_asc rfl ?_
  refine ops_nil ?_
  refine W_seq ?_
  refine W_region ?_
  refine o_makeMapG strA rfl ?_; intro w1 b1 e1 hM1 hk1 hs1
  refine op_run (r_build ([.map (some b1)]) (_) ([(0, .map (some b1))]) rfl rfl rfl rfl rfl (rfl)) rfl ?_
  refine o_box (cs := [.map (some b1)]) rfl rfl rfl ?_; intro w3 b3 e3 hB3 hk3 hs3
  refine o_ast rfl ?_
  refine ops_nil ?_
  refine W_ret ?_
  refine ret1 (.pointer (some ⟨b3, 0, none⟩)) rfl ?_ ?_; rfl
  refine ⟨b3, b1, rfl, hB3.lt, ⟨hB3, hM1.keep hk3 trivial, (fun x hx => by cases hx), (fun x hx => by cases hx), List.nodup_nil⟩, hk1.trans hk3, fun z hz => ?_⟩
  rcases hz with rfl | ⟨x, hx, _⟩
  · omega
  · cases hx
def copE (l : AL) (nm other : List UInt8) (q : Int) : Int :=
  if ¬ mayQ other q then 1 else match lookP l nm with
  | none => 5
  | some v => if (lookP l other).isSome = true then 6 else if q < v.bl.length then 8 else 0
def copL (l : AL) (nm other : List UInt8) (q : Int) (fr : Bool) : AL := if copE l nm other q = 0 then (match lookP l nm with
  | none => l
  | some v => l ++ [(other, ⟨q, fr, v.bl⟩)]) else l
theorem copE_some {l : AL} {nm other : List UInt8} {q : Int} {v : VA} (hm : mayQ other q) (hv : lookP l nm = some v) : copE l nm other q = if (lookP l other).isSome = true then 6 else if q < v.bl.length then 8 else 0 := by
  unfold copE; rw [if_neg (fun hn => hn hm), hv]
theorem copL_err {l : AL} {nm other : List UInt8} {q : Int} {fr : Bool} (h : copE l nm other q ≠ 0) : copL l nm other q fr = l := if_neg h
theorem copL_ok {l : AL} {nm other : List UInt8} {q : Int} {fr : Bool} {v : VA} (h : copE l nm other q = 0) (hv : lookP l nm = some v) : copL l nm other q fr = l ++ [(other, ⟨q, fr, v.bl⟩)] := by unfold copL; rw [if_pos h, hv]
theorem look_any (l : ModL) (nm : List UInt8) : ∃ q fr x, (getA (mapP ptrV l) nm).getD (.agg (volR 0 false (.map none)).toArray) = .agg (volR q fr x).toArray ∧ one x = true ∧ ∀ v, lookP l nm = some v → x = .map (some v.xa) := by
  rw [getA_look]
  cases lookP l nm with
  | none => exact ⟨0, false, .map none, rfl, rfl, fun v h => by cases h⟩
  | some v => exact ⟨v.q, v.fr, .map (some v.xa), rfl, rfl, fun v' h => by cases h; rfl⟩
theorem vl_Copy (w : World) (mb bm : Nat) (l : ModL) (nm other : List UInt8) (q : Int) (fr : Bool) (h : ModW w mb bm l) (hl : other.length ≤ 2 ^ 40) : Ret Try.prog 22 [.pointer (some ⟨mb, 0, none⟩), strA nm, strA other, .int .i64 q, .bool fr].toArray w fun r w' => r = .int .i64 (copE (abs l) nm other q) ∧ ∃ l', abs l' = copL (abs l) nm other q fr ∧ ModS w mb bm l w' l' := by
  obtain ⟨q0, fr0, x0, hlk, hx1, hx0⟩ := look_any l nm
  refine enter (fn := Try.f22) (n := 49) Try.func22 rfl rfl (by simp) ?_
  refine W_seq ?_
  refine W_region ?_
  refine o_asc rfl ?_
  refine ops_nil ?_
  refine W_seq ?_
  refine W_region ?_
  refine o_mvt rfl ?_
  refine op_run (r_nilCheck rfl) rfl ?_
  refine op_run (r_fieldAddr rfl rfl rfl rfl rfl) rfl ?_
  refine op_run (r_load rfl rfl rfl (h.m.cell rfl)) rfl ?_
  refine o_mvt rfl ?_
  refine op_run ((r_lookupG (a := nm) (keyOk_strA rfl) rfl rfl rfl ti_ptrV (h.vs)).val (hlk)) rfl ?_
  refine o_alloc rfl rfl rfl ?_; intro w3 b3 e3 hB3 hk3 hs3
  have hB3' : Blk w3 b3 (volR 0 false (.map none)) 110 := hB3
  refine o_storeA (cs := volR q0 fr0 x0) rfl rfl (by first | rfl | exact binV_one _ | exact dgR_one _ | exact refR_one _ | exact secR_one _ | exact all_c8 _ | exact volR_one hx1) (by first | rfl | (rw [binV_len]; rfl) | (rw [dgR_len]; rfl) | (rw [refR_len]; rfl) | (rw [secR_len]; rfl) | (rw [List.length_map, tagF_len]; rfl)) hB3' (by show 0 + 3 ≤ 3; decide) rfl ?_; intro w4 hB4 hk4 hs4
  have hB4' : Blk w4 b3 (volR q0 fr0 x0) 110 := hB4
  have hk04 := hk3.new hk4 (by omega)
  refine ops_nil ?_
  refine W_seq ?_
  refine W_block ?_
  refine W_seq ?_
  refine W_region ?_
  refine o_mvt rfl ?_
  refine o_mvt rfl ?_
  refine op_call rfl rfl rfl (vl_may w4 other q hl) ?_; rintro v5 w5 ⟨rfl, hk5⟩
  have hk05 := hk04.trans hk5
  refine op_run (r_not rfl) rfl ?_
  refine o_ast rfl ?_
  refine ops_nil ?_
  refine W_cond rfl (fun h6 => ?_) (fun h6 => ?_)
  · refine W_seq ?_
    refine W_region ?_
    refine o_asc rfl ?_
    refine ops_nil ?_
    refine W_ret ?_
    refine ret1 (.int .i64 1) rfl ?_ ?_; rfl
    have hm : ¬ mayQ other q := by simpa using h6
    have e : copE (abs l) nm other q = 1 := if_pos hm
    rw [e]
    exact ⟨rfl, l, (copL_err (by rw [e]; decide)).symm, ModS.same h hk05⟩
  · refine W_seq ?_
    refine W_region ?_
    refine o_mvt rfl ?_
    refine o_mvt rfl ?_
    have hm : mayQ other q := by simpa using h6
    refine op_call rfl rfl rfl (vl_has w5 mb bm l nm (h.k hk05)) ?_; rintro v8 w8 ⟨rfl, hk8⟩
    refine op_run (r_not rfl) rfl ?_
    refine o_ast rfl ?_
    refine ops_nil ?_
    refine W_cond rfl (fun h9 => ?_) (fun h9 => ?_)
    · refine W_seq ?_
      refine W_region ?_
      refine o_asc rfl ?_
      refine ops_nil ?_
      refine W_ret ?_
      refine ret1 (.int .i64 5) rfl ?_ ?_; rfl
      have hno : lookP l nm = none := by
        cases hv : lookP l nm with
        | none => rfl
        | some v => rw [hv] at h9; cases h9
      have e : copE (abs l) nm other q = 5 := by unfold copE; rw [if_neg (fun hn => hn hm), look_abs, hno]; rfl
      rw [e]
      exact ⟨rfl, l, (copL_err (by rw [e]; decide)).symm, ModS.same h (hk05.trans hk8)⟩
    · refine W_seq ?_
      refine W_region ?_
      refine o_mvt rfl ?_
      refine o_mvt rfl ?_
      obtain ⟨v, hv⟩ : ∃ v, lookP l nm = some v := by
        cases hv : lookP l nm with
        | none => rw [hv] at h9; cases h9
        | some v => exact ⟨v, rfl⟩
      obtain rfl := hx0 v hv
      have hva : lookP (abs l) nm = some v.a := by rw [look_abs, hv]; rfl
      have hE := copE_some (l := abs l) (nm := nm) hm hva
      have hk08 := hk05.trans hk8
      refine op_call rfl rfl rfl (vl_has w8 mb bm l other (h.k hk08)) ?_; rintro v11 w11 ⟨rfl, hk11⟩
      have hk0B := hk08.trans hk11
      refine o_ast rfl ?_
      refine ops_nil ?_
      refine W_cond rfl (fun h12 => ?_) (fun h12 => ?_)
      · refine W_seq ?_
        refine W_region ?_
        refine o_asc rfl ?_
        refine ops_nil ?_
        refine W_ret ?_
        refine ret1 (.int .i64 6) rfl ?_ ?_; rfl
        rw [look_abs, Option.isSome_map, if_pos h12] at hE
        rw [hE]
        exact ⟨rfl, l, (copL_err (by rw [hE]; decide)).symm, ModS.same h hk0B⟩
      · refine W_seq ?_
        refine W_region ?_
        refine op_run (r_fieldAddr rfl rfl rfl rfl rfl) rfl ?_
        have hB11 := hk11.blk' (hk8.blk' (hk5.blk' hB4' trivial) trivial) trivial
        rw [look_abs, Option.isSome_map, if_neg (by rw [h12]; decide)] at hE
        have hlen : (mapP bkV v.bl).length = v.a.bl.length := by unfold mapP; rw [List.length_map]; rfl
        refine op_run (r_load rfl rfl rfl (hB11.cell rfl)) rfl ?_
        refine op_run (r_lenMapG rfl rfl (((h.k hk0B).v _ (lookP_mem hv)).2)) rfl ?_
        refine o_mvt rfl ?_
        refine op_run (r_gtr rfl rfl) rfl ?_
        refine o_ast rfl ?_
        refine ops_nil ?_
        refine W_cond_p rfl (fun h16 => ?_) (fun h16 => ?_)
        · refine W_seq ?_
          refine W_region ?_
          refine o_asc rfl ?_
          refine ops_nil ?_
          refine W_ret ?_
          refine ret1 (.int .i64 8) rfl ?_ ?_; rfl
          rw [hlen] at h16
          rw [if_pos (show q < _ from h16)] at hE
          rw [hE]
          exact ⟨rfl, l, (copL_err (by rw [hE]; decide)).symm, ModS.same h hk0B⟩
        · refine W_skip ?_
          refine W_seq ?_
          rw [hlen] at h16
          rw [if_neg (show ¬ q < _ from h16)] at hE
          have hno : lookP l other = none := by
            cases hv : lookP l other with
            | none => rfl
            | some v => rw [hv] at h12; cases h12
          refine W_gate 11 (fun w' => Keep All w11 w') (by kernel_rfl) (Keep.drawn w11) (fun hS => ?_)
          refine gt_mvt 0 rfl (by kernel_rfl) (by kernel_rfl) (by kernel_rfl) (by kernel_rfl) rfl hS ?_
          refine gt_run 1 (fun w' hS' => (r_nilCheck rfl)) rfl (by kernel_rfl) (by kernel_rfl) (by kernel_rfl) (by kernel_rfl) rfl hS ?_
          refine gt_run 2 (fun w' hS' => (r_fieldAddr rfl rfl rfl rfl rfl)) rfl (by kernel_rfl) (by kernel_rfl) (by kernel_rfl) (by kernel_rfl) rfl hS ?_
          refine gt_run 3 (fun w' hS' => (r_load rfl rfl rfl ((((h.k hk0B).k hS').m.cell rfl)))) rfl (by kernel_rfl) (by kernel_rfl) (by kernel_rfl) (by kernel_rfl) rfl hS ?_
          refine gt_mvt 4 rfl (by kernel_rfl) (by kernel_rfl) (by kernel_rfl) (by kernel_rfl) rfl hS ?_
          refine gt_mvt 5 rfl (by kernel_rfl) (by kernel_rfl) (by kernel_rfl) (by kernel_rfl) rfl hS ?_
          refine gt_mvt 6 rfl (by kernel_rfl) (by kernel_rfl) (by kernel_rfl) (by kernel_rfl) rfl hS ?_
          refine gt_run 7 (fun w' hS' => (r_fieldAddr rfl rfl rfl rfl rfl)) rfl (by kernel_rfl) (by kernel_rfl) (by kernel_rfl) (by kernel_rfl) rfl hS ?_
          refine gt_run 8 (fun w' hS' => (r_load rfl rfl rfl (((hS'.blk' hB11 trivial).cell rfl)))) rfl (by kernel_rfl) (by kernel_rfl) (by kernel_rfl) (by kernel_rfl) rfl hS ?_
          refine gt_one 9 (by kernel_rfl) (one_of rfl ?_)
          refine op_call rfl rfl rfl (md_Clone _ v.xa _ ((h.k (hk0B.trans hS)).v _ (lookP_mem hv)).2) ?_; rintro v21 w21 ⟨rfl, hM21, hk21⟩
          refine ops_nil ⟨(hS.trans hk21), fun hS => ?_⟩
          refine gt_run 10 (fun w' hS' => (r_build (volR q fr (.map (some w11.heap.size))) (_) ([(0, .int .i64 q), (1, .bool fr), (2, .map (some w11.heap.size))]) rfl rfl rfl rfl rfl (rfl))) rfl (by kernel_rfl) (by kernel_rfl) (by kernel_rfl) (by kernel_rfl) rfl hS ?_
          refine gt_past 11 (by kernel_rfl) (by kernel_rfl) (one_of rfl ?_)
          refine o_mapUpdG (a := other) (v := (ptrV ⟨q, fr, v.bl, w11.heap.size⟩)) (keyOk_strA rfl) rfl rfl rfl rfl (((h.k (hk0B.trans hS)).vs)) rfl ?_; intro w24 hM24 hk24 hs24
          refine ops_nil ?_
          refine gt_done (by kernel_rfl) ?_
          refine W_seq ?_
          refine W_region ?_
          refine o_asc rfl ?_
          refine ops_nil ?_
          refine W_ret ?_
          refine ret1 (.int .i64 0) rfl ?_ ?_; rfl
          rw [setA_new _ hno] at hM24
          rw [hE]
          have hz := hk0B.size
          obtain ⟨l', ha, hS'⟩ := add_fin (v := ⟨q, fr, v.bl, w11.heap.size⟩) h (hk0B.trans hS) ⟨trivial, hM21⟩ (show w.heap.size ≤ w11.heap.size from hz) hM24 hk24
          exact ⟨rfl, l', by rw [ha, copL_ok hE hva]; rfl, hS'⟩
/-- Twin on its way. -/
structure TwO (w0 w' : World) (bm mb2 bm2 r3 : Nat) (l rem dn l2 : ModL) : Prop where
  perm : (dn ++ rem).Perm l
  it : IterG strA w' r3 bm (mapP ptrV l) (mapP ptrV rem)
  m : MSv w0 w' mb2 bm2 l2
  nm : l2.map (·.1) = dn.map (·.1)
  r3l : r3 < w'.heap.size
  lo : w0.heap.size ≤ r3
theorem TwO.step {w0 w' w2 : World} {bm mb2 bm2 r3 : Nat} {l rem dn l2 : ModL} (h : TwO w0 w' bm mb2 bm2 r3 l rem dn l2) (hk : Keep All w' w2) : TwO w0 w2 bm mb2 bm2 r3 l rem dn l2 :=
  ⟨h.perm, h.it.keep hk trivial trivial, h.m.keep hk, h.nm, by have := h.r3l; have := hk.size; omega, h.lo⟩
theorem IterG.noB {kv : List UInt8 → Value} {w : World} {r b mb bm : Nat} {l rem : List (List UInt8 × Value)} {m : ModL} (h : IterG kv w r b l rem) (hM : ModW w mb bm m) : ¬ ModB bm m r ∧ r ≠ mb := by
  obtain ⟨es, cl, seen, _, _, h2, _⟩ := h
  refine ⟨fun hB => ?_, fun e => ?_⟩
  · rcases hB with rfl | ⟨x, hx, rfl⟩
    · obtain ⟨es', cl', h1, _⟩ := hM.vs; rw [h1] at h2; cases h2
    · obtain ⟨es', cl', h1, _⟩ := (hM.v x hx).2; rw [h1] at h2; cases h2
  · have h1 : w.heap[mb]? = _ := hM.m
    rw [← e, h2] at h1; cases h1
theorem MSv.iter {w0 w w' : World} {mb bm r : Nat} {l : ModL} (h : MSv w0 w mb bm l) (hk : Keep (· ≠ r) w w') (h1 : ¬ ModB bm l r) (h2 : r ≠ mb) (hr : w0.heap.size ≤ r) : MSv w0 w' mb bm l :=
  ⟨⟨hk.blk' h.m.m (fun e => h2 e.symm), h.m.vs.keep hk (fun e => h1 (.inl e.symm)), fun x hx => ⟨trivial, (h.m.v x hx).2.keep hk (fun e => h1 (.inr ⟨x, hx, e.symm⟩))⟩, h.m.nx, h.m.ap⟩, h.k.new hk hr, h.b⟩
theorem vl_Twin (w : World) (mb bm : Nat) (l : ModL) (h : ModW w mb bm l) : Ret Try.prog 27 [.pointer (some ⟨mb, 0, none⟩)].toArray w fun r w' => ∃ mb2 bm2 l2, r = .pointer (some ⟨mb2, 0, none⟩) ∧ MSv w w' mb2 bm2 l2 := by
  have hbm := h.vs.lt
  have hnd := h.nodup
  refine enter (fn := Try.f27) (n := 28) Try.func27 rfl rfl (by simp) ?_
  refine W_seq ?_
  refine W_region ?_
  refine o_asc rfl ?_
  refine ops_nil ?_
  refine W_seq ?_
  refine W_region ?_
  refine op_call rfl rfl rfl (vl_New w) ?_; rintro v1 w1 ⟨mb2, bm2, rfl, hmb2, M1⟩
  have hk1 := M1.k
  have h1 := h.k hk1
  refine o_ast rfl ?_
  refine ops_nil ?_
  refine W_seq ?_
  refine W_seq ?_
  refine W_region ?_
  refine o_mvt rfl ?_
  refine op_run (r_nilCheck rfl) rfl ?_
  refine op_run (r_fieldAddr rfl rfl rfl rfl rfl) rfl ?_
  refine op_run (r_load rfl rfl rfl (h1.m.cell rfl)) rfl ?_
  refine o_rangeG rfl rfl (h1.vs) rfl ?_; intro w3 r3 e3 hI3 hk3 hs3
  refine ops_nil ?_
  refine W_block ?_
  refine W_loop [] [4, 5, 12, 13, 14, 15, 16, 17, 18, 19, 20, 21, 22, 23, 24, 25, 26] (fun vs w' => ∃ (rem dn l2 : ModL), vs = [] ∧ TwO w w' bm mb2 bm2 r3 l rem dn l2) (fun _ w' => leftG w' r3) ⟨l, [], [], rfl, List.Perm.refl _, hI3, M1.keep hk3, rfl, by omega, by have := hk1.size; omega⟩ ?_
  rintro J4 vs w4 ⟨rem, dn, l2, rfl, hT⟩ -
  refine W_cut [13] [12, 13] (fun vs w5 => ∃ tb, vs = [.bool tb] ∧ (tb = false → w5 = w4) ∧ (tb = true → ∃ i x, rem[i]? = some x ∧ IterG strA w5 r3 bm (mapP ptrV l) (mapP ptrV (rem.eraseIdx i)) ∧ AtG w5 r3 bm (strA x.1) (ptrV x.2) ∧ Keep (· ≠ r3) w4 w5)) ?_ ?_
  · refine W_region ?_
    refine o_nextG rfl (hT.it) rfl (fun hn6 => ?_) (fun w6 i6 x6 hx6 hI6 hAt6 hk6 hs6 => ?_)
    · refine op_run (r_extract rfl rfl) rfl ?_
      refine ops_nil ?_
      exact ⟨by (repeat (first | with_reducible exact offM_refl _ _ | refine offM_updc rfl ?_ | refine offM_upd rfl ?_ | refine offM_updo rfl ?_ | refine offM_updo_none ?_ | refine offM_head rfl rfl ?_)), false, rfl, fun _ => rfl, fun e => by cases e⟩
    · refine op_run (r_extract rfl rfl) rfl ?_
      refine ops_nil ?_
      obtain ⟨y6, hy6, rfl⟩ := mapP_at hx6
      exact ⟨by (repeat (first | with_reducible exact offM_refl _ _ | refine offM_updc rfl ?_ | refine offM_upd rfl ?_ | refine offM_updo rfl ?_ | refine offM_updo_none ?_ | refine offM_head rfl rfl ?_)), true, rfl, (fun e => by cases e), fun _ => ⟨i6, y6, hy6, by rw [← mapP_erase]; exact hI6, hAt6, hk6⟩⟩
  · rintro J9 vs w9 ⟨tb, rfl, hF, hTT⟩ -
    refine W_seq ?_
    refine W_cond rfl (fun h10 => ?_) (fun h10 => ?_)
    · refine W_skip ?_
      refine W_block ?_
      refine W_seq ?_
      refine W_region ?_
      obtain ⟨i, x, hx, hI9, hAt9, hk9⟩ := hTT h10
      have hmem := List.mem_of_getElem? hx
      have hxl : x ∈ l := (hT.perm.mem_iff).1 (List.mem_append.2 (.inr hmem))
      have hlo := hT.lo
      obtain ⟨nB, nm2⟩ := hT.it.noB hT.m.m
      have M9 := hT.m.iter hk9 nB nm2 hlo
      have h9 := h.k M9.k
      have hV := (h9.v _ hxl).2
      have hleft : leftG w9 r3 < leftG w4 r3 := by
        rw [hI9.left, hT.it.left]
        unfold mapP
        rw [List.length_map, List.length_map, List.length_eraseIdx_of_lt (List.getElem?_eq_some_iff.1 hx).1]
        have := (List.getElem?_eq_some_iff.1 hx).1
        omega
      have hnew : lookP l2 x.1 = none := by
        cases hv : lookP l2 x.1 with
        | none => rfl
        | some v =>
          exfalso
          have h2 := key_of_look hv
          rw [hT.nm] at h2
          have h3 : ((dn ++ rem).map (·.1)).Nodup := ((hT.perm.map (·.1)).nodup_iff).2 hnd
          rw [List.map_append] at h3
          exact (List.nodup_append.1 h3).2.2 _ h2 _ (List.mem_map.2 ⟨x, hmem, rfl⟩) rfl
      refine op_run (r_entryG rfl (hAt9)) rfl ?_
      refine op_run (r_extract rfl rfl) rfl ?_
      refine op_run (r_extract rfl rfl) rfl ?_
      refine o_alloc rfl rfl rfl ?_; intro w12 b12 e12 hB12 hk12 hs12
      have hB12 : Blk w12 b12 (volR 0 false (.map none)) 110 := hB12
      refine o_ast rfl ?_
      refine o_storeA (cs := volR x.2.q x.2.fr (.map (some x.2.xa))) rfl rfl (by first | rfl | exact binV_one _ | exact dgR_one _ | exact refR_one _ | exact secR_one _ | exact all_c8 _ | exact volR_one rfl) (by first | rfl | (rw [binV_len]; rfl) | (rw [dgR_len]; rfl) | (rw [refR_len]; rfl) | (rw [secR_len]; rfl) | (rw [List.length_map, tagF_len]; rfl)) hB12 (by show 0 + 3 ≤ 3; decide) rfl ?_; intro w13 hB13 hk13 hs13
      have hB13 : Blk w13 b12 (volR x.2.q x.2.fr (.map (some x.2.xa))) 110 := hB13
      have hk913 := hk12.new hk13 (by omega)
      have hz9 := M9.k.size
      refine ops_nil ?_
      refine W_seq ?_
      refine W_region ?_
      refine op_run (r_fieldAddr rfl rfl rfl rfl rfl) rfl ?_
      refine op_run (r_load rfl rfl rfl (hB13.cell rfl)) rfl ?_
      refine op_call rfl rfl rfl (md_Clone w13 x.2.xa _ (hV.keep hk913 trivial)) ?_; rintro v15 w15 ⟨rfl, hM15, hk15⟩
      refine op_run (r_fieldAddr rfl rfl rfl rfl rfl) rfl ?_
      refine o_store (v := (.map (some w13.heap.size))) rfl rfl rfl rfl (hk15.blk' hB13 trivial) (by show 2 < 3; decide) rfl ?_; intro w16 hB16 hk16 hs16
      have hB16 : Blk w16 b12 (volR x.2.q x.2.fr (.map (some w13.heap.size))) 110 := hB16
      have hlt13 := hB13.lt
      have hk916 : Keep All w9 w16 := (hk913.trans hk15).new hk16 (by omega)
      have hM16 := hM15.keep hk16 (show w13.heap.size ≠ b12 by omega)
      have hz913 := hk913.size
      refine ops_nil ?_
      refine W_gate 6 (fun w' => Keep All w16 w') (by kernel_rfl) (Keep.drawn w16) (fun hS => ?_)
      refine gt_mvt 0 rfl (by kernel_rfl) (by kernel_rfl) (by kernel_rfl) (by kernel_rfl) rfl hS ?_
      refine gt_run 1 (fun w' hS' => (r_nilCheck rfl)) rfl (by kernel_rfl) (by kernel_rfl) (by kernel_rfl) (by kernel_rfl) rfl hS ?_
      refine gt_run 2 (fun w' hS' => (r_fieldAddr rfl rfl rfl rfl rfl)) rfl (by kernel_rfl) (by kernel_rfl) (by kernel_rfl) (by kernel_rfl) rfl hS ?_
      refine gt_run 3 (fun w' hS' => (r_load rfl rfl rfl ((((M9.m.k hk916).k hS').m.cell rfl)))) rfl (by kernel_rfl) (by kernel_rfl) (by kernel_rfl) (by kernel_rfl) rfl hS ?_
      refine gt_mvt 4 rfl (by kernel_rfl) (by kernel_rfl) (by kernel_rfl) (by kernel_rfl) rfl hS ?_
      refine gt_run 5 (fun w' hS' => (r_loadA (volR x.2.q x.2.fr (.map (some w13.heap.size))) rfl rfl rfl (by first | rfl | (rw [binV_len]; rfl) | (rw [dgR_len]; rfl) | (rw [refR_len]; rfl) | (rw [secR_len]; rfl) | (rw [List.length_map, tagF_len]; rfl)) ((hS'.blk' hB16 trivial).all))) rfl (by kernel_rfl) (by kernel_rfl) (by kernel_rfl) (by kernel_rfl) rfl hS ?_
      refine gt_past 6 (by kernel_rfl) (by kernel_rfl) (one_of rfl ?_)
      refine o_mapUpdG (a := x.1) (v := (ptrV ⟨x.2.q, x.2.fr, x.2.bl, w13.heap.size⟩)) (keyOk_strA rfl) rfl rfl rfl rfl (((M9.m.k (hk916.trans hS)).vs)) rfl ?_; intro w20 hM20 hk20 hs20
      refine ops_nil ?_
      refine gt_done (by kernel_rfl) ?_
      have hk9S := hk916.trans hS
      have hb2 := M9.b bm2 (.inl rfl)
      have hI20 := (hI9.keep hk9S trivial trivial).keep hk20 (show bm ≠ bm2 by omega) (fun e => nB (.inl e))
      rw [setA_new _ hnew] at hM20
      obtain ⟨l3, ha3, hS3⟩ := add_fin (v := ⟨x.2.q, x.2.fr, x.2.bl, w13.heap.size⟩) M9.m hk9S ⟨trivial, hM16.keep hS trivial⟩ (show w9.heap.size ≤ w13.heap.size by omega) hM20 hk20
      have hnm3 : l3.map (·.1) = (dn ++ [x]).map (·.1) := by
        have e := congrArg (List.map (·.1)) ha3
        unfold abs at e
        rw [List.map_append, mapP_keys, mapP_keys, hT.nm] at e
        rw [e, List.map_append]; rfl
      have hr3 := hT.r3l
      have hz4 := hk9.size
      have hzE := hk9S.size
      have hzF := hk20.size
      refine ⟨by (repeat (first | with_reducible exact offM_refl _ _ | refine offM_updc rfl ?_ | refine offM_upd rfl ?_ | refine offM_updo rfl ?_ | refine offM_updo_none ?_ | refine offM_head rfl rfl ?_)), ⟨rem.eraseIdx i, dn ++ [x], l3, rfl, perm_take hT.perm hx, hI20, M9.go hS3, hnm3, by omega, hlo⟩, ?_⟩
      rw [hI20.left, ← hI9.left]; exact hleft
    · refine W_exit ?_
      refine W_seq ?_
      refine W_region ?_
      refine o_mvt rfl ?_
      refine o_ast rfl ?_
      refine ops_nil ?_
      refine W_ret ?_
      refine ret1 (.pointer (some ⟨mb2, 0, none⟩)) rfl ?_ ?_; rfl
      exact ⟨mb2, bm2, l2, rfl, by rw [hF (by simpa using h10)]; exact hT.m⟩
end Go.Proofs.Ytkmciohghhffnaa.B
