/-
  volume: New, Copy, Twin.
-/
import Derived.Test.YtkmciohghhffnaaGreatVIter
namespace Go.Proofs.YtkmciohghhffnaaGreat.B
open Go
set_option linter.unusedVariables false
set_option maxHeartbeats 2000000
set_option maxRecDepth 100000
attribute [local irreducible] W OpsW OpsQ retP
theorem vl_New (w : World) : Ret Tryz.prog 6 [].toArray w fun r w' => ∃ mb bm, r = .pointer (some ⟨mb, 0, none⟩) ∧ mb < w'.heap.size ∧ MSv w w' mb bm [] := by
  refine enter (fn := Tryz.f6) (n := 4) Tryz.func6 rfl rfl (by simp) ?_
  refine W_seq ?_
  refine W_region ?_
  refine o_asc rfl ?_
  refine ops_nil ?_
  refine W_seq ?_
  refine W_region ?_
  refine o_makeMapG strA rfl ?_; intro w1 b1 e1 hM1 hk1 hs1
  refine op_run (r_build ([.map (some b1)]) (_) ([(0, .map (some b1))]) rfl rfl rfl rfl rfl (rfl)) rfl ?_
  refine o_box (cs := [.map (some b1)]) rfl rfl rfl ?_; intro w3 b3 e3 hB3 hk3 hs3
  refine o_ast rfl ?_
  refine ops_nil ?_
  refine W_ret ?_
  refine ret1 (.pointer (some ⟨b3, 0, none⟩)) rfl ?_ ?_; rfl
  refine ⟨b3, b1, rfl, hB3.lt, ⟨hB3, hM1.keep hk3 trivial, (fun x hx => by cases hx), (fun x hx => by cases hx), List.nodup_nil⟩, hk1.trans hk3, fun z hz => ?_⟩
  rcases hz with rfl | ⟨x, hx, _⟩
  · omega
  · cases hx
def copE (l : AL) (nm other : List UInt8) (q : Int) : Int :=
  if ¬ mayQ other q then 1 else match lookP l nm with
  | none => 5
  | some v => if (lookP l other).isSome = true then 6 else if q < v.bl.length then 8 else 0
def copL (l : AL) (nm other : List UInt8) (q : Int) (fr : Bool) : AL := if copE l nm other q = 0 then (match lookP l nm with
  | none => l
  | some v => l ++ [(other, ⟨q, fr, v.bl⟩)]) else l
theorem copE_some {l : AL} {nm other : List UInt8} {q : Int} {v : VA} (hm : mayQ other q) (hv : lookP l nm = some v) : copE l nm other q = if (lookP l other).isSome = true then 6 else if q < v.bl.length then 8 else 0 := by
  unfold copE; rw [if_neg (fun hn => hn hm), hv]
theorem copL_err {l : AL} {nm other : List UInt8} {q : Int} {fr : Bool} (h : copE l nm other q ≠ 0) : copL l nm other q fr = l := if_neg h
theorem copL_ok {l : AL} {nm other : List UInt8} {q : Int} {fr : Bool} {v : VA} (h : copE l nm other q = 0) (hv : lookP l nm = some v) : copL l nm other q fr = l ++ [(other, ⟨q, fr, v.bl⟩)] := by unfold copL; rw [if_pos h, hv]
theorem look_any (l : ModL) (nm : List UInt8) : ∃ q fr x, (getA (mapP ptrV l) nm).getD (.agg (volR 0 false (.map none)).toArray) = .agg (volR q fr x).toArray ∧ one x = true ∧ ∀ v, lookP l nm = some v → x = .map (some v.xa) := by
  rw [getA_look]
  cases lookP l nm with
  | none => exact ⟨0, false, .map none, rfl, rfl, fun v h => by cases h⟩
  | some v => exact ⟨v.q, v.fr, .map (some v.xa), rfl, rfl, fun v' h => by cases h; rfl⟩
theorem vl_Copy (w : World) (mb bm : Nat) (l : ModL) (nm other : List UInt8) (q : Int) (fr : Bool) (h : ModW w mb bm l) (hl : other.length ≤ 2 ^ 40) : Ret Tryz.prog 24 [.pointer (some ⟨mb, 0, none⟩), strA nm, strA other, .int .i64 q, .bool fr].toArray w fun r w' => r = .int .i64 (copE (abs l) nm other q) ∧ ∃ l', abs l' = copL (abs l) nm other q fr ∧ ModS w mb bm l w' l' := by
  obtain ⟨q0, fr0, x0, hlk, hx1, hx0⟩ := look_any l nm
  refine enter (fn := Tryz.f24) (n := 49) Tryz.func24 rfl rfl (by simp) ?_
  refine W_seq ?_
  refine W_region ?_
  refine o_asc rfl ?_
  refine ops_nil ?_
  refine W_seq ?_
  refine W_region ?_
  refine o_mvt rfl ?_
  refine op_run (r_nilCheck rfl) rfl ?_
  refine op_run (r_fieldAddr rfl rfl rfl rfl rfl) rfl ?_
  refine op_run (r_load rfl rfl rfl (h.m.cell rfl)) rfl ?_
  refine o_mvt rfl ?_
  refine op_run ((r_lookupG (a := nm) (keyOk_strA rfl) rfl rfl rfl ti_ptrV (h.vs)).val (hlk)) rfl ?_
  refine o_alloc rfl rfl rfl ?_; intro w3 b3 e3 hB3 hk3 hs3
  have hB3' : Blk w3 b3 (volR 0 false (.map none)) 66 := hB3
  refine o_storeA (cs := volR q0 fr0 x0) rfl rfl (by first | rfl | exact binV_one _ | exact dgR_one _ | exact refR_one _ | exact secR_one _ | exact all_c8 _ | exact volR_one hx1) (by first | rfl | (rw [binV_len]; rfl) | (rw [dgR_len]; rfl) | (rw [refR_len]; rfl) | (rw [secR_len]; rfl) | (rw [List.length_map, tagF_len]; rfl)) hB3' (by show 0 + 3 ≤ 3; decide) rfl ?_; intro w4 hB4 hk4 hs4
  have hB4' : Blk w4 b3 (volR q0 fr0 x0) 66 := hB4
  have hk04 := hk3.new hk4 (by omega)
  refine ops_nil ?_
  refine W_seq ?_
  refine W_block ?_
  refine W_seq ?_
  refine W_region ?_
  refine o_mvt rfl ?_
  refine o_mvt rfl ?_
  refine op_call rfl rfl rfl (vl_may w4 other q hl) ?_; rintro v5 w5 ⟨rfl, hk5⟩
  have hk05 := hk04.trans hk5
  refine op_run (r_not rfl) rfl ?_
  refine o_ast rfl ?_
  refine ops_nil ?_
  refine W_cond rfl (fun h6 => ?_) (fun h6 => ?_)
  · refine W_seq ?_
    refine W_region ?_
    refine o_asc rfl ?_
    refine ops_nil ?_
    refine W_ret ?_
    refine ret1 (.int .i64 1) rfl ?_ ?_; rfl
    have hm : ¬ mayQ other q := by simpa using h6
    have e : copE (abs l) nm other q = 1 := if_pos hm
    rw [e]
    exact ⟨rfl, l, (copL_err (by rw [e]; decide)).symm, ModS.same h hk05⟩
  · refine W_seq ?_
    refine W_region ?_
    refine o_mvt rfl ?_
    refine o_mvt rfl ?_
    have hm : mayQ other q := by simpa using h6
    refine op_call rfl rfl rfl (vl_has w5 mb bm l nm (h.k hk05)) ?_; rintro v8 w8 ⟨rfl, hk8⟩
    refine op_run (r_not rfl) rfl ?_
    refine o_ast rfl ?_
    refine ops_nil ?_
    refine W_cond rfl (fun h9 => ?_) (fun h9 => ?_)
    · refine W_seq ?_
      refine W_region ?_
      refine o_asc rfl ?_
      refine ops_nil ?_
      refine W_ret ?_
      refine ret1 (.int .i64 5) rfl ?_ ?_; rfl
      have hno : lookP l nm = none := by
        cases hv : lookP l nm with
        | none => rfl
        | some v => rw [hv] at h9; cases h9
      have e : copE (abs l) nm other q = 5 := by unfold copE; rw [if_neg (fun hn => hn hm), look_abs, hno]; rfl
      rw [e]
      exact ⟨rfl, l, (copL_err (by rw [e]; decide)).symm, ModS.same h (hk05.trans hk8)⟩
    · refine W_seq ?_
      refine W_region ?_
      refine o_mvt rfl ?_
      refine o_mvt rfl ?_
      obtain ⟨v, hv⟩ : ∃ v, lookP l nm = some v := by
        cases hv : lookP l nm with
        | none => rw [hv] at h9; cases h9
        | some v => exact ⟨v, rfl⟩
      obtain rfl := hx0 v hv
      have hva : lookP (abs l) nm = some v.a := by rw [look_abs, hv]; rfl
      have hE := copE_some (l := abs l) (nm := nm) hm hva
      have hk08 := hk05.trans hk8
      refine op_call rfl rfl rfl (vl_has w8 mb bm l other (h.k hk08)) ?_; rintro v11 w11 ⟨rfl, hk11⟩
      have hk0B := hk08.trans hk11
      refine o_ast rfl ?_
      refine ops_nil ?_
      refine W_cond rfl (fun h12 => ?_) (fun h12 => ?_)
      · refine W_seq ?_
        refine W_region ?_
        refine o_asc rfl ?_
        refine ops_nil ?_
        refine W_ret ?_
        refine ret1 (.int .i64 6) rfl ?_ ?_; rfl
        rw [look_abs, Option.isSome_map, if_pos h12] at hE
        rw [hE]
        exact ⟨rfl, l, (copL_err (by rw [hE]; decide)).symm, ModS.same h hk0B⟩
      · refine W_seq ?_
        refine W_region ?_
        refine op_run (r_fieldAddr rfl rfl rfl rfl rfl) rfl ?_
        have hB11 := hk11.blk' (hk8.blk' (hk5.blk' hB4' trivial) trivial) trivial
        rw [look_abs, Option.isSome_map, if_neg (by rw [h12]; decide)] at hE
        have hlen : (mapP bkV v.bl).length = v.a.bl.length := by unfold mapP; rw [List.length_map]; rfl
        refine op_run (r_load rfl rfl rfl (hB11.cell rfl)) rfl ?_
        refine op_run (r_lenMapG rfl rfl (((h.k hk0B).v _ (lookP_mem hv)).2)) rfl ?_
        refine o_mvt rfl ?_
        refine op_run (r_gtr rfl rfl) rfl ?_
        refine o_ast rfl ?_
        refine ops_nil ?_
        refine W_cond_p rfl (fun h16 => ?_) (fun h16 => ?_)
        · refine W_seq ?_
          refine W_region ?_
          refine o_asc rfl ?_
          refine ops_nil ?_
          refine W_ret ?_
          refine ret1 (.int .i64 8) rfl ?_ ?_; rfl
          rw [hlen] at h16
          rw [if_pos (show q < _ from h16)] at hE
          rw [hE]
          exact ⟨rfl, l, (copL_err (by rw [hE]; decide)).symm, ModS.same h hk0B⟩
        · refine W_skip ?_
          refine W_seq ?_
          rw [hlen] at h16
          rw [if_neg (show ¬ q < _ from h16)] at hE
          have hno : lookP l other = none := by
            cases hv : lookP l other with
            | none => rfl
            | some v => rw [hv] at h12; cases h12
          refine W_gate 11 (fun w' => Keep All w11 w') (by kernel_rfl) (Keep.drawn w11) (fun hS => ?_)
          refine gt_mvt 0 rfl (by kernel_rfl) (by kernel_rfl) (by kernel_rfl) (by kernel_rfl) rfl hS ?_
          refine gt_run 1 (fun w' hS' => (r_nilCheck rfl)) rfl (by kernel_rfl) (by kernel_rfl) (by kernel_rfl) (by kernel_rfl) rfl hS ?_
          refine gt_run 2 (fun w' hS' => (r_fieldAddr rfl rfl rfl rfl rfl)) rfl (by kernel_rfl) (by kernel_rfl) (by kernel_rfl) (by kernel_rfl) rfl hS ?_
          refine gt_run 3 (fun w' hS' => (r_load rfl rfl rfl ((((h.k hk0B).k hS').m.cell rfl)))) rfl (by kernel_rfl) (by kernel_rfl) (by kernel_rfl) (by kernel_rfl) rfl hS ?_
          refine gt_mvt 4 rfl (by kernel_rfl) (by kernel_rfl) (by kernel_rfl) (by kernel_rfl) rfl hS ?_
          refine gt_mvt 5 rfl (by kernel_rfl) (by kernel_rfl) (by kernel_rfl) (by kernel_rfl) rfl hS ?_
          refine gt_mvt 6 rfl (by kernel_rfl) (by kernel_rfl) (by kernel_rfl) (by kernel_rfl) rfl hS ?_
          refine gt_run 7 (fun w' hS' => (r_fieldAddr rfl rfl rfl rfl rfl)) rfl (by kernel_rfl) (by kernel_rfl) (by kernel_rfl) (by kernel_rfl) rfl hS ?_
          refine gt_run 8 (fun w' hS' => (r_load rfl rfl rfl (((hS'.blk' hB11 trivial).cell rfl)))) rfl (by kernel_rfl) (by kernel_rfl) (by kernel_rfl) (by kernel_rfl) rfl hS ?_
          refine gt_one 9 (by kernel_rfl) (one_of rfl ?_)
          refine op_call rfl rfl rfl (md_Clone _ v.xa _ ((h.k (hk0B.trans hS)).v _ (lookP_mem hv)).2) ?_; rintro v21 w21 ⟨rfl, hM21, hk21⟩
          refine ops_nil ⟨(hS.trans hk21), fun hS => ?_⟩
          refine gt_run 10 (fun w' hS' => (r_build (volR q fr (.map (some w11.heap.size))) (_) ([(0, .int .i64 q), (1, .bool fr), (2, .map (some w11.heap.size))]) rfl rfl rfl rfl rfl (rfl))) rfl (by kernel_rfl) (by kernel_rfl) (by kernel_rfl) (by kernel_rfl) rfl hS ?_
          refine gt_past 11 (by kernel_rfl) (by kernel_rfl) (one_of rfl ?_)
          refine o_mapUpdG (a := other) (v := (ptrV ⟨q, fr, v.bl, w11.heap.size⟩)) (keyOk_strA rfl) rfl rfl rfl rfl (((h.k (hk0B.trans hS)).vs)) rfl ?_; intro w24 hM24 hk24 hs24
          refine ops_nil ?_
          refine gt_done (by kernel_rfl) ?_
          refine W_seq ?_
          refine W_region ?_
          refine o_asc rfl ?_
          refine ops_nil ?_
          refine W_ret ?_
          refine ret1 (.int .i64 0) rfl ?_ ?_; rfl
          rw [setA_new _ hno] at hM24
          rw [hE]
          have hz := hk0B.size
          obtain ⟨l', ha, hS'⟩ := add_fin (v := ⟨q, fr, v.bl, w11.heap.size⟩) h (hk0B.trans hS) ⟨trivial, hM21⟩ (show w.heap.size ≤ w11.heap.size from hz) hM24 hk24
          exact ⟨rfl, l', by rw [ha, copL_ok hE hva]; rfl, hS'⟩
/-- Twin on its way. -/
structure TwO (w0 w' : World) (bm mb2 bm2 r3 : Nat) (l rem dn l2 : ModL) : Prop where
  perm : (dn ++ rem).Perm l
  it : IterG strA w' r3 bm (mapP ptrV l) (mapP ptrV rem)
  m : MSv w0 w' mb2 bm2 l2
  nm : l2.map (·.1) = dn.map (·.1)
  r3l : r3 < w'.heap.size
  lo : w0.heap.size ≤ r3
theorem TwO.step {w0 w' w2 : World} {bm mb2 bm2 r3 : Nat} {l rem dn l2 : ModL} (h : TwO w0 w' bm mb2 bm2 r3 l rem dn l2) (hk : Keep All w' w2) : TwO w0 w2 bm mb2 bm2 r3 l rem dn l2 :=
  ⟨h.perm, h.it.keep hk trivial trivial, h.m.keep hk, h.nm, by have := h.r3l; have := hk.size; omega, h.lo⟩
theorem IterG.noB {kv : List UInt8 → Value} {w : World} {r b mb bm : Nat} {l rem : List (List UInt8 × Value)} {m : ModL} (h : IterG kv w r b l rem) (hM : ModW w mb bm m) : ¬ ModB bm m r ∧ r ≠ mb := by
  obtain ⟨es, cl, seen, _, _, h2, _⟩ := h
  refine ⟨fun hB => ?_, fun e => ?_⟩
  · rcases hB with rfl | ⟨x, hx, rfl⟩
    · obtain ⟨es', cl', h1, _⟩ := hM.vs; rw [h1] at h2; cases h2
    · obtain ⟨es', cl', h1, _⟩ := (hM.v x hx).2; rw [h1] at h2; cases h2
  · have h1 : w.heap[mb]? = _ := hM.m
    rw [← e, h2] at h1; cases h1
theorem MSv.iter {w0 w w' : World} {mb bm r : Nat} {l : ModL} (h : MSv w0 w mb bm l) (hk : Keep (· ≠ r) w w') (h1 : ¬ ModB bm l r) (h2 : r ≠ mb) (hr : w0.heap.size ≤ r) : MSv w0 w' mb bm l :=
  ⟨⟨hk.blk' h.m.m (fun e => h2 e.symm), h.m.vs.keep hk (fun e => h1 (.inl e.symm)), fun x hx => ⟨trivial, (h.m.v x hx).2.keep hk (fun e => h1 (.inr ⟨x, hx, e.symm⟩))⟩, h.m.nx, h.m.ap⟩, h.k.new hk hr, h.b⟩
end Go.Proofs.YtkmciohghhffnaaGreat.B
