/-
  The document's Same; commits as arguments.
-/
import Derived.Test.YtlpkdblhaahkaaaCom2
namespace Go.Proofs.Ytlpkdblhaahkaaa.B
open Go
set_option linter.unusedVariables false
set_option maxHeartbeats 2000000
set_option maxRecDepth 100000
attribute [local irreducible] W OpsW OpsQ retP
def hdSame (c d : Cm) : Prop := c.epoch = d.epoch ∧ c.prev = d.prev ∧ c.vols = d.vols ∧ c.idx = d.idx ∧ c.state = d.state ∧ c.bins.length = d.bins.length ∧ c.events.length = d.events.length
instance (c d : Cm) : Decidable (hdSame c d) := inferInstanceAs (Decidable (_ ∧ _))
theorem rf13_Same (w : World) (c d : Cm) (vb ve wb we : Value) (vks wks : List Value) (hc : CmIn w c vb ve vks) (hd : CmIn w d wb we wks) :
    Ret Try.prog 10 [.agg (cmV c vb ve).toArray, .agg (cmV d wb we).toArray].toArray w fun u w' => u = .bool (decide (c = d)) ∧ Keep All w w' := by
  obtain ⟨ab, cb, rfl, hcb, hcbm⟩ := hc.1.form
  obtain ⟨ae, ce, rfl, hce, hcem⟩ := hc.2.2.1.form
  obtain ⟨xb, yb, rfl, hyb, hybm⟩ := hd.1.form
  obtain ⟨xe, ye, rfl, hye, hyem⟩ := hd.2.2.1.form
  have hmx : cb ≤ 9223372036854775807 := hcbm
  have hme : ce ≤ 9223372036854775807 := hcem
  have hvl := hc.2.1
  have hwl := hd.2.1
  refine enter (fn := Try.f10) (n := 95) Try.func10 rfl rfl (by simp) ?_
  refine W_seq ?_
  refine W_region ?_
  refine o_box rfl rfl rfl ?_; intro w1 b1 e1 hB1 hk1 hs1
  have hB1 : Blk w1 b1 (cmV c (.slice ab c.bins.length cb) (.slice ae c.events.length ce)) 32 := hB1
  refine o_box rfl rfl rfl ?_; intro w2 b2 e2 hB2 hk2 hs2
  have hB2 : Blk w2 b2 (cmV d (.slice xb d.bins.length yb) (.slice xe d.events.length ye)) 32 := hB2
  have hB1 := hk2.blk' hB1 trivial
  have hc2 := (hc.k hk1).k hk2
  have hd2 := (hd.k hk1).k hk2
  refine o_asc rfl ?_
  refine ops_nil ?_
  refine W_seq ?_
  refine W_cut [57] [7, 8, 9, 10, 11, 12, 13, 14, 15, 16, 17, 18, 19, 20, 21, 22, 23, 24, 25, 26, 27, 28, 29, 30, 31, 32, 33, 34, 35, 36, 37, 38, 39, 40, 41, 42, 43, 44, 45, 46, 47, 48, 49, 50, 51, 52, 53, 54, 55, 56, 57] (fun vs w3 => vs = [.bool (decide (¬ hdSame c d))] ∧ w3 = w2) ?_ ?_
  · refine W_region ?_
    refine op_run (r_fieldAddr rfl rfl rfl rfl rfl) rfl ?_
    refine op_run (r_load rfl rfl rfl (hB1.cell (cmV_epoch _ _ _))) rfl ?_
    refine op_run (r_fieldAddr rfl rfl rfl rfl rfl) rfl ?_
    refine op_run (r_load rfl rfl rfl (hB2.cell (cmV_epoch _ _ _))) rfl ?_
    refine op_run (r_neq rfl rfl) rfl ?_
    refine o_mvt rfl ?_
    refine g_split rfl rfl rfl (fun g6 => ?_) (fun g6 => ?_)
    · refine op_run (r_fieldAddr rfl rfl rfl rfl rfl) (g_yes rfl rfl rfl g6) ?_
      refine op_run (r_loadA (refR c.prev) rfl rfl rfl (by first | rfl | (rw [binV_len]; rfl) | (rw [dgR_len]; rfl) | (rw [refR_len]; rfl) | (rw [secR_len]; rfl) | (rw [List.length_map, tagF_len]; rfl)) ((fun j x hj => by rw [Addr.add_lit]; exact hB1.cell (cmV_prev c _ _ hj)))) (g_yes rfl rfl rfl g6) ?_
      refine op_run (r_fieldAddr rfl rfl rfl rfl rfl) (g_yes rfl rfl rfl g6) ?_
      refine op_run (r_loadA (refR d.prev) rfl rfl rfl (by first | rfl | (rw [binV_len]; rfl) | (rw [dgR_len]; rfl) | (rw [refR_len]; rfl) | (rw [secR_len]; rfl) | (rw [List.length_map, tagF_len]; rfl)) ((fun j x hj => by rw [Addr.add_lit]; exact hB2.cell (cmV_prev d _ _ hj)))) (g_yes rfl rfl rfl g6) ?_
      refine op_run (r_neqC (p := c.prev = d.prev) rfl rfl rfl rfl (by kernel_rfl) (okC_ref _) (okC_ref _) rfl (refR_inj)) (g_yes rfl rfl rfl g6) ?_
      refine o_pkFt rfl g6 rfl ?_
      refine o_mvt rfl ?_
      refine g_split rfl rfl rfl (fun g10 => ?_) (fun g10 => ?_)
      · refine op_run (r_fieldAddr rfl rfl rfl rfl rfl) (g_yes rfl rfl rfl g10) ?_
        refine op_run (r_loadA (refR c.vols) rfl rfl rfl (by first | rfl | (rw [binV_len]; rfl) | (rw [dgR_len]; rfl) | (rw [refR_len]; rfl) | (rw [secR_len]; rfl) | (rw [List.length_map, tagF_len]; rfl)) ((fun j x hj => by rw [Addr.add_lit]; exact hB1.cell (cmV_vols c _ _ hj)))) (g_yes rfl rfl rfl g10) ?_
        refine op_run (r_fieldAddr rfl rfl rfl rfl rfl) (g_yes rfl rfl rfl g10) ?_
        refine op_run (r_loadA (refR d.vols) rfl rfl rfl (by first | rfl | (rw [binV_len]; rfl) | (rw [dgR_len]; rfl) | (rw [refR_len]; rfl) | (rw [secR_len]; rfl) | (rw [List.length_map, tagF_len]; rfl)) ((fun j x hj => by rw [Addr.add_lit]; exact hB2.cell (cmV_vols d _ _ hj)))) (g_yes rfl rfl rfl g10) ?_
        refine op_run (r_neqC (p := c.vols = d.vols) rfl rfl rfl rfl (by kernel_rfl) (okC_ref _) (okC_ref _) rfl (refR_inj)) (g_yes rfl rfl rfl g10) ?_
        refine o_pkFt rfl g10 rfl ?_
        refine o_mvt rfl ?_
        refine g_split rfl rfl rfl (fun g14 => ?_) (fun g14 => ?_)
        · refine op_run (r_fieldAddr rfl rfl rfl rfl rfl) (g_yes rfl rfl rfl g14) ?_
          refine op_run (r_loadA (refR c.idx) rfl rfl rfl (by first | rfl | (rw [binV_len]; rfl) | (rw [dgR_len]; rfl) | (rw [refR_len]; rfl) | (rw [secR_len]; rfl) | (rw [List.length_map, tagF_len]; rfl)) ((fun j x hj => by rw [Addr.add_lit]; exact hB1.cell (cmV_idx c _ _ hj)))) (g_yes rfl rfl rfl g14) ?_
          refine op_run (r_fieldAddr rfl rfl rfl rfl rfl) (g_yes rfl rfl rfl g14) ?_
          refine op_run (r_loadA (refR d.idx) rfl rfl rfl (by first | rfl | (rw [binV_len]; rfl) | (rw [dgR_len]; rfl) | (rw [refR_len]; rfl) | (rw [secR_len]; rfl) | (rw [List.length_map, tagF_len]; rfl)) ((fun j x hj => by rw [Addr.add_lit]; exact hB2.cell (cmV_idx d _ _ hj)))) (g_yes rfl rfl rfl g14) ?_
          refine op_run (r_neqC (p := c.idx = d.idx) rfl rfl rfl rfl (by kernel_rfl) (okC_ref _) (okC_ref _) rfl (refR_inj)) (g_yes rfl rfl rfl g14) ?_
          refine o_pkFt rfl g14 rfl ?_
          refine o_mvt rfl ?_
          refine g_split rfl rfl rfl (fun g18 => ?_) (fun g18 => ?_)
          · refine op_run (r_fieldAddr rfl rfl rfl rfl rfl) (g_yes rfl rfl rfl g18) ?_
            refine op_run (r_loadA (dgR c.state) rfl rfl rfl (by first | rfl | (rw [binV_len]; rfl) | (rw [dgR_len]; rfl) | (rw [refR_len]; rfl) | (rw [secR_len]; rfl) | (rw [List.length_map, tagF_len]; rfl)) ((fun j x hj => by rw [Addr.add_lit]; exact hB1.cell (cmV_state c _ _ hj)))) (g_yes rfl rfl rfl g18) ?_
            refine op_run (r_fieldAddr rfl rfl rfl rfl rfl) (g_yes rfl rfl rfl g18) ?_
            refine op_run (r_loadA (dgR d.state) rfl rfl rfl (by first | rfl | (rw [binV_len]; rfl) | (rw [dgR_len]; rfl) | (rw [refR_len]; rfl) | (rw [secR_len]; rfl) | (rw [List.length_map, tagF_len]; rfl)) ((fun j x hj => by rw [Addr.add_lit]; exact hB2.cell (cmV_state d _ _ hj)))) (g_yes rfl rfl rfl g18) ?_
            refine op_run (r_neqC (p := c.state = d.state) rfl rfl rfl rfl (by kernel_rfl) (okC_dgR _) (okC_dgR _) rfl (dgR_inj)) (g_yes rfl rfl rfl g18) ?_
            refine o_pkFt rfl g18 rfl ?_
            refine o_mvt rfl ?_
            refine g_split rfl rfl rfl (fun g22 => ?_) (fun g22 => ?_)
            · refine op_run (r_fieldAddr rfl rfl rfl rfl rfl) (g_yes rfl rfl rfl g22) ?_
              refine op_run (r_load rfl rfl rfl (hB1.cell (cmV_bins _ _ _))) (g_yes rfl rfl rfl g22) ?_
              refine op_run (r_len rfl rfl rfl) (g_yes rfl rfl rfl g22) ?_
              refine op_run (r_fieldAddr rfl rfl rfl rfl rfl) (g_yes rfl rfl rfl g22) ?_
              refine op_run (r_load rfl rfl rfl (hB2.cell (cmV_bins _ _ _))) (g_yes rfl rfl rfl g22) ?_
              refine op_run (r_len rfl rfl rfl) (g_yes rfl rfl rfl g22) ?_
              refine op_run (r_neq rfl rfl) (g_yes rfl rfl rfl g22) ?_
              refine o_pkFt rfl g22 rfl ?_
              refine o_mvt rfl ?_
              refine g_split rfl rfl rfl (fun g25 => ?_) (fun g25 => ?_)
              · refine op_run (r_fieldAddr rfl rfl rfl rfl rfl) (g_yes rfl rfl rfl g25) ?_
                refine op_run (r_load rfl rfl rfl (hB1.cell (cmV_events _ _ _))) (g_yes rfl rfl rfl g25) ?_
                refine op_run (r_len rfl rfl rfl) (g_yes rfl rfl rfl g25) ?_
                refine op_run (r_fieldAddr rfl rfl rfl rfl rfl) (g_yes rfl rfl rfl g25) ?_
                refine op_run (r_load rfl rfl rfl (hB2.cell (cmV_events _ _ _))) (g_yes rfl rfl rfl g25) ?_
                refine op_run (r_len rfl rfl rfl) (g_yes rfl rfl rfl g25) ?_
                refine op_run (r_neq rfl rfl) (g_yes rfl rfl rfl g25) ?_
                refine o_pkFt rfl g25 rfl ?_
                refine ops_nil ?_
                exact ⟨by (repeat (first | with_reducible exact offM_refl _ _ | refine offM_updc rfl ?_ | refine offM_upd rfl ?_ | refine offM_updo rfl ?_ | refine offM_updo_none ?_ | refine offM_head rfl rfl ?_)), congrArg (fun b => [Value.bool b]) (by
                  have k6 := of_decide_eq_false g6
                  have k10 : c.prev = d.prev := by simpa using g10
                  have k14 : c.vols = d.vols := by simpa using g14
                  have k18 : c.idx = d.idx := by simpa using g18
                  have k22 : c.state = d.state := by simpa using g22
                  have k25 := of_decide_eq_false g25
                  rw [decide_eq_decide]
                  constructor
                  · intro h hh; exact h (by have := hh.2.2.2.2.2.2; omega)
                  · intro h hh; exact h ⟨by omega, k10, k14, k18, k22, by omega, by omega⟩), rfl⟩
              · refine op_skip (g_no rfl rfl rfl g25) ?_
                refine op_skip (g_no rfl rfl rfl g25) ?_
                refine op_skip (g_no rfl rfl rfl g25) ?_
                refine op_skip (g_no rfl rfl rfl g25) ?_
                refine op_skip (g_no rfl rfl rfl g25) ?_
                refine op_skip (g_no rfl rfl rfl g25) ?_
                refine op_skip (g_no rfl rfl rfl g25) ?_
                refine o_pkTc rfl g25 rfl ?_
                refine ops_nil ?_
                exact ⟨by (repeat (first | with_reducible exact offM_refl _ _ | refine offM_updc rfl ?_ | refine offM_upd rfl ?_ | refine offM_updo rfl ?_ | refine offM_updo_none ?_ | refine offM_head rfl rfl ?_)), congrArg (fun b => [Value.bool b]) (by have k := of_decide_eq_true g25; symm; exact decide_eq_true fun hh => k (by have := hh.2.2.2.2.2.1; omega)), rfl⟩
            · refine op_skip (g_no rfl rfl rfl g22) ?_
              refine op_skip (g_no rfl rfl rfl g22) ?_
              refine op_skip (g_no rfl rfl rfl g22) ?_
              refine op_skip (g_no rfl rfl rfl g22) ?_
              refine op_skip (g_no rfl rfl rfl g22) ?_
              refine op_skip (g_no rfl rfl rfl g22) ?_
              refine op_skip (g_no rfl rfl rfl g22) ?_
              refine o_pkTc rfl g22 rfl ?_
              refine o_mvt rfl ?_
              refine op_skip (g_no rfl rfl rfl rfl) ?_
              refine op_skip (g_no rfl rfl rfl rfl) ?_
              refine op_skip (g_no rfl rfl rfl rfl) ?_
              refine op_skip (g_no rfl rfl rfl rfl) ?_
              refine op_skip (g_no rfl rfl rfl rfl) ?_
              refine op_skip (g_no rfl rfl rfl rfl) ?_
              refine op_skip (g_no rfl rfl rfl rfl) ?_
              refine o_pkTc rfl rfl rfl ?_
              refine ops_nil ?_
              exact ⟨by (repeat (first | with_reducible exact offM_refl _ _ | refine offM_updc rfl ?_ | refine offM_upd rfl ?_ | refine offM_updo rfl ?_ | refine offM_updo_none ?_ | refine offM_head rfl rfl ?_)), congrArg (fun b => [Value.bool b]) (by symm; exact decide_eq_true fun hh => by rw [hh.2.2.2.2.1] at g22; simp at g22), rfl⟩
          · refine op_skip (g_no rfl rfl rfl g18) ?_
            refine op_skip (g_no rfl rfl rfl g18) ?_
            refine op_skip (g_no rfl rfl rfl g18) ?_
            refine op_skip (g_no rfl rfl rfl g18) ?_
            refine op_skip (g_no rfl rfl rfl g18) ?_
            refine o_pkTc rfl g18 rfl ?_
            refine o_mvt rfl ?_
            refine op_skip (g_no rfl rfl rfl rfl) ?_
            refine op_skip (g_no rfl rfl rfl rfl) ?_
            refine op_skip (g_no rfl rfl rfl rfl) ?_
            refine op_skip (g_no rfl rfl rfl rfl) ?_
            refine op_skip (g_no rfl rfl rfl rfl) ?_
            refine op_skip (g_no rfl rfl rfl rfl) ?_
            refine op_skip (g_no rfl rfl rfl rfl) ?_
            refine o_pkTc rfl rfl rfl ?_
            refine o_mvt rfl ?_
            refine op_skip (g_no rfl rfl rfl rfl) ?_
            refine op_skip (g_no rfl rfl rfl rfl) ?_
            refine op_skip (g_no rfl rfl rfl rfl) ?_
            refine op_skip (g_no rfl rfl rfl rfl) ?_
            refine op_skip (g_no rfl rfl rfl rfl) ?_
            refine op_skip (g_no rfl rfl rfl rfl) ?_
            refine op_skip (g_no rfl rfl rfl rfl) ?_
            refine o_pkTc rfl rfl rfl ?_
            refine ops_nil ?_
            exact ⟨by (repeat (first | with_reducible exact offM_refl _ _ | refine offM_updc rfl ?_ | refine offM_upd rfl ?_ | refine offM_updo rfl ?_ | refine offM_updo_none ?_ | refine offM_head rfl rfl ?_)), congrArg (fun b => [Value.bool b]) (by symm; exact decide_eq_true fun hh => by rw [hh.2.2.2.1] at g18; simp at g18), rfl⟩
        · refine op_skip (g_no rfl rfl rfl g14) ?_
          refine op_skip (g_no rfl rfl rfl g14) ?_
          refine op_skip (g_no rfl rfl rfl g14) ?_
          refine op_skip (g_no rfl rfl rfl g14) ?_
          refine op_skip (g_no rfl rfl rfl g14) ?_
          refine o_pkTc rfl g14 rfl ?_
          refine o_mvt rfl ?_
          refine op_skip (g_no rfl rfl rfl rfl) ?_
          refine op_skip (g_no rfl rfl rfl rfl) ?_
          refine op_skip (g_no rfl rfl rfl rfl) ?_
          refine op_skip (g_no rfl rfl rfl rfl) ?_
          refine op_skip (g_no rfl rfl rfl rfl) ?_
          refine o_pkTc rfl rfl rfl ?_
          refine o_mvt rfl ?_
          refine op_skip (g_no rfl rfl rfl rfl) ?_
          refine op_skip (g_no rfl rfl rfl rfl) ?_
          refine op_skip (g_no rfl rfl rfl rfl) ?_
          refine op_skip (g_no rfl rfl rfl rfl) ?_
          refine op_skip (g_no rfl rfl rfl rfl) ?_
          refine op_skip (g_no rfl rfl rfl rfl) ?_
          refine op_skip (g_no rfl rfl rfl rfl) ?_
          refine o_pkTc rfl rfl rfl ?_
          refine o_mvt rfl ?_
          refine op_skip (g_no rfl rfl rfl rfl) ?_
          refine op_skip (g_no rfl rfl rfl rfl) ?_
          refine op_skip (g_no rfl rfl rfl rfl) ?_
          refine op_skip (g_no rfl rfl rfl rfl) ?_
          refine op_skip (g_no rfl rfl rfl rfl) ?_
          refine op_skip (g_no rfl rfl rfl rfl) ?_
          refine op_skip (g_no rfl rfl rfl rfl) ?_
          refine o_pkTc rfl rfl rfl ?_
          refine ops_nil ?_
          exact ⟨by (repeat (first | with_reducible exact offM_refl _ _ | refine offM_updc rfl ?_ | refine offM_upd rfl ?_ | refine offM_updo rfl ?_ | refine offM_updo_none ?_ | refine offM_head rfl rfl ?_)), congrArg (fun b => [Value.bool b]) (by symm; exact decide_eq_true fun hh => by rw [hh.2.2.1] at g14; simp at g14), rfl⟩
      · refine op_skip (g_no rfl rfl rfl g10) ?_
        refine op_skip (g_no rfl rfl rfl g10) ?_
        refine op_skip (g_no rfl rfl rfl g10) ?_
        refine op_skip (g_no rfl rfl rfl g10) ?_
        refine op_skip (g_no rfl rfl rfl g10) ?_
        refine o_pkTc rfl g10 rfl ?_
        refine o_mvt rfl ?_
        refine op_skip (g_no rfl rfl rfl rfl) ?_
        refine op_skip (g_no rfl rfl rfl rfl) ?_
        refine op_skip (g_no rfl rfl rfl rfl) ?_
        refine op_skip (g_no rfl rfl rfl rfl) ?_
        refine op_skip (g_no rfl rfl rfl rfl) ?_
        refine o_pkTc rfl rfl rfl ?_
        refine o_mvt rfl ?_
        refine op_skip (g_no rfl rfl rfl rfl) ?_
        refine op_skip (g_no rfl rfl rfl rfl) ?_
        refine op_skip (g_no rfl rfl rfl rfl) ?_
        refine op_skip (g_no rfl rfl rfl rfl) ?_
        refine op_skip (g_no rfl rfl rfl rfl) ?_
        refine o_pkTc rfl rfl rfl ?_
        refine o_mvt rfl ?_
        refine op_skip (g_no rfl rfl rfl rfl) ?_
        refine op_skip (g_no rfl rfl rfl rfl) ?_
        refine op_skip (g_no rfl rfl rfl rfl) ?_
        refine op_skip (g_no rfl rfl rfl rfl) ?_
        refine op_skip (g_no rfl rfl rfl rfl) ?_
        refine op_skip (g_no rfl rfl rfl rfl) ?_
        refine op_skip (g_no rfl rfl rfl rfl) ?_
        refine o_pkTc rfl rfl rfl ?_
        refine o_mvt rfl ?_
        refine op_skip (g_no rfl rfl rfl rfl) ?_
        refine op_skip (g_no rfl rfl rfl rfl) ?_
        refine op_skip (g_no rfl rfl rfl rfl) ?_
        refine op_skip (g_no rfl rfl rfl rfl) ?_
        refine op_skip (g_no rfl rfl rfl rfl) ?_
        refine op_skip (g_no rfl rfl rfl rfl) ?_
        refine op_skip (g_no rfl rfl rfl rfl) ?_
        refine o_pkTc rfl rfl rfl ?_
        refine ops_nil ?_
        exact ⟨by (repeat (first | with_reducible exact offM_refl _ _ | refine offM_updc rfl ?_ | refine offM_upd rfl ?_ | refine offM_updo rfl ?_ | refine offM_updo_none ?_ | refine offM_head rfl rfl ?_)), congrArg (fun b => [Value.bool b]) (by symm; exact decide_eq_true fun hh => by rw [hh.2.1] at g10; simp at g10), rfl⟩
    · refine op_skip (g_no rfl rfl rfl g6) ?_
      refine op_skip (g_no rfl rfl rfl g6) ?_
      refine op_skip (g_no rfl rfl rfl g6) ?_
      refine op_skip (g_no rfl rfl rfl g6) ?_
      refine op_skip (g_no rfl rfl rfl g6) ?_
      refine o_pkTc rfl g6 rfl ?_
      refine o_mvt rfl ?_
      refine op_skip (g_no rfl rfl rfl rfl) ?_
      refine op_skip (g_no rfl rfl rfl rfl) ?_
      refine op_skip (g_no rfl rfl rfl rfl) ?_
      refine op_skip (g_no rfl rfl rfl rfl) ?_
      refine op_skip (g_no rfl rfl rfl rfl) ?_
      refine o_pkTc rfl rfl rfl ?_
      refine o_mvt rfl ?_
      refine op_skip (g_no rfl rfl rfl rfl) ?_
      refine op_skip (g_no rfl rfl rfl rfl) ?_
      refine op_skip (g_no rfl rfl rfl rfl) ?_
      refine op_skip (g_no rfl rfl rfl rfl) ?_
      refine op_skip (g_no rfl rfl rfl rfl) ?_
      refine o_pkTc rfl rfl rfl ?_
      refine o_mvt rfl ?_
      refine op_skip (g_no rfl rfl rfl rfl) ?_
      refine op_skip (g_no rfl rfl rfl rfl) ?_
      refine op_skip (g_no rfl rfl rfl rfl) ?_
      refine op_skip (g_no rfl rfl rfl rfl) ?_
      refine op_skip (g_no rfl rfl rfl rfl) ?_
      refine o_pkTc rfl rfl rfl ?_
      refine o_mvt rfl ?_
      refine op_skip (g_no rfl rfl rfl rfl) ?_
      refine op_skip (g_no rfl rfl rfl rfl) ?_
      refine op_skip (g_no rfl rfl rfl rfl) ?_
      refine op_skip (g_no rfl rfl rfl rfl) ?_
      refine op_skip (g_no rfl rfl rfl rfl) ?_
      refine op_skip (g_no rfl rfl rfl rfl) ?_
      refine op_skip (g_no rfl rfl rfl rfl) ?_
      refine o_pkTc rfl rfl rfl ?_
      refine o_mvt rfl ?_
      refine op_skip (g_no rfl rfl rfl rfl) ?_
      refine op_skip (g_no rfl rfl rfl rfl) ?_
      refine op_skip (g_no rfl rfl rfl rfl) ?_
      refine op_skip (g_no rfl rfl rfl rfl) ?_
      refine op_skip (g_no rfl rfl rfl rfl) ?_
      refine op_skip (g_no rfl rfl rfl rfl) ?_
      refine op_skip (g_no rfl rfl rfl rfl) ?_
      refine o_pkTc rfl rfl rfl ?_
      refine ops_nil ?_
      exact ⟨by (repeat (first | with_reducible exact offM_refl _ _ | refine offM_updc rfl ?_ | refine offM_upd rfl ?_ | refine offM_updo rfl ?_ | refine offM_updo_none ?_ | refine offM_head rfl rfl ?_)), congrArg (fun b => [Value.bool b]) (by have k := of_decide_eq_true g6; symm; exact decide_eq_true fun hh => k (by have := hh.1; omega)), rfl⟩
  · rintro J35 vs w35 ⟨rfl, rfl⟩ -
    refine W_cond_p rfl (fun h36 => ?_) (fun h36 => ?_)
    · refine W_seq ?_
      refine W_region ?_
      refine o_asc rfl ?_
      refine ops_nil ?_
      refine W_ret ?_
      refine ret1 (.bool false) rfl ?_ ?_; rfl
      exact ⟨congrArg Value.bool (decide_eq_false fun e => h36 (by subst e; exact ⟨rfl, rfl, rfl, rfl, rfl, rfl, rfl⟩)).symm, hk1.trans hk2⟩
    · refine W_skip ?_
      refine W_seq ?_
      refine W_seq ?_
      refine W_region ?_
      refine o_asc rfl ?_
      refine ops_nil ?_
      refine W_block ?_
      obtain ⟨k1, k2, k3, k4, k5, k6, k7⟩ := Decidable.not_not.1 h36
      refine W_loop [5] [4, 5, 58, 59, 60, 61, 62, 63, 64, 65, 66, 67, 68, 69, 70, 71, 72, 73, 74, 75] (fun vs w' => ∃ k : Nat, vs = [.int .i64 k] ∧ k ≤ c.bins.length ∧ c.bins.take k = d.bins.take k ∧ Keep All w35 w') (fun vs _ => match vs with | [.int _ y] => c.bins.length - y.toNat | _ => 0) ⟨0, rfl, Nat.zero_le _, rfl, Keep.refl _⟩ ?_
      rintro J38 vs w38 ⟨k, rfl, hk, htk, hkA⟩ -
      refine W_seq ?_
      refine W_seq ?_
      refine W_region ?_
      refine o_mvt rfl ?_
      refine op_run (r_fieldAddr rfl rfl rfl rfl rfl) rfl ?_
      refine op_run (r_load rfl rfl rfl ((hkA.blk' hB1 trivial).cell (cmV_bins _ _ _))) rfl ?_
      refine op_run (r_len rfl rfl rfl) rfl ?_
      refine op_run (r_lss rfl rfl) rfl ?_
      refine ops_nil ?_
      refine W_cond_p rfl (fun h40 => ?_) (fun h40 => ?_)
      · refine W_skip ?_
        refine W_seq ?_
        refine W_block ?_
        refine W_seq ?_
        have hkl : k < c.bins.length := by omega
        have hkl2 : k < d.bins.length := by omega
        obtain ⟨bp, op, e1_, hcell⟩ := rows_at' (i := k) binV_len (hc2.1.k hkA) hkl (by decide)
        obtain ⟨bq, oq, e2_, hcell2⟩ := rows_at' (i := k) binV_len (hd2.1.k hkA) hkl2 (by decide)
        cases e1_; cases e2_
        obtain ⟨x, hx⟩ : ∃ x, x = c.bins[k] := ⟨_, rfl⟩
        obtain ⟨y, hy⟩ : ∃ y, y = d.bins[k] := ⟨_, rfl⟩
        rw [← hx] at hcell
        rw [← hy] at hcell2
        refine W_quiet (Keep All w38) (by kernel_rfl) (by kernel_rfl) (Keep.drawn _) ?_
        refine q_run (fun _ _ => (r_fieldAddr rfl rfl rfl rfl rfl)) rfl ?_
        refine q_run (fun _ hk => r_load rfl rfl rfl (hk.cell ((hkA.blk' hB1 trivial).cell (cmV_bins _ _ _)) trivial)) rfl ?_
        refine q_mvt rfl ?_
        refine q_run (fun _ _ => r_idxS rfl rfl rfl ti_bin (by omega) (by omega)) rfl ?_
        refine q_run (fun _ hk => r_loadA (binV x) rfl rfl rfl (by first | rfl | (rw [binV_len]; rfl) | (rw [dgR_len]; rfl) | (rw [refR_len]; rfl) | (rw [secR_len]; rfl) | (rw [List.length_map, tagF_len]; rfl)) ((by intro j z hj; rw [Int.toNat_natCast]; exact hk.cell (hcell j z hj) trivial))) rfl ?_
        refine q_run (fun _ _ => (r_fieldAddr rfl rfl rfl rfl rfl)) rfl ?_
        refine q_run (fun _ hk => r_load rfl rfl rfl (hk.cell ((hkA.blk' hB2 trivial).cell (cmV_bins _ _ _)) trivial)) rfl ?_
        refine q_mvt rfl ?_
        refine q_run (fun _ _ => r_idxS rfl rfl rfl ti_bin (by omega) (by omega)) rfl ?_
        refine q_run (fun _ hk => r_loadA (binV y) rfl rfl rfl (by first | rfl | (rw [binV_len]; rfl) | (rw [dgR_len]; rfl) | (rw [refR_len]; rfl) | (rw [secR_len]; rfl) | (rw [List.length_map, tagF_len]; rfl)) ((by intro j z hj; rw [Int.toNat_natCast]; exact hk.cell (hcell2 j z hj) trivial))) rfl ?_
        refine q_run (fun _ _ => (r_neqC (p := x = y) rfl rfl rfl rfl (by kernel_rfl) (okC_bin _) (okC_bin _) rfl (binV_inj))) rfl ?_
        refine q_nil ?_; intro w49 hk49
        refine W_cond rfl (fun h50 => ?_) (fun h50 => ?_)
        · refine W_seq ?_
          refine W_region ?_
          refine o_asc rfl ?_
          refine ops_nil ?_
          refine W_ret ?_
          refine ret1 (.bool false) rfl ?_ ?_; rfl
          refine ⟨congrArg Value.bool (decide_eq_false fun e => ?_).symm, ((hk1.trans hk2).trans hkA).trans hk49⟩
          subst e; rw [hx, hy] at h50; simp at h50
        · refine W_skip ?_
          refine W_region ?_
          refine o_mvt rfl ?_
          refine op_run (r_add rfl rfl) rfl ?_
          refine o_ast rfl ?_
          refine ops_nil ?_
          have hinc := inc64' k (by omega)
          have he : c.bins[k] = d.bins[k] := by rw [hx, hy] at h50; simpa using h50
          refine ⟨by (repeat (first | with_reducible exact offM_refl _ _ | refine offM_updc rfl ?_ | refine offM_upd rfl ?_ | refine offM_updo rfl ?_ | refine offM_updo_none ?_ | refine offM_head rfl rfl ?_)), ⟨k + 1, congrArg (fun z : Int => [Value.int .i64 z]) hinc, by omega, by rw [List.take_succ_eq_append_getElem hkl, List.take_succ_eq_append_getElem hkl2, htk, he], hkA.trans hk49⟩, ?_⟩
          show c.bins.length - (IntKind.i64.wrap ((k : Int) + 1)).toNat < c.bins.length - (k : Int).toNat
          rw [hinc]; omega
      · refine W_exit ?_
        refine W_seq ?_
        refine W_seq ?_
        refine W_region ?_
        refine o_asc rfl ?_
        refine ops_nil ?_
        refine W_block ?_
        have hbe : c.bins = d.bins := by
          have h := htk
          rw [show k = c.bins.length by omega, List.take_length, k6, List.take_length] at h; exact h
        refine W_loop [6] [4, 6, 76, 77, 78, 79, 80, 81, 82, 83, 84, 85, 86, 87, 88, 89, 90, 91, 92, 93, 94] (fun vs w' => ∃ k : Nat, vs = [.int .i64 k] ∧ k ≤ c.events.length ∧ c.events.take k = d.events.take k ∧ Keep All w38 w') (fun vs _ => match vs with | [.int _ y] => c.events.length - y.toNat | _ => 0) ⟨0, rfl, Nat.zero_le _, rfl, Keep.refl _⟩ ?_
        rintro J53 vs w53 ⟨m, rfl, hm, htm, hkB⟩ -
        have hkE := hkA.trans hkB
        refine W_seq ?_
        refine W_seq ?_
        refine W_region ?_
        refine o_mvt rfl ?_
        refine op_run (r_fieldAddr rfl rfl rfl rfl rfl) rfl ?_
        refine op_run (r_load rfl rfl rfl ((hkE.blk' hB1 trivial).cell (cmV_events _ _ _))) rfl ?_
        refine op_run (r_len rfl rfl rfl) rfl ?_
        refine op_run (r_lss rfl rfl) rfl ?_
        refine ops_nil ?_
        refine W_cond_p rfl (fun h55 => ?_) (fun h55 => ?_)
        · refine W_skip ?_
          refine W_seq ?_
          refine W_block ?_
          refine W_seq ?_
          have hml : m < c.events.length := by omega
          have hml2 : m < d.events.length := by omega
          obtain ⟨vk, hvk⟩ : ∃ vk, vks[m]? = some vk := ⟨_, List.getElem?_eq_getElem (by omega)⟩
          obtain ⟨wk, hwk⟩ : ∃ wk, wks[m]? = some wk := ⟨_, List.getElem?_eq_getElem (by omega)⟩
          obtain ⟨bp, op, cp, ep, hcell⟩ := (hc2.2.k hkE).at hvk
          obtain ⟨bq, oq, cq, eq_, hcell2⟩ := (hd2.2.k hkE).at hwk
          cases ep; cases eq_
          refine W_quiet (Keep All w53) (by kernel_rfl) (by kernel_rfl) (Keep.drawn _) ?_
          refine q_run (fun _ _ => (r_fieldAddr rfl rfl rfl rfl rfl)) rfl ?_
          refine q_run (fun _ hk => r_load rfl rfl rfl (hk.cell ((hkE.blk' hB1 trivial).cell (cmV_events _ _ _)) trivial)) rfl ?_
          refine q_mvt rfl ?_
          refine q_run (fun _ _ => r_idxS1 rfl rfl rfl rfl (by omega) (by omega)) rfl ?_
          refine q_run (fun _ hk => r_load rfl rfl rfl (hk.cell hcell trivial)) rfl ?_
          refine q_run (fun _ _ => (r_fieldAddr rfl rfl rfl rfl rfl)) rfl ?_
          refine q_run (fun _ hk => r_load rfl rfl rfl (hk.cell ((hkE.blk' hB2 trivial).cell (cmV_events _ _ _)) trivial)) rfl ?_
          refine q_mvt rfl ?_
          refine q_run (fun _ _ => r_idxS1 rfl rfl rfl rfl (by omega) (by omega)) rfl ?_
          refine q_run (fun _ hk => r_load rfl rfl rfl (hk.cell hcell2 trivial)) rfl ?_
          refine q_call rfl rfl rfl (fun _ hk => (ref01_Same _ vk wk c.events[m] d.events[m] (((hc2.2.k hkE).2.2 m vk _ hvk (List.getElem?_eq_getElem hml)).keep hk (fun _ _ => trivial)) (((hd2.2.k hkE).2.2 m wk _ hwk (List.getElem?_eq_getElem hml2)).keep hk (fun _ _ => trivial))).mono fun e w'' ⟨u, he, h1, h2⟩ => ⟨u, he, h1, hk.trans h2⟩) ?_
          refine q_run (fun _ _ => (r_not rfl)) rfl ?_
          refine q_nil ?_; intro w64 hk64
          refine W_cond rfl (fun h65 => ?_) (fun h65 => ?_)
          · refine W_seq ?_
            refine W_region ?_
            refine o_asc rfl ?_
            refine ops_nil ?_
            refine W_ret ?_
            refine ret1 (.bool false) rfl ?_ ?_; rfl
            refine ⟨congrArg Value.bool (decide_eq_false fun e => ?_).symm, ((hk1.trans hk2).trans hkE).trans hk64⟩
            subst e; simp at h65
          · refine W_skip ?_
            refine W_region ?_
            refine o_mvt rfl ?_
            refine op_run (r_add rfl rfl) rfl ?_
            refine o_ast rfl ?_
            refine ops_nil ?_
            have hinc := inc64' m (by omega)
            have he : c.events[m] = d.events[m] := by simpa using h65
            refine ⟨by (repeat (first | with_reducible exact offM_refl _ _ | refine offM_updc rfl ?_ | refine offM_upd rfl ?_ | refine offM_updo rfl ?_ | refine offM_updo_none ?_ | refine offM_head rfl rfl ?_)), ⟨m + 1, congrArg (fun z : Int => [Value.int .i64 z]) hinc, by omega, by rw [List.take_succ_eq_append_getElem hml, List.take_succ_eq_append_getElem hml2, htm, he], hkB.trans hk64⟩, ?_⟩
            show c.events.length - (IntKind.i64.wrap ((m : Int) + 1)).toNat < c.events.length - (m : Int).toNat
            rw [hinc]; omega
        · refine W_exit ?_
          refine W_seq ?_
          refine W_region ?_
          refine o_asc rfl ?_
          refine ops_nil ?_
          refine W_ret ?_
          refine ret1 (.bool true) rfl ?_ ?_; rfl
          have hee : c.events = d.events := by
            have h := htm
            rw [show m = c.events.length by omega, List.take_length, k7, List.take_length] at h; exact h
          refine ⟨congrArg Value.bool (decide_eq_true ?_).symm, (hk1.trans hk2).trans hkE⟩
          obtain ⟨a1, a2, a3, a4, a5, a6, a7⟩ := c
          obtain ⟨b1', b2', b3', b4', b5', b6', b7'⟩ := d
          simp only at k1 k2 k3 k4 k5 hbe hee
          subst k1; subst k2; subst k3; subst k4; subst k5; subst hbe; subst hee
          rfl
end Go.Proofs.Ytlpkdblhaahkaaa.B
