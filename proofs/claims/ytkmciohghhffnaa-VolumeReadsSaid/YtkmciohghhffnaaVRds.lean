/-
  VolumeReads.
-/
import Derived.Test.YtkmciohghhffnaaVRdc
import Derived.Test.YtkmciohghhffnaaVDcP
import Derived.Test.YtkmciohghhffnaaVLaw1
namespace Go.Proofs.Ytkmciohghhffnaa.B
open Go
set_option linter.unusedVariables false
set_option maxHeartbeats 2000000
set_option maxRecDepth 100000
attribute [local irreducible] W OpsW OpsQ retP
def RdcP (w : World) (xs : List UInt8) (v : Value) (k : Int) (w' : World) : Prop :=
  ((setR12 xs = none ∧ k = 3) ∨ ∃ L ys, setR12 xs = some L ∧ k = 0 ∧ ImgsS w' v (L.map img1) ys) ∧ Keep All w w'
theorem rf12_DecodeP (w : World) (v : Value) (xs : List UInt8) (hx : By w v xs) (hl : xs.length ≤ 1000000) : Ret Try.prog 29 [v].toArray w fun r w' => ∃ v' k, r = .tuple #[v', .int .i64 k] ∧ RdcP w xs v' k w' := by
  refine Calls.mono (rf12_Decode w v xs hx hl) ?_
  rintro e w' ⟨r, rfl, hh⟩
  refine ⟨r, rfl, ?_⟩
  obtain ⟨hh | hh, hk⟩ := hh
  · obtain ⟨h1, rfl⟩ := hh
    exact ⟨.slice none 0 0, 3, rfl, .inl ⟨h1, rfl⟩, hk⟩
  · obtain ⟨L, v', ys, h1, rfl, h2⟩ := hh
    exact ⟨v', 0, rfl, .inr ⟨L, ys, h1, rfl, h2⟩, hk⟩
theorem walk_VolumeReads (w : World) (v : Value) (xs : List UInt8) (hx : By w v xs) : Ret Try.prog 7 [v].toArray w fun r w' => r = .bool true ∧ Keep All w w' := by
  obtain ⟨a0, c0, rfl, hc0, hcm0⟩ := hx.form
  refine enter (fn := Try.f7) (n := 51) Try.func7 rfl rfl (by simp) ?_
  refine W_seq ?_
  refine W_region ?_
  refine o_asc rfl ?_
  refine ops_nil ?_
  refine W_seq ?_
  refine W_seq ?_
  refine W_region ?_
  refine op_call rfl rfl rfl (lw_speaks w) ?_; rintro v1 w1 ⟨rfl, hk1⟩
  refine op_run (r_not rfl) rfl ?_
  refine ops_nil ?_
  refine W_no rfl (rfl) ?_
  refine W_skip ?_
  refine W_seq ?_
  refine W_seq ?_
  refine W_region ?_
  refine o_mvt rfl ?_
  refine op_run (r_len rfl rfl rfl) rfl ?_
  refine op_run (r_gtr rfl rfl) rfl ?_
  refine ops_nil ?_
  refine W_cond_p rfl (fun h4 => ?_) (fun h4 => ?_)
  · refine W_seq ?_
    refine W_region ?_
    refine o_asc rfl ?_
    refine ops_nil ?_
    refine W_ret ?_
    refine ret1 (.bool true) rfl ?_ ?_; rfl
    exact ⟨rfl, hk1⟩
  · refine W_skip ?_
    refine W_seq ?_
    refine W_region ?_
    have hx1 := hx.keep hk1 (fun _ _ => trivial)
    have hl3 : xs.length ≤ 3000 := by omega
    refine o_bs0 rfl rfl rfl ?_; intro w6 b6 e6 hB6 hk6 hs6
    refine o_mvt rfl ?_
    refine o_appS (v := .slice (some ⟨b6, 0, none⟩) 0 0) rfl rfl (hx1.keep hk6 (fun _ _ => trivial)) rfl ti_u8 rfl rfl (Own.blk hB6 rfl (Nat.zero_le _)) (all_c8 _) (by unfold maxLen; omega) (by omega) rfl ?_; intro v7 w7 hown7 hk7 hb7
    have hby7 : By w7 v7 xs := by
      have h := hown7.sl
      rw [Nat.zero_add, List.nil_append] at h; exact h
    have hk17 : Keep All w1 w7 := hk6.own hk7 (fun z hz _ => by have hz : some b6 = some z := hz; injection hz with hz; omega)
    have hx7 := hx1.keep hk17 (fun _ _ => trivial)
    refine op_call rfl rfl rfl (vl_DecodeP w7 v7 xs hby7 (by omega)) ?_; rintro v8 w8 ⟨p8, k8, rfl, hD⟩
    refine o_mvt rfl ?_
    refine op_run (r_extract rfl rfl) rfl ?_
    refine op_run (r_extract rfl rfl) rfl ?_
    refine o_ast rfl ?_
    refine o_ast rfl ?_
    refine ops_nil ?_
    refine W_seq ?_
    refine W_region ?_
    refine o_mvt rfl ?_
    refine op_call rfl rfl rfl (rf12_DecodeP w8 _ xs (hx7.keep hD.k (fun _ _ => trivial)) (by omega)) ?_; rintro v9 w9 ⟨u9, k9, rfl, hR⟩
    have hk9 : Keep All w w9 := ((hk1.trans hk17).trans hD.k).trans hR.2
    refine o_mvt rfl ?_
    refine op_run (r_extract rfl rfl) rfl ?_
    refine op_run (r_extract rfl rfl) rfl ?_
    refine o_ast rfl ?_
    refine o_ast rfl ?_
    refine ops_nil ?_
    refine W_seq ?_
    refine W_seq ?_
    refine W_region ?_
    refine o_mvt rfl ?_
    refine op_run (r_neq rfl rfl) rfl ?_
    refine ops_nil ?_
    refine W_cond_p rfl (fun h10 => ?_) (fun h10 => ?_)
    · refine W_seq ?_
      refine W_region ?_
      refine o_mvt rfl ?_
      refine o_mvt rfl ?_
      refine op_run (r_eql rfl rfl) rfl ?_
      refine o_mvt rfl ?_
      obtain ⟨hn, hk3⟩ : setR12 xs = none ∧ k9 = 3 := by
        rcases hR.1 with hh | ⟨_, _, _, hh, _⟩
        · exact hh
        · exact absurd hh h10
      obtain ⟨hp, hk8⟩ : p8 = none ∧ k8 = 3 := by
        rcases hD with ⟨_, h1, h2, _⟩ | ⟨_, _, _, h1, _⟩
        · exact ⟨h1, h2⟩
        · rw [hn] at h1; cases h1
      refine g_split rfl rfl rfl (fun g11 => ?_) (fun g11 => ?_)
      · refine o_mvt (g_yes rfl rfl rfl g11) ?_
        refine op_run (r_isNilP rfl rfl) (g_yes rfl rfl rfl g11) ?_
        refine o_pkTt rfl g11 rfl ?_
        refine o_ast rfl ?_
        refine ops_nil ?_
        refine W_ret ?_
        refine ret1 (.bool p8.isNone) rfl ?_ ?_; rfl
        exact ⟨by rw [hp]; rfl, hk9⟩
      · refine op_skip (g_no rfl rfl rfl g11) ?_
        refine op_skip (g_no rfl rfl rfl g11) ?_
        refine o_pkFc rfl g11 rfl ?_
        refine o_ast rfl ?_
        refine ops_nil ?_
        refine W_ret ?_
        exfalso; rw [hk3, hk8] at g11; exact absurd g11 (by decide)
    · refine W_skip ?_
      refine W_seq ?_
      refine W_region ?_
      refine o_mvt rfl ?_
      refine op_run (r_eql rfl rfl) rfl ?_
      refine o_mvt rfl ?_
      have hk90 : k9 = 0 := Classical.byContradiction fun hh => h10 hh
      obtain ⟨L, ys, hs, hI⟩ : ∃ L ys, setR12 xs = some L ∧ ImgsS w9 u9 (L.map img1) ys := by
        rcases hR.1 with ⟨_, hh⟩ | ⟨L, ys, h1, _, h2⟩
        · rw [hk90] at hh; cases hh
        · exact ⟨L, ys, h1, h2⟩
      obtain ⟨mb, bm, l', hl', hp8, hk80, M8⟩ : ∃ mb bm l', abs l' = L ∧ p8 = some ⟨mb, 0, none⟩ ∧ k8 = 0 ∧ MSv w7 w8 mb bm l' := by
        rcases hD with ⟨h1, _⟩ | ⟨mb, bm, l', h1, h2, h3, h4⟩
        · rw [hs] at h1; cases h1
        · rw [hs] at h1; exact ⟨mb, bm, l', (Option.some.inj h1).symm, h2, h3, h4⟩
      subst hp8
      subst hk80
      have M9 := M8.m.k hR.2
      obtain ⟨hsm, hbn, hio⟩ := ok_all hs hl3
      obtain ⟨hxe, hup⟩ := setR12_can hs
      rw [← hl'] at hsm hbn hio
      refine g_split rfl rfl rfl (fun g14 => ?_) (fun g14 => ?_)
      · refine o_mvt (g_yes rfl rfl rfl g14) ?_
        refine op_run (r_notNilV rfl rfl) (g_yes rfl rfl rfl g14) ?_
        refine o_pkTt rfl g14 rfl ?_
        refine o_mvt rfl ?_
        refine g_split rfl rfl rfl (fun g16 => ?_) (fun g16 => ?_)
        · refine o_mvt (g_yes rfl rfl rfl g16) ?_
          refine op_call rfl rfl (g_yes rfl rfl rfl g16) (md_Images w9 mb bm l' M9 hsm hbn) ?_; rintro v17 w17 ⟨⟨ysA, hOA⟩, hIA, hk17'⟩
          refine o_mvt (g_yes rfl rfl rfl g16) ?_
          refine op_call rfl rfl (g_yes rfl rfl rfl g16) (rf12_Same w17 _ _ (imgD (abs l')) ysA ys hOA.s (by rw [hl', imgD_up hup]; exact hI.k hk17') (imgD_small hbn (by decide))) ?_; rintro v18 w18 ⟨rfl, hk18⟩
          refine o_pkTt rfl g16 rfl ?_
          refine o_mvt rfl ?_
          refine g_split rfl rfl rfl (fun g19 => ?_) (fun g19 => ?_)
          · refine o_mvt (g_yes rfl rfl rfl g19) ?_
            refine op_call rfl rfl (g_yes rfl rfl rfl g19) (vl_Encode w18 mb bm l' ((M9.k hk17').k hk18) hsm hbn hio) ?_; rintro v20 w20 ⟨hO20, hk20, hI20⟩
            refine o_mvt (g_yes rfl rfl rfl g19) ?_
            refine op_call rfl rfl (g_yes rfl rfl rfl g19) (ref01_Same w20 _ _ _ xs (OwnB.by_ hO20) ((((hx7.keep hD.k (fun _ _ => trivial)).keep hR.2 (fun _ _ => trivial)).keep (hk17'.trans hk18) (fun _ _ => trivial)).keep hk20 (fun _ _ => trivial))) ?_; rintro v21 w21 ⟨rfl, hk21⟩
            refine o_pkTt rfl g19 rfl ?_
            refine o_ast rfl ?_
            refine ops_nil ?_
            refine W_ret ?_
            refine ret1 (.bool (decide (encN (abs l').length ++ (imgD (abs l')).flatMap encI = xs))) rfl ?_ ?_; rfl
            refine ⟨congrArg Value.bool (decide_eq_true ?_), hk9.trans (((hk17'.trans hk18).trans hk20).trans hk21)⟩
            rw [hl', encL_img hup, ← hxe]
          · refine op_skip (g_no rfl rfl rfl g19) ?_
            refine op_skip (g_no rfl rfl rfl g19) ?_
            refine op_skip (g_no rfl rfl rfl g19) ?_
            refine op_skip (g_no rfl rfl rfl g19) ?_
            refine o_pkFc rfl g19 rfl ?_
            refine o_ast rfl ?_
            refine ops_nil ?_
            refine W_ret ?_
            exfalso; simp at g19
        · refine op_skip (g_no rfl rfl rfl g16) ?_
          refine op_skip (g_no rfl rfl rfl g16) ?_
          refine op_skip (g_no rfl rfl rfl g16) ?_
          refine op_skip (g_no rfl rfl rfl g16) ?_
          refine o_pkFc rfl g16 rfl ?_
          refine o_mvt rfl ?_
          refine op_skip (g_no rfl rfl rfl rfl) ?_
          refine op_skip (g_no rfl rfl rfl rfl) ?_
          refine op_skip (g_no rfl rfl rfl rfl) ?_
          refine op_skip (g_no rfl rfl rfl rfl) ?_
          refine o_pkFc rfl rfl rfl ?_
          refine o_ast rfl ?_
          refine ops_nil ?_
          refine W_ret ?_
          exfalso; simp at g16
      · refine op_skip (g_no rfl rfl rfl g14) ?_
        refine op_skip (g_no rfl rfl rfl g14) ?_
        refine o_pkFc rfl g14 rfl ?_
        refine o_mvt rfl ?_
        refine op_skip (g_no rfl rfl rfl rfl) ?_
        refine op_skip (g_no rfl rfl rfl rfl) ?_
        refine op_skip (g_no rfl rfl rfl rfl) ?_
        refine op_skip (g_no rfl rfl rfl rfl) ?_
        refine o_pkFc rfl rfl rfl ?_
        refine o_mvt rfl ?_
        refine op_skip (g_no rfl rfl rfl rfl) ?_
        refine op_skip (g_no rfl rfl rfl rfl) ?_
        refine op_skip (g_no rfl rfl rfl rfl) ?_
        refine op_skip (g_no rfl rfl rfl rfl) ?_
        refine o_pkFc rfl rfl rfl ?_
        refine o_ast rfl ?_
        refine ops_nil ?_
        refine W_ret ?_
        exfalso; simp at g14
end Go.Proofs.Ytkmciohghhffnaa.B
