/-
  ShaTags: the walk.
-/
import Derived.Test.YtkjphbnmofhogaaShaSums
namespace Go.Proofs.Ytkjphbnmofhogaa.B
open Go
set_option linter.unusedVariables false
set_option maxHeartbeats 2000000
set_option maxRecDepth 100000
attribute [local irreducible] W OpsW OpsQ retP
/-- What each operation of the statement's bunch leaves. -/
def phiTags (use other : UInt8) (xa xb pa pb : List UInt8) (k : Nat) (v : Value) (wa wb : World) : Prop :=
  match k with
  | 3 => SlR wb v 1 (RowB wb) [xa, xb]
  | 4 => v = .agg ((tagF use [xa, xb]).map c8).toArray
  | 12 => SlR wb v 1 (RowB wb) [pa, pb]
  | 13 => v = .agg ((tagF other [pa, pb]).map c8).toArray
  | _ => ∃ l, l.length = 32 ∧ v = .pointer (some ⟨wa.heap.size, 0, none⟩) ∧ Blk wb wa.heap.size l 26 ∧ wa.heap.size < wb.heap.size

theorem walk_ShaTags (w : World) (va vb : Value) (use other : UInt8) (xa xb : List UInt8) (cut : Int) (ha : By w va xa) (hb : By w vb xb) :
    Ret Try.prog 5 [c8 use, c8 other, va, vb, .int .i64 cut].toArray w fun r w' => r = .bool true ∧ Keep All w w' := by
  obtain ⟨aa, ca, rfl, hca, hcma⟩ := ha.form
  obtain ⟨ab, cb, rfl, hcb, hcmb⟩ := hb.form
  obtain ⟨m, hm0, hm⟩ := and_mask cut 65535 (by decide)
  refine enter (fn := Try.f5) (n := 86) Try.func5 rfl rfl (by simp) ?_
  refine W_seq ?_
  refine W_region ?_
  refine o_asc rfl ?_
  refine ops_nil ?_
  refine W_seq ?_
  refine W_seq ?_
  refine W_region ?_
  refine op_call rfl rfl rfl (speaks02 w) ?_; rintro v1 w1 ⟨rfl, hk1⟩
  refine op_run (r_not rfl) rfl ?_
  refine ops_nil ?_
  refine W_no rfl (rfl) ?_
  refine W_skip ?_
  refine W_seq ?_
  refine W_cut [24] [17, 18, 19, 20, 21, 22, 23, 24] (fun vs w4 => vs = [.bool (decide (300 < xa.length ∨ 300 < xb.length))] ∧ w4 = w1) ?_ ?_
  · refine W_region ?_
    refine o_mvt rfl ?_
    refine op_run (r_len rfl rfl rfl) rfl ?_
    refine op_run (r_gtr rfl rfl) rfl ?_
    refine o_mvt rfl ?_
    refine g_split rfl rfl rfl (fun g5 => ?_) (fun g5 => ?_)
    · refine o_mvt (g_yes rfl rfl rfl g5) ?_
      refine op_run (r_len rfl rfl rfl) (g_yes rfl rfl rfl g5) ?_
      refine op_run (r_gtr rfl rfl) (g_yes rfl rfl rfl g5) ?_
      refine o_pkFt rfl g5 rfl ?_
      refine ops_nil ?_
      exact ⟨by (repeat (first | with_reducible exact offM_refl _ _ | refine offM_updc rfl ?_ | refine offM_upd rfl ?_ | refine offM_updo rfl ?_ | refine offM_updo_none ?_ | refine offM_head rfl rfl ?_)), congrArg (fun b => [Value.bool b]) (by have := of_decide_eq_false g5; rw [decide_eq_decide]; constructor <;> intro hh <;> omega), rfl⟩
    · refine op_skip (g_no rfl rfl rfl g5) ?_
      refine op_skip (g_no rfl rfl rfl g5) ?_
      refine op_skip (g_no rfl rfl rfl g5) ?_
      refine o_pkTc rfl g5 rfl ?_
      refine ops_nil ?_
      exact ⟨by (repeat (first | with_reducible exact offM_refl _ _ | refine offM_updc rfl ?_ | refine offM_upd rfl ?_ | refine offM_updo rfl ?_ | refine offM_updo_none ?_ | refine offM_head rfl rfl ?_)), congrArg (fun b => [Value.bool b]) (by have := of_decide_eq_true g5; symm; apply decide_eq_true; omega), rfl⟩
  · rintro J8 vs w8 ⟨rfl, rfl⟩ -
    refine W_cond_p rfl (fun h9 => ?_) (fun h9 => ?_)
    · refine W_seq ?_
      refine W_region ?_
      refine o_asc rfl ?_
      refine ops_nil ?_
      refine W_ret ?_
      refine ret1 (.bool true) rfl ?_ ?_; rfl
      exact ⟨rfl, hk1⟩
    · refine W_skip ?_
      refine W_seq ?_
      refine W_region ?_
      have hal : xa.length ≤ 300 := by omega
      have hbl : xb.length ≤ 300 := by omega
      have hl2 : (xa ++ xb).length = xa.length + xb.length := List.length_append
      refine o_bs0 rfl rfl rfl ?_; intro w11 b11 e11 hB11 hk11 hs11
      refine o_mvt rfl ?_
      refine o_appS (v := .slice (some ⟨b11, 0, none⟩) 0 0) rfl rfl ((ha.keep hk1 (fun _ _ => trivial)).keep hk11 (fun _ _ => trivial)) rfl ti_u8 rfl rfl (Own.blk (n := 0) (l := []) hB11 rfl (by unfold maxLen; omega)) (all_c8 _) (by unfold maxLen; omega) (by omega) rfl ?_; intro v12 w12 hown12 hk12 hb12
      have hown12 : OwnB w12 5 v12 ([] ++ xa) := OwnB.app hown12
      have hown12 : OwnB w12 5 v12 xa := hown12
      have hk12' : Keep All w8 w12 := hk11.new (b := b11) (hk12.mono fun b _ h e => h (Option.some.inj e)) (by omega)
      have hin12 : InB (fun b => w8.heap.size ≤ b) v12 := fun b hb => by
        rcases hb12 b hb with h | h
        · injection h with h; subst h; show w8.heap.size ≤ b11; omega
        · have := hk11.size; omega
      refine o_mvt rfl ?_
      refine o_appS (v := v12) rfl rfl ((hb.keep hk1 (fun _ _ => trivial)).keep hk12' (fun _ _ => trivial)) rfl ti_u8 rfl rfl hown12 (all_c8 _) (by unfold maxLen; omega) (by omega) rfl ?_; intro v13 w13 hown13 hk13 hb13
      have hown13 : OwnB w13 5 v13 (xa ++ xb) := OwnB.app hown13
      have hkA : Keep All w w13 := hk1.trans (hk12'.outA (B := fun k => w8.heap.size ≤ k) (hk13.mono fun b _ h e => h (hin12 b e.symm)) (fun b hb => hb))
      have hall : By w13 v13 (xa ++ xb) := hown13.by_
      obtain ⟨a13, c13, rfl, hc13, hcm13⟩ := hown13.form
      have ha13 := ha.keep hkA (fun _ _ => trivial)
      have hb13 := hb.keep hkA (fun _ _ => trivial)
      refine o_ast rfl ?_
      refine ops_nil ?_
      refine W_seq ?_
      refine W_region ?_
      refine o_mvt rfl ?_
      refine op_run ((r_and rfl rfl).val (congrArg (Value.int .i64) hm)) rfl ?_
      refine o_mvt rfl ?_
      refine op_run (r_len rfl rfl rfl) rfl ?_
      refine op_run ((r_add rfl rfl).val (congrArg (Value.int .i64) (show IntKind.i64.wrap (((xa ++ xb).length : Int) + 1) = (((xa ++ xb).length + 1 : Nat) : Int) from inc64' _ (by omega)))) rfl ?_
      refine op_run ((r_rem rfl rfl (by omega)).val (congrArg (Value.int .i64) (show Int.tmod (m : Int) (((xa ++ xb).length + 1 : Nat) : Int) = ((m % ((xa ++ xb).length + 1) : Nat) : Int) from rfl))) rfl ?_
      have hkl : m % ((xa ++ xb).length + 1) ≤ (xa ++ xb).length := by have := Nat.mod_lt m (show 0 < (xa ++ xb).length + 1 by omega); omega
      generalize m % ((xa ++ xb).length + 1) = kk at hkl ⊢
      have hpa : By w13 (subSl a13 1 0 kk c13) ((xa ++ xb).take kk) := by have := By.sub hall (Nat.zero_le kk) hkl (show kk ≤ c13 by omega) (Nat.le_refl _); simpa using this
      have hpb : By w13 (subSl a13 1 kk (xa ++ xb).length c13) ((xa ++ xb).drop kk) := by have := By.sub (h := (xa ++ xb).length) hall hkl (Nat.le_refl _) hc13 (Nat.le_refl _); rwa [List.take_length] at this
      have hpal : ((xa ++ xb).take kk).length ≤ 600 := by rw [List.length_take]; omega
      have hpbl : ((xa ++ xb).drop kk).length ≤ 600 := by rw [List.length_drop]; omega
      have hT1 : ∀ u, (tagB u [xa, xb]).length ≤ 1000000 := fun u => Nat.le_trans (tagB_len (n := 300) (m := 2) (fun p hp => by
        rcases List.mem_cons.1 hp with rfl | hp
        · exact hal
        · obtain rfl := List.mem_singleton.1 hp; exact hbl) (by decide) (Nat.le_refl _)) (by decide)
      have hT2 : ∀ u, (tagB u [(xa ++ xb).take kk, (xa ++ xb).drop kk]).length ≤ 1000000 := fun u => Nat.le_trans (tagB_len (n := 600) (m := 2) (fun p hp => by
        rcases List.mem_cons.1 hp with rfl | hp
        · exact hpal
        · obtain rfl := List.mem_singleton.1 hp; exact hpbl) (by decide) (Nat.le_refl _)) (by decide)
      refine o_ast rfl ?_
      refine ops_nil ?_
      refine W_seq ?_
      refine W_held (Keep All w13) (by kernel_rfl) (Keep.drawn _) (fun hS => ?_)
      refine any_mvt 0 rfl (by kernel_rfl) (by kernel_rfl) (by kernel_rfl) rfl hS ?_
      refine any_mvt 1 rfl (by kernel_rfl) (by kernel_rfl) (by kernel_rfl) rfl hS ?_
      refine any_mvt 2 rfl (by kernel_rfl) (by kernel_rfl) (by kernel_rfl) rfl hS ?_
      refine any_mvt 5 rfl (by kernel_rfl) (by kernel_rfl) (by kernel_rfl) rfl hS ?_
      refine any_mvt 6 rfl (by kernel_rfl) (by kernel_rfl) (by kernel_rfl) rfl hS ?_
      refine any_mvt 7 rfl (by kernel_rfl) (by kernel_rfl) (by kernel_rfl) rfl hS ?_
      refine any_run 8 (fun w' hS' => (r_sliceS_hi rfl rfl rfl rfl (by omega) (by omega))) rfl (by kernel_rfl) (by kernel_rfl) (by kernel_rfl) rfl hS ?_
      refine any_mvt 9 rfl (by kernel_rfl) (by kernel_rfl) (by kernel_rfl) rfl hS ?_
      refine any_mvt 10 rfl (by kernel_rfl) (by kernel_rfl) (by kernel_rfl) rfl hS ?_
      refine any_run 11 (fun w' hS' => (r_sliceS_lo rfl rfl rfl rfl (by omega) (by omega))) rfl (by kernel_rfl) (by kernel_rfl) (by kernel_rfl) rfl hS ?_
      refine any_mono [⟨3, 39, []⟩, ⟨4, 40, [(3, 39)]⟩, ⟨12, 48, []⟩, ⟨13, 49, [(12, 48)]⟩, ⟨14, 13, []⟩, ⟨15, 14, []⟩] (fun k v wa wb => phiTags use other xa xb ((xa ++ xb).take kk) ((xa ++ xb).drop kk) k v wa wb) 2 (by kernel_rfl) (by kernel_rfl) (fun w' hk' => hS.trans hk') (And.intro ?_ (And.intro ?_ (And.intro ?_ (And.intro ?_ (And.intro ?_ (And.intro ?_ True.intro)))))) ?_
      · rintro J vs gg w19 hk19 rfl
        refine one_of rfl ?_
        refine o_bsL ([.slice aa xa.length ca, .slice ab xb.length cb]) rfl rfl rfl rfl rfl rfl rfl rfl rfl ?_; intro w20 b20 e20 hB20 hk20 hs20
        exact ops_nil ⟨hk20, rowsB_two hB20 (((ha13.k hS).k hk19).k hk20) (((hb13.k hS).k hk19).k hk20)⟩
      · rintro J vs gg w22 hk22 ⟨v18_3, _, rfl, ⟨wa3, wb3, ka3, kab3, kb3, hg3, hf3⟩, rfl⟩
        refine one_of rfl ?_
        refine op_call rfl rfl rfl (sh_Tagged w22 _ use [xa, xb] (rowsB_keep hf3 kb3) (hT1 _)) ?_; rintro v23 w23 ⟨rfl, hk23⟩
        exact ops_nil ⟨hk23, rfl⟩
      · rintro J vs gg w25 hk25 rfl
        refine one_of rfl ?_
        refine o_bsL ([subSl a13 1 0 kk c13, subSl a13 1 kk (xa ++ xb).length c13]) rfl rfl rfl rfl rfl rfl rfl rfl rfl ?_; intro w26 b26 e26 hB26 hk26 hs26
        exact ops_nil ⟨hk26, rowsB_two hB26 (((hpa.k hS).k hk25).k hk26) (((hpb.k hS).k hk25).k hk26)⟩
      · rintro J vs gg w28 hk28 ⟨v18_12, _, rfl, ⟨wa12, wb12, ka12, kab12, kb12, hg12, hf12⟩, rfl⟩
        refine one_of rfl ?_
        refine op_call rfl rfl rfl (sh_Tagged w28 _ other [(xa ++ xb).take kk, (xa ++ xb).drop kk] (rowsB_keep hf12 kb12) (hT2 _)) ?_; rintro v29 w29 ⟨rfl, hk29⟩
        exact ops_nil ⟨hk29, rfl⟩
      · rintro J vs gg w31 hk31 rfl
        refine one_of rfl ?_
        refine o_alloc rfl rfl rfl ?_; intro w32 b32 e32 hB32 hk32 hs32
        exact ops_nil ⟨hk32, (by subst e32; exact ⟨_, rfl, rfl, hB32, by omega⟩)⟩
      · rintro J vs gg w34 hk34 rfl
        refine one_of rfl ?_
        refine o_alloc rfl rfl rfl ?_; intro w35 b35 e35 hB35 hk35 hs35
        exact ops_nil ⟨hk35, (by subst e35; exact ⟨_, rfl, rfl, hB35, by omega⟩)⟩
      · rintro J vs gg w37 hk37 ⟨v18_3, _, rfl, ⟨wa3, wb3, ka3, kab3, kb3, hg3, hf3⟩, v18_4, _, rfl, ⟨wa4, wb4, ka4, kab4, kb4, hg4, hf4⟩, v18_12, _, rfl, ⟨wa12, wb12, ka12, kab12, kb12, hg12, hf12⟩, v18_13, _, rfl, ⟨wa13, wb13, ka13, kab13, kb13, hg13, hf13⟩, v18_14, _, rfl, ⟨wa14, wb14, ka14, kab14, kb14, hg14, hf14⟩, v18_15, _, rfl, ⟨wa15, wb15, ka15, kab15, kb15, hg15, hf15⟩, rfl⟩
        obtain rfl : v18_4 = .agg ((tagF use [xa, xb]).map c8).toArray := hf4
        obtain rfl : v18_13 = .agg ((tagF other [(xa ++ xb).take kk, (xa ++ xb).drop kk]).map c8).toArray := hf13
        obtain ⟨l14, hl14, rfl, hB14, hs14⟩ := hf14
        obtain ⟨l15, hl15, rfl, hB15, hs15⟩ := hf15
        have hne : wa15.heap.size ≠ wa14.heap.size := fun e => by
          have h1 : gg wa14.heap.size = 14 := hg14 _ (Nat.le_refl _) hs14
          have h2 : gg wa15.heap.size = 15 := hg15 _ (Nat.le_refl _) hs15
          rw [e, h1] at h2; omega
        have hXl := tagF_len use [xa, xb]
        have hYl := tagF_len other [(xa ++ xb).take kk, (xa ++ xb).drop kk]
        have hz14 : w13.heap.size ≤ wa14.heap.size := ka14.size
        have hz15 : w13.heap.size ≤ wa15.heap.size := ka15.size
        have hS : (Keep All w13) w37 := hS.trans hk37
        refine any_one 16 (by kernel_rfl) (one_of rfl ?_)
        refine o_storeA (cs := (tagF use [xa, xb]).map c8) rfl rfl (all_c8 _) (by rw [List.length_map, hXl]; rfl) (kb14.blk' hB14 trivial) (by rw [List.length_map, hXl, hl14]; exact Nat.le_refl _) rfl ?_; intro w39 hB39 hk39 hs39
        rw [splice_all (by rw [List.length_map, hXl, hl14])] at hB39
        refine ops_nil ⟨hS.new hk39 hz14, fun hS => ?_⟩
        refine any_one 17 (by kernel_rfl) (one_of rfl ?_)
        refine o_storeA (cs := (tagF other [(xa ++ xb).take kk, (xa ++ xb).drop kk]).map c8) rfl rfl (all_c8 _) (by rw [List.length_map, hYl]; rfl) (hk39.blk' (kb15.blk' hB15 trivial) hne) (by rw [List.length_map, hYl, hl15]; exact Nat.le_refl _) rfl ?_; intro w41 hB41 hk41 hs41
        rw [splice_all (by rw [List.length_map, hYl, hl15])] at hB41
        have hB39' := hk41.blk' hB39 hne.symm
        refine ops_nil ⟨hS.new hk41 hz15, fun hS => ?_⟩
        have hkB := hkA.trans hS
        have haB := ha.k hkB
        have hbB := hb.k hkB
        have hpaB := hpa.k hS
        have hpbB := hpb.k hS
        refine any_done (by kernel_rfl) ?_
        refine W_seq ?_
        refine W_held (Keep All w41) (by kernel_rfl) (Keep.drawn _) (fun hS => ?_)
        refine any_run 0 (fun w' hS' => r_loadA ((tagF use [xa, xb]).map c8) rfl rfl rfl (by rw [List.length_map, hXl]; rfl) (hS'.blk' hB39' trivial).all) rfl (by kernel_rfl) (by kernel_rfl) (by kernel_rfl) rfl hS ?_
        refine any_mvt 1 rfl (by kernel_rfl) (by kernel_rfl) (by kernel_rfl) rfl hS ?_
        refine any_mvt 2 rfl (by kernel_rfl) (by kernel_rfl) (by kernel_rfl) rfl hS ?_
        refine any_mvt 3 rfl (by kernel_rfl) (by kernel_rfl) (by kernel_rfl) rfl hS ?_
        refine any_one 4 (by kernel_rfl) (one_of rfl ?_)
        refine o_bsL ([.slice aa xa.length ca, .slice ab xb.length cb]) rfl rfl rfl rfl rfl rfl rfl rfl rfl ?_; intro w45 b45 e45 hB45 hk45 hs45
        refine ops_nil ⟨hS.trans hk45, fun hS => ?_⟩
        refine any_one 5 (by kernel_rfl) (one_of rfl ?_)
        refine op_call rfl rfl rfl (rf_Tagged _ _ use [xa, xb] (rowsB_two hB45 (haB.k hS) (hbB.k hS)) (hT1 _)) ?_; rintro v47 w47 ⟨rfl, hk47⟩
        refine ops_nil ⟨hS.trans hk47, fun hS => ?_⟩
        refine any_run 6 (fun w' hS' => (r_eqlC (p := True) rfl rfl rfl rfl rfl (okC_dig _ hXl) (okC_dig _ hXl) rfl (by simp))) rfl (by kernel_rfl) (by kernel_rfl) (by kernel_rfl) rfl hS ?_
        refine any_mvt 7 rfl (by kernel_rfl) (by kernel_rfl) (by kernel_rfl) rfl hS ?_
        refine a_split 57 true rfl (fun g50 => ?_) (fun g => absurd g (by simp))
        refine any_run 8 (fun w' hS' => r_loadA ((tagF other [(xa ++ xb).take kk, (xa ++ xb).drop kk]).map c8) rfl rfl rfl (by rw [List.length_map, hYl]; rfl) (hS'.blk' hB41 trivial).all) rfl (by kernel_rfl) (by kernel_rfl) (by kernel_rfl) (g_yes rfl rfl rfl g50) hS ?_
        refine any_mvt 9 rfl (by kernel_rfl) (by kernel_rfl) (by kernel_rfl) (g_yes rfl rfl rfl g50) hS ?_
        refine any_mvt 10 rfl (by kernel_rfl) (by kernel_rfl) (by kernel_rfl) (g_yes rfl rfl rfl g50) hS ?_
        refine any_mvt 11 rfl (by kernel_rfl) (by kernel_rfl) (by kernel_rfl) (g_yes rfl rfl rfl g50) hS ?_
        refine any_run 12 (fun w' hS' => (r_sliceS_hi rfl rfl rfl rfl (by omega) (by omega))) rfl (by kernel_rfl) (by kernel_rfl) (by kernel_rfl) (g_yes rfl rfl rfl g50) hS ?_
        refine any_mvt 13 rfl (by kernel_rfl) (by kernel_rfl) (by kernel_rfl) (g_yes rfl rfl rfl g50) hS ?_
        refine any_mvt 14 rfl (by kernel_rfl) (by kernel_rfl) (by kernel_rfl) (g_yes rfl rfl rfl g50) hS ?_
        refine any_run 15 (fun w' hS' => (r_sliceS_lo rfl rfl rfl rfl (by omega) (by omega))) rfl (by kernel_rfl) (by kernel_rfl) (by kernel_rfl) (g_yes rfl rfl rfl g50) hS ?_
        refine any_one 16 (by kernel_rfl) (one_of rfl ?_)
        refine o_bsL ([subSl a13 1 0 kk c13, subSl a13 1 kk (xa ++ xb).length c13]) rfl rfl rfl rfl rfl rfl rfl rfl (g_yes rfl rfl rfl g50) ?_; intro w54 b54 e54 hB54 hk54 hs54
        refine ops_nil ⟨hS.trans hk54, fun hS => ?_⟩
        refine any_one 17 (by kernel_rfl) (one_of rfl ?_)
        refine op_call rfl rfl (g_yes rfl rfl rfl g50) (rf_Tagged _ _ other [(xa ++ xb).take kk, (xa ++ xb).drop kk] (rowsB_two hB54 (hpaB.k hS) (hpbB.k hS)) (hT2 _)) ?_; rintro v56 w56 ⟨rfl, hk56⟩
        refine ops_nil ⟨hS.trans hk56, fun hS => ?_⟩
        refine any_run 18 (fun w' hS' => (r_eqlC (p := True) rfl rfl rfl rfl rfl (okC_dig _ hYl) (okC_dig _ hYl) rfl (by simp))) rfl (by kernel_rfl) (by kernel_rfl) (by kernel_rfl) (g_yes rfl rfl rfl g50) hS ?_
        refine any_run 19 (fun w' hS' => (r_pickT rfl g50)) rfl (by kernel_rfl) (by kernel_rfl) (by kernel_rfl) rfl hS ?_
        refine any_mvt 20 rfl (by kernel_rfl) (by kernel_rfl) (by kernel_rfl) rfl hS ?_
        refine a_split 70 true rfl (fun g59 => ?_) (fun g => absurd g (by simp))
        refine any_mvt 21 rfl (by kernel_rfl) (by kernel_rfl) (by kernel_rfl) (g_yes rfl rfl rfl g59) hS ?_
        refine any_mvt 22 rfl (by kernel_rfl) (by kernel_rfl) (by kernel_rfl) (g_yes rfl rfl rfl g59) hS ?_
        refine any_run 23 (fun w' hS' => (r_neq rfl rfl)) rfl (by kernel_rfl) (by kernel_rfl) (by kernel_rfl) (g_yes rfl rfl rfl g59) hS ?_
        refine any_mvt 24 rfl (by kernel_rfl) (by kernel_rfl) (by kernel_rfl) (g_yes rfl rfl rfl g59) hS ?_
        refine a_split 74 false rfl (fun g60 => ?_) (fun g60 => ?_)
        · refine any_mvt 25 rfl (by kernel_rfl) (by kernel_rfl) (by kernel_rfl) (g_yes rfl rfl rfl g60) hS ?_
          refine any_mvt 26 rfl (by kernel_rfl) (by kernel_rfl) (by kernel_rfl) (g_yes rfl rfl rfl g60) hS ?_
          refine any_run 27 (fun w' hS' => (r_len rfl rfl rfl)) rfl (by kernel_rfl) (by kernel_rfl) (by kernel_rfl) (g_yes rfl rfl rfl g60) hS ?_
          refine any_run 28 (fun w' hS' => (r_neq rfl rfl)) rfl (by kernel_rfl) (by kernel_rfl) (by kernel_rfl) (g_yes rfl rfl rfl g60) hS ?_
          refine any_run 29 (fun w' hS' => (r_pickF rfl g60)) rfl (by kernel_rfl) (by kernel_rfl) (by kernel_rfl) (g_yes rfl rfl rfl g59) hS ?_
          refine any_mvt 30 rfl (by kernel_rfl) (by kernel_rfl) (by kernel_rfl) (g_yes rfl rfl rfl g59) hS ?_
          refine a_split 80 false rfl (fun g61 => ?_) (fun g61 => ?_)
          · refine any_run 31 (fun w' hS' => r_loadA ((tagF use [xa, xb]).map c8) rfl rfl rfl (by rw [List.length_map, hXl]; rfl) (hS'.blk' hB39' trivial).all) rfl (by kernel_rfl) (by kernel_rfl) (by kernel_rfl) (g_yes rfl rfl rfl g61) hS ?_
            refine any_run 32 (fun w' hS' => r_loadA ((tagF other [(xa ++ xb).take kk, (xa ++ xb).drop kk]).map c8) rfl rfl rfl (by rw [List.length_map, hYl]; rfl) (hS'.blk' hB41 trivial).all) rfl (by kernel_rfl) (by kernel_rfl) (by kernel_rfl) (g_yes rfl rfl rfl g61) hS ?_
            have hke : kk = xa.length := by have := of_decide_eq_false g61; omega
            have hue : use = other := by have := of_decide_eq_false g60; apply UInt8.toNat_inj.1; omega
            have hXY : tagF use [xa, xb] = tagF other [(xa ++ xb).take kk, (xa ++ xb).drop kk] := by rw [hke, hue, List.take_left, List.drop_left]
            refine any_run 33 (fun w' hS' => (r_eqlC (p := True) rfl rfl rfl rfl rfl (okC_dig _ hXl) (okC_dig _ hYl) rfl (by rw [hXY]; simp))) rfl (by kernel_rfl) (by kernel_rfl) (by kernel_rfl) (g_yes rfl rfl rfl g61) hS ?_
            refine any_run 34 (fun w' hS' => (r_pickF rfl g61)) rfl (by kernel_rfl) (by kernel_rfl) (by kernel_rfl) (g_yes rfl rfl rfl g59) hS ?_
            refine any_run 35 (fun w' hS' => (r_pickT rfl g59)) rfl (by kernel_rfl) (by kernel_rfl) (by kernel_rfl) rfl hS ?_
            refine any_ast 36 rfl (by kernel_rfl) (by kernel_rfl) (by kernel_rfl) rfl hS ?_
            refine any_done (by kernel_rfl) ?_
            refine W_ret ?_
            refine ret1 (.bool true) rfl ?_ ?_; rfl
            exact ⟨rfl, hkB.trans hS⟩
          · refine any_skip 31 rfl (by kernel_rfl) (by kernel_rfl) (by kernel_rfl) (g_no rfl rfl rfl g61) hS ?_
            refine any_skip 32 rfl (by kernel_rfl) (by kernel_rfl) (by kernel_rfl) (g_no rfl rfl rfl g61) hS ?_
            refine any_skip 33 rfl (by kernel_rfl) (by kernel_rfl) (by kernel_rfl) (g_no rfl rfl rfl g61) hS ?_
            refine any_run 34 (fun w' hS' => (r_pickT rfl g61)) rfl (by kernel_rfl) (by kernel_rfl) (by kernel_rfl) (g_yes rfl rfl rfl g59) hS ?_
            refine any_run 35 (fun w' hS' => (r_pickT rfl g59)) rfl (by kernel_rfl) (by kernel_rfl) (by kernel_rfl) rfl hS ?_
            refine any_ast 36 rfl (by kernel_rfl) (by kernel_rfl) (by kernel_rfl) rfl hS ?_
            refine any_done (by kernel_rfl) ?_
            refine W_ret ?_
            refine ret1 (.bool true) rfl ?_ ?_; rfl
            exact ⟨rfl, hkB.trans hS⟩
        · refine any_skip 25 rfl (by kernel_rfl) (by kernel_rfl) (by kernel_rfl) (g_no rfl rfl rfl g60) hS ?_
          refine any_skip 26 rfl (by kernel_rfl) (by kernel_rfl) (by kernel_rfl) (g_no rfl rfl rfl g60) hS ?_
          refine any_skip 27 rfl (by kernel_rfl) (by kernel_rfl) (by kernel_rfl) (g_no rfl rfl rfl g60) hS ?_
          refine any_skip 28 rfl (by kernel_rfl) (by kernel_rfl) (by kernel_rfl) (g_no rfl rfl rfl g60) hS ?_
          refine any_run 29 (fun w' hS' => (r_pickT rfl g60)) rfl (by kernel_rfl) (by kernel_rfl) (by kernel_rfl) (g_yes rfl rfl rfl g59) hS ?_
          refine any_mvt 30 rfl (by kernel_rfl) (by kernel_rfl) (by kernel_rfl) (g_yes rfl rfl rfl g59) hS ?_
          refine any_skip 31 rfl (by kernel_rfl) (by kernel_rfl) (by kernel_rfl) (g_no rfl rfl rfl rfl) hS ?_
          refine any_skip 32 rfl (by kernel_rfl) (by kernel_rfl) (by kernel_rfl) (g_no rfl rfl rfl rfl) hS ?_
          refine any_skip 33 rfl (by kernel_rfl) (by kernel_rfl) (by kernel_rfl) (g_no rfl rfl rfl rfl) hS ?_
          refine any_run 34 (fun w' hS' => (r_pickT rfl rfl)) rfl (by kernel_rfl) (by kernel_rfl) (by kernel_rfl) (g_yes rfl rfl rfl g59) hS ?_
          refine any_run 35 (fun w' hS' => (r_pickT rfl g59)) rfl (by kernel_rfl) (by kernel_rfl) (by kernel_rfl) rfl hS ?_
          refine any_ast 36 rfl (by kernel_rfl) (by kernel_rfl) (by kernel_rfl) rfl hS ?_
          refine any_done (by kernel_rfl) ?_
          refine W_ret ?_
          refine ret1 (.bool true) rfl ?_ ?_; rfl
          exact ⟨rfl, hkB.trans hS⟩
end Go.Proofs.Ytkjphbnmofhogaa.B
