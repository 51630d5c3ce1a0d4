/-
  proof.read: a node of bytes.
-/
import Derived.Test.YtpiidddccmohdabDoorNodeP
import Derived.Test.YtpiidddccmohdabDoorMRef
import Derived.Test.YtpiidddccmohdabDoorMapU
import Derived.Test.YtpiidddccmohdabDoorRowsK
namespace Go.Proofs.YtpiidddccmohdabDoor.B
open Go
set_option linter.unusedVariables false
set_option maxHeartbeats 2000000
set_option maxRecDepth 100000
attribute [local irreducible] W OpsW OpsQ retP
attribute [local irreducible] numR kdR
abbrev nilN : Value := .slice none 0 0
theorem Keep.thenA {A C : Nat → Prop} {w w1 w2 : World} (h : Keep A w w1) (h2 : Keep C w1 w2) (hAC : ∀ z, z < w.heap.size → A z → C z) : Keep A w w2 := by
  refine ⟨h2.os.trans h.os, h2.tape.trans h.tape, h2.output.trans h.output, Nat.le_trans h.size h2.size, fun k hk hA => ?_⟩
  rw [h2.blk k (Nat.lt_of_lt_of_le hk h.size) (hAC k hk hA)]; exact h.blk k hk hA
theorem in_BytesR (w : World) (b : Nat) (A : Nat → Prop) (bs : List UInt8) (bad : Bool) (most : Nat) (hm : most < 2 ^ 63) (hAb : ¬ A b) (h : InC w b A bs bad) :
    Ret Tryd.prog 37 [.pointer (some ⟨b, 0, none⟩), .int .i64 most].toArray w fun r w' =>
      By w' r (bytsR most bs bad).1 ∧ InB A r ∧ InC w' b A (bytsR most bs bad).2.1 (bytsR most bs bad).2.2 ∧ Keep (· ≠ b) w w' := by
  refine (in_Bytes w b A bs bad most hm hAb h).mono fun e w' ⟨u, he, hu⟩ => ⟨u, he, ?_⟩
  dsimp only at hu
  unfold bytsR tkR
  simp only
  split
  · rename_i hc
    rw [if_pos hc] at hu
    obtain ⟨rfl, h1, h2⟩ := hu
    exact ⟨Sl.nil _ _, InB.nil, h1, h2⟩
  · rename_i hc
    rw [if_neg hc] at hu
    exact hu
/-- The kids' cells. -/
def kidV (k : Nat → Option Dig) : Int → Option Value := fun j => if 0 ≤ j then (k j.toNat).map fun d => .agg (dgR d).toArray else none
theorem kidV_none : kidV (fun _ => none) = fun _ => none := by funext j; unfold kidV; split <;> rfl
theorem kidV_set (k : Nat → Option Dig) (t : Nat) (d : Dig) : kidV (fun j => if j = t then some d else k j) = fun j => if j = (t : Int) then some (.agg (dgR d).toArray) else kidV k j := by
  funext j
  unfold kidV
  by_cases hj : 0 ≤ j
  · obtain ⟨n, rfl⟩ := Int.eq_ofNat_of_zero_le hj
    rw [if_pos hj, if_pos hj, Int.toNat_natCast]
    by_cases h : n = t
    · subst h; rw [if_pos rfl]; show Option.map _ (if n = n then some d else k n) = _; rw [if_pos rfl]; rfl
    · rw [if_neg (show ¬ (n : Int) = (t : Int) by omega)]; show Option.map _ (if n = t then some d else k n) = _; rw [if_neg h]
  · rw [if_neg hj, if_neg hj, if_neg (by omega)]
def ndM : Nat := 1073741824
theorem p_read (w : World) (left : Nat) (hleft : left ≤ 64) (v : Value) (bs : List UInt8) (hv : By w v bs) (hl : bs.length ≤ 3000) (hT : TabB w) :
    Ret Tryd.prog 23 [v, .int .i64 left].toArray w fun r w' => ∃ vb vv vm, r = .tuple #[.agg [vb, vv, .bool (ndR ndM bs).1.leaf, vm].toArray, .bool (decide (okN left (ndR ndM bs)))] ∧
      By w' vb (ndR ndM bs).1.beg ∧ By w' vv (ndR ndM bs).1.val ∧ (∃ am, vm = .map am) ∧ ((ndR ndM bs).1.leaf = false → ∃ bm, vm = .map (some bm) ∧ MapU w' bm (kidV (ndR ndM bs).1.kids)) ∧ Keep All w w' := by
  obtain ⟨a0, c0, rfl, hc0, hcm0⟩ := hv.form
  obtain ⟨R, hR⟩ : ∃ R, R = ndR ndM bs := ⟨_, rfl⟩
  have hRb : R.1.beg = (gA bs).1 := by rw [hR]; exact ndR_beg _ _
  have hRl : R.1.leaf = decide ((nA bs).1 = 0) := by rw [hR]; exact ndR_leafB _ _
  rw [← hR]
  refine enter (fn := Tryd.f23) (n := 79) Tryd.func23 rfl rfl (by simp) ?_
  refine W_seq ?_
  refine W_region ?_
  refine o_alloc rfl rfl rfl ?_; intro w1 b1 e1 hB1 hk1 hs1
  have hB1 : Blk w1 b1 [nilN, nilN, .bool false, .map none] 59 := hB1
  refine o_asc rfl ?_
  refine ops_nil ?_
  refine W_seq ?_
  refine W_region ?_
  refine o_mvt rfl ?_
  refine op_call rfl rfl rfl (pack_From w1 _ bs (hv.k hk1) (by omega)) ?_; rintro v2 w2 ⟨bI, rfl, hbI, hI2, hk2⟩
  obtain ⟨A, hA⟩ : ∃ A : Nat → Prop, A = fun k => w1.heap.size ≤ k ∧ k < bI := ⟨_, rfl⟩
  rw [← hA] at hI2
  have hAb : ¬ A bI := by rw [hA]; exact fun h => Nat.lt_irrefl _ h.2
  have hbIl : bI < w2.heap.size := by obtain ⟨_, h, _⟩ := hI2; exact h.lt
  have hz1 := hk1.size
  have hz2 := hk2.size
  have hA1 : ∀ k, A k → k ≠ b1 := by rw [hA]; exact fun k h => by have := h.1; omega
  have hAl : ∀ k, A k → k < bI := by rw [hA]; exact fun k h => h.2
  have h1I : b1 ≠ bI := by omega
  refine o_ast rfl ?_
  refine ops_nil ?_
  refine W_seq ?_
  refine W_region ?_
  refine o_mvt rfl ?_
  refine op_call rfl rfl rfl (in_Number w2 bI A bs false 1 hAb hI2) ?_; rintro v3 w3 ⟨rfl, hI3, hk3⟩
  have hI3 : InC w3 bI A (nA bs).2.1 (nA bs).2.2 := hI3
  refine op_run ((r_eql rfl rfl).val (congrArg Value.bool (show decide (((nA bs).1 : Int) = 0) = R.1.leaf from by rw [hRl, decide_eq_decide]; omega))) rfl ?_
  refine op_run (r_fieldAddr rfl rfl rfl rfl rfl) rfl ?_
  refine o_store (v := .bool R.1.leaf) rfl rfl rfl rfl (hk3.blk' (hk2.blk' hB1 trivial) h1I) (by exact (by decide : (2 : Nat) < 4)) rfl ?_; intro w4 hB4 hk4 hs4
  have hB4 : Blk w4 b1 [nilN, nilN, .bool R.1.leaf, .map none] 59 := hB4
  refine ops_nil ?_
  refine W_seq ?_
  refine W_region ?_
  refine o_mvt rfl ?_
  refine op_call rfl rfl rfl (in_BytesR w4 bI A _ _ 64 (by decide) hAb (hI3.keep hk4 h1I.symm (fun k h => hA1 k h))) ?_; rintro v5 w5 ⟨hby5, hin5, hI5, hk5⟩
  have hI5 : InC w5 bI A (gA bs).2.1 (gA bs).2.2 := hI5
  have hby5 : By w5 v5 (gA bs).1 := hby5
  obtain ⟨a5, c5, e5_, h5c, h5m⟩ := hby5.form
  have hgl : (gA bs).1.length ≤ maxLen := Nat.le_trans h5c h5m
  unfold maxLen at hgl
  refine op_run (r_fieldAddr rfl rfl rfl rfl rfl) rfl ?_
  refine o_store (v := v5) rfl rfl (by rw [e5_]; rfl) rfl (hk5.blk' hB4 h1I) (by decide : (0 : Nat) < 4) rfl ?_; intro w6 hB6 hk6 hs6
  have hB6 : Blk w6 b1 [v5, nilN, .bool R.1.leaf, .map none] 59 := hB6
  have hby6 := hby5.keep hk6 (hin5.mono fun k h => hA1 k h)
  have hI6 := hI5.keep hk6 h1I.symm (fun k h => hA1 k h)
  have hz3 := hk3.size
  have hz4 := hk4.size
  have hz5 := hk5.size
  have hz6 := hk6.size
  have hkw6 : Keep All w w6 := (((((hk1.trans hk2).new hk3 (by omega)).new hk4 (by omega)).new hk5 (by omega)).new hk6 (by omega))
  have hT6 := hT.k hkw6
  refine ops_nil ?_
  refine W_cut [5] [5, 7, 8, 20, 21, 22, 23, 24, 25, 26, 27, 28, 29, 30, 31, 32, 33, 34, 35, 36, 37, 38, 39, 40, 41, 42, 43, 44, 45, 46, 47, 48, 49, 50, 51, 52, 53, 54, 55, 56, 57, 58] (fun vs w7 => ∃ vv vm, vs = [.bool (decide (okL left R.1))] ∧ Blk w7 b1 [v5, vv, .bool R.1.leaf, vm] 59 ∧ By w7 v5 (gA bs).1 ∧ By w7 vv R.1.val ∧ InB A vv ∧ (∃ am, vm = .map am) ∧ (R.1.leaf = false → ∃ bm, vm = .map (some bm) ∧ bm ≠ b1 ∧ bm ≠ bI ∧ MapU w7 bm (kidV R.1.kids)) ∧ InC w7 bI A R.2.1 R.2.2 ∧ Keep (fun z => z ≠ b1 ∧ z ≠ bI) w6 w7) ?_ ?_
  · refine W_seq ?_
    refine W_region ?_
    refine op_run (r_fieldAddr rfl rfl rfl rfl rfl) rfl ?_
    refine op_run (r_load rfl rfl rfl (hB6.cell rfl)) rfl ?_
    refine ops_nil ?_
    refine W_cond rfl (fun h9 => ?_) (fun h9 => ?_)
    · refine W_seq ?_
      refine W_region ?_
      refine o_mvt rfl ?_
      have hlf : R.1.leaf = true := by simpa using h9
      have hn0 : (nA bs).1 = 0 := by rw [hRl] at hlf; exact of_decide_eq_true hlf
      have hRe : R = (⟨true, (gA bs).1, (vA ndM bs).1, 0, fun _ => none⟩, (vA ndM bs).2.1, (vA ndM bs).2.2) := hR.trans (ndR_leaf hn0)
      refine op_call rfl rfl rfl (in_BytesR w6 bI A _ _ 1073741824 (by decide) hAb hI6) ?_; rintro v10 w10 ⟨hby10, hin10, hI10, hk10⟩
      have hI10 : InC w10 bI A (vA ndM bs).2.1 (vA ndM bs).2.2 := hI10
      have hby10 : By w10 v10 (vA ndM bs).1 := hby10
      obtain ⟨a10, c10, e10_, _, _⟩ := hby10.form
      refine op_run (r_fieldAddr rfl rfl rfl rfl rfl) rfl ?_
      refine o_store (v := v10) rfl rfl (by rw [e10_]; rfl) rfl (hk10.blk' hB6 h1I) (by decide : (1 : Nat) < 4) rfl ?_; intro w11 hB11 hk11 hs11
      have hB11 : Blk w11 b1 [v5, v10, .bool R.1.leaf, .map none] 59 := hB11
      refine ops_nil ?_
      refine W_region ?_
      refine op_run (r_fieldAddr rfl rfl rfl rfl rfl) rfl ?_
      have hB12 : Blk w11 b1 [.slice a5 (gA bs).1.length c5, v10, .bool R.1.leaf, .map none] 59 := by rw [← e5_]; exact hB11
      refine op_run (r_load rfl rfl rfl (hB12.cell rfl)) rfl ?_
      refine op_run (r_len rfl rfl rfl) rfl ?_
      refine o_mvt rfl ?_
      refine op_run (r_eql rfl rfl) rfl ?_
      refine o_ast rfl ?_
      refine ops_nil ?_
      refine ⟨by (repeat (first | with_reducible exact offM_refl _ _ | refine offM_updc rfl ?_ | refine offM_upd rfl ?_ | refine offM_updo rfl ?_ | refine offM_updo_none ?_ | refine offM_head rfl rfl ?_)), v10, .map none, congrArg (fun b => [Value.bool b]) ?_, hB11, (hby6.keep hk10 (hin5.mono fun k h e => hAb (e ▸ h))).keep hk11 (hin5.mono fun k h => hA1 k h), ?_, hin10, ⟨_, rfl⟩, fun h => (by rw [hlf] at h; cases h), ?_, (hk10.mono fun z _ h => h.2).trans (hk11.mono fun z _ h => h.1)⟩
      · rw [decide_eq_decide, hRe]; unfold okL; simp only [if_true]; omega
      · have e : R.1.val = (vA ndM bs).1 := by rw [hRe]
        rw [e]; exact hby10.keep hk11 (hin10.mono fun k h => hA1 k h)
      · have e : R.2 = (vA ndM bs).2 := by rw [hRe]
        rw [e]; exact hI10.keep hk11 h1I.symm (fun k h => hA1 k h)
    · refine W_seq ?_
      refine W_region ?_
      refine o_mvt rfl ?_
      have hlf : R.1.leaf = false := by simpa using h9
      have hn0 : ¬ (nA bs).1 = 0 := by rw [hRl] at hlf; exact of_decide_eq_false hlf
      have hRe : R = (⟨false, (gA bs).1, [], (mA bs).1, (kA bs 16).1⟩, (kA bs 16).2.1, (kA bs 16).2.2) := hR.trans (ndR_branch hn0)
      have hml : (mA bs).1 ≤ 65535 := numR_le _ _ _
      refine op_call rfl rfl rfl (in_Number w6 bI A _ _ 65535 hAb hI6) ?_; rintro v14 w14 ⟨rfl, hI14, hk14⟩
      have hI14 : InC w14 bI A (mA bs).2.1 (mA bs).2.2 := hI14
      refine op_run ((r_conv rfl rfl rfl).val (congrArg (Value.int .u16) (show IntKind.u16.wrap (((mA bs).1 : Nat) : Int) = (((mA bs).1 : Nat) : Int) from (show IntKind.u16.wrap (((mA bs).1 : Nat) : Int) = (((mA bs).1 : Nat) : Int) % 65536 from rfl).trans (by omega)))) rfl ?_
      refine o_ast rfl ?_
      refine ops_nil ?_
      refine W_seq ?_
      refine W_region ?_
      refine o_makeMapU rfl ?_; intro w15 b15 e15 hM15 hk15 hs15
      refine op_run (r_fieldAddr rfl rfl rfl rfl rfl) rfl ?_
      refine o_store (v := .map (some b15)) rfl rfl rfl rfl (hk15.blk' (hk14.blk' hB6 h1I) trivial) (by exact (by decide : (3 : Nat) < 4)) rfl ?_; intro w16 hB16 hk16 hs16
      have hB16 : Blk w16 b1 [v5, nilN, .bool R.1.leaf, .map (some b15)] 59 := hB16
      have hz14 := hk14.size
      have hz15 := hk15.size
      have hz16 := hk16.size
      have h15 : b15 ≠ b1 ∧ b15 ≠ bI := ⟨by omega, by omega⟩
      have hA15 : ∀ k, A k → k ≠ b15 := fun k h => by have := hAl k h; omega
      have hk616 : Keep (fun z => z ≠ b1 ∧ z ≠ bI) w6 w16 := ((hk14.mono fun z _ h => h.2).trans hk15.all).trans (hk16.mono fun z _ h => h.1)
      have e0 : kA bs 0 = (fun _ => none, (mA bs).2.1, (mA bs).2.2) := by unfold kA kdR; rfl
      have hM17 : MapU w16 b15 (kidV (kA bs 0).1) := by rw [e0]; simp only; rw [kidV_none]; exact hM15.keep hk16 h15.1
      have hI17 : InC w16 bI A (kA bs 0).2.1 (kA bs 0).2.2 := by rw [e0]; exact (hI14.keep hk15 trivial (fun _ _ => trivial)).keep hk16 h1I.symm (fun k h => hA1 k h)
      have hT16 := hT6.keep hk616 ⟨by have := hT.lt0; omega, by have := hT.lt0; omega⟩
      refine ops_nil ?_
      refine W_seq ?_
      refine W_seq ?_
      refine W_region ?_
      refine o_mvt rfl ?_
      refine o_ast rfl ?_
      refine ops_nil ?_
      refine W_block ?_
      refine W_loop [8] [8, 36, 37, 38, 39, 40, 41, 42, 43, 44, 45, 46, 47, 48] (fun vs w' => ∃ (r i : Nat), vs = [.int .u16 r] ∧ i ≤ 16 ∧ r = (mA bs).1 / 2 ^ i * 2 ^ i ∧ MapU w' b15 (kidV (kA bs i).1) ∧ InC w' bI A (kA bs i).2.1 (kA bs i).2.2 ∧ Keep (fun z => z ≠ b15 ∧ z ≠ bI) w16 w') (fun vs _ => match vs with | [.int _ y] => y.toNat | _ => 0) ⟨(mA bs).1, 0, rfl, Nat.zero_le _, by simp, hM17, hI17, Keep.refl _⟩ ?_
      rintro J17 vs w17 ⟨r, i, rfl, hi, hr, hM, hI, hkL⟩ -
      refine W_seq ?_
      refine W_seq ?_
      refine W_region ?_
      refine o_mvt rfl ?_
      refine op_run (r_neq rfl rfl) rfl ?_
      refine ops_nil ?_
      refine W_cond_p rfl (fun h18 => ?_) (fun h18 => ?_)
      · refine W_skip ?_
        refine W_seq ?_
        refine W_block ?_
        have hr0 : 0 < r := by omega
        have hrl : r < 65536 := by have := Nat.div_mul_le_self (mA bs).1 (2 ^ i); omega
        obtain ⟨t0, hlow0⟩ := low_u16 hr0 hrl
        have hT17 := hT16.keep hkL ⟨by have := hT.lt0; omega, by have := hT.lt0; omega⟩
        have hBs := (Keep.drawn w17).blk' (hkL.blk' hB16 ⟨h15.1.symm, h1I⟩) trivial
        refine W_held (fun w' => Blk w' b1 [v5, nilN, .bool R.1.leaf, .map (some b15)] 59) (by kernel_rfl) (hBs) (fun hS => ?_)
        refine any_run 0 (fun w' hS' => (r_fieldAddr rfl rfl rfl rfl rfl)) rfl (by kernel_rfl) (by kernel_rfl) (by kernel_rfl) rfl hS ?_
        refine any_run 1 (fun w' hS' => (r_load rfl rfl rfl ((hS'.cell rfl)))) rfl (by kernel_rfl) (by kernel_rfl) (by kernel_rfl) rfl hS ?_
        refine any_mvt 2 rfl (by kernel_rfl) (by kernel_rfl) (by kernel_rfl) rfl hS ?_
        refine any_mvt 5 rfl (by kernel_rfl) (by kernel_rfl) (by kernel_rfl) rfl hS ?_
        refine any_one 3 (by kernel_rfl) (one_of rfl ?_)
        refine op_call rfl rfl rfl (bt_Tz _ r hr0 hrl (hT17.k (Keep.drawn w17))) ?_; rintro v21 w21 ⟨hw21, t, rfl, hlow⟩
        subst hw21
        obtain ⟨hit, ht16, hbit, hzer, hnext, hless⟩ := kd_low hr hlow
        have hand : bitw .and .u16 (r : Int) (IntKind.u16.wrap ((r : Int) - 1)) = ((r &&& (r - 1) : Nat) : Int) := by
          have e1 : IntKind.u16.wrap ((r : Int) - 1) = ((r - 1 : Nat) : Int) := (show IntKind.u16.wrap ((r : Int) - 1) = ((r : Int) - 1) % 65536 from rfl).trans (by omega)
          rw [e1, bitw_and rfl _ _ (show r < 65536 from hrl) (show r - 1 < 65536 by omega)]
        refine ops_nil ⟨hS, fun hS => ?_⟩
        refine any_run 4 (fun w' hS' => ((r_conv rfl rfl rfl).val (congrArg (Value.int .u8) (show IntKind.u8.wrap (t : Int) = (t : Int) from (show IntKind.u8.wrap (t : Int) = (t : Int) % 256 from rfl).trans (by omega))))) rfl (by kernel_rfl) (by kernel_rfl) (by kernel_rfl) rfl hS ?_
        refine any_one 6 (by kernel_rfl) (one_of rfl ?_)
        refine op_call rfl rfl rfl (in_Digest _ bI A _ _ hAb (fun k h => by have := hAl k h; have := hkL.size; show k < w17.heap.size; omega) (hI.keep (Keep.drawn w17) trivial (fun _ _ => trivial))) ?_; rintro v23 w23 ⟨rfl, hI23, hk23⟩
        refine ops_nil ⟨hk23.blk' hS h1I, fun hS => ?_⟩
        refine any_one 7 (by kernel_rfl) (one_of rfl ?_)
        refine o_mapUpdU (v := .agg (dgR (digR (kA bs i).2.1 (kA bs i).2.2).1).toArray) rfl rfl rfl rfl rfl ((hM.keep (Keep.drawn w17) trivial).keep hk23 h15.2) rfl ?_; intro w25 hM25 hk25 hs25
        refine ops_nil ⟨hk25.blk' hS h15.1.symm, fun hS => ?_⟩
        refine any_done (by kernel_rfl) ?_
        refine W_region ?_
        refine o_mvt rfl ?_
        refine o_mvt rfl ?_
        refine op_run (r_sub rfl rfl) rfl ?_
        refine op_run ((r_and rfl rfl).val (congrArg (Value.int .u16) hand)) rfl ?_
        refine o_ast rfl ?_
        refine ops_nil ?_
        have hskip : kA bs t = kA bs i := kdR_skip t hit hzer
        have hkt : kA bs (t + 1) = (fun j => if j = t then some (digR (kA bs t).2.1 (kA bs t).2.2).1 else (kA bs t).1 j, (digR (kA bs t).2.1 (kA bs t).2.2).2.1, (digR (kA bs t).2.1 (kA bs t).2.2).2.2) := kdR_yes hbit
        rw [hskip] at hkt
        refine ⟨by (repeat (first | with_reducible exact offM_refl _ _ | refine offM_updc rfl ?_ | refine offM_upd rfl ?_ | refine offM_updo rfl ?_ | refine offM_updo_none ?_ | refine offM_head rfl rfl ?_)), ⟨r &&& (r - 1), t + 1, rfl, by omega, hnext, ?_, ?_, ((hkL.trans (Keep.drawn w17).all).trans (hk23.mono fun z _ h => h.2)).trans (hk25.mono fun z _ h => h.1)⟩, ?_⟩
        · rw [hkt]; simp only; rw [kidV_set]; exact hM25
        · rw [hkt]; exact hI23.keep hk25 h15.2.symm (fun k h => hA15 k h)
        · show ((r &&& (r - 1) : Nat) : Int).toNat < (r : Int).toNat
          rw [Int.toNat_natCast, Int.toNat_natCast]; exact hless
      · refine W_exit ?_
        refine W_region ?_
        refine op_run (r_fieldAddr rfl rfl rfl rfl rfl) rfl ?_
        have hr0 : r = 0 := by omega
        have hend : kA bs 16 = kA bs i := kdR_skip 16 hi (fun j h1 _ => kd_end (by rw [← hr, hr0]) j h1)
        have hBe := hkL.blk' hB16 ⟨h15.1.symm, h1I⟩
        have hBe' : Blk w17 b1 [.slice a5 (gA bs).1.length c5, nilN, .bool R.1.leaf, .map (some b15)] 59 := by rw [← e5_]; exact hBe
        have hk617 : Keep (fun z => z ≠ b1 ∧ z ≠ bI) w6 w17 := hk616.thenA hkL (fun z hz h => ⟨by omega, h.2⟩)
        have hby17 : By w17 v5 (gA bs).1 := hby6.keep hk617 (hin5.mono fun k h => ⟨hA1 k h, fun e => hAb (e ▸ h)⟩)
        have hR16 : R.2 = (kA bs 16).2 := by rw [hRe]
        have hRk : R.1.kids = (kA bs 16).1 := by rw [hRe]
        have hRv : R.1.val = [] := by rw [hRe]
        have hRm : R.1.mask = (mA bs).1 := by rw [hRe]
        refine op_run (r_load rfl rfl rfl (hBe'.cell rfl)) rfl ?_
        refine op_run (r_len rfl rfl rfl) rfl ?_
        refine o_mvt rfl ?_
        refine op_run (r_lss rfl rfl) rfl ?_
        refine o_mvt rfl ?_
        refine g_split rfl rfl rfl (fun g29 => ?_) (fun g29 => ?_)
        · refine o_mvt (g_yes rfl rfl rfl g29) ?_
          refine op_call rfl rfl (g_yes rfl rfl rfl g29) (bt_Ones _ (mA bs).1 (by omega)) ?_; rintro v30 w30 ⟨rfl, hk30⟩
          refine op_run (r_gtr rfl rfl) (g_yes rfl rfl rfl g29) ?_
          refine o_pkTt rfl g29 rfl ?_
          refine o_ast rfl ?_
          refine ops_nil ?_
          have g29 := of_decide_eq_true g29
          refine ⟨by (repeat (first | with_reducible exact offM_refl _ _ | refine offM_updc rfl ?_ | refine offM_upd rfl ?_ | refine offM_updo rfl ?_ | refine offM_updo_none ?_ | refine offM_head rfl rfl ?_)), nilN, .map (some b15), congrArg (fun b => [Value.bool b]) ?_, hk30.blk' hBe trivial, hby17.k hk30, ?_, InB.nil, ⟨_, rfl⟩, fun _ => ⟨b15, rfl, h15.1, h15.2, ?_⟩, ?_, hk617.trans hk30.all⟩
          · rw [decide_eq_decide]; unfold okL; rw [hlf, if_neg (by simp), hRb, hRm]; omega
          · rw [hRv]; exact Sl.nil _ _
          · rw [hRk, hend]; exact hM.keep hk30 trivial
          · rw [hR16, hend]; exact hI.keep hk30 trivial (fun _ _ => trivial)
        · refine op_skip (g_no rfl rfl rfl g29) ?_
          refine op_skip (g_no rfl rfl rfl g29) ?_
          refine op_skip (g_no rfl rfl rfl g29) ?_
          refine o_pkFc rfl g29 rfl ?_
          refine o_ast rfl ?_
          refine ops_nil ?_
          have g29 := of_decide_eq_false g29
          refine ⟨by (repeat (first | with_reducible exact offM_refl _ _ | refine offM_updc rfl ?_ | refine offM_upd rfl ?_ | refine offM_updo rfl ?_ | refine offM_updo_none ?_ | refine offM_head rfl rfl ?_)), nilN, .map (some b15), congrArg (fun b => [Value.bool b]) ?_, hBe, hby17, ?_, InB.nil, ⟨_, rfl⟩, fun _ => ⟨b15, rfl, h15.1, h15.2, ?_⟩, ?_, hk617⟩
          · symm; apply decide_eq_false; unfold okL; rw [hlf, if_neg (by simp), hRb]; omega
          · rw [hRv]; exact Sl.nil _ _
          · rw [hRk, hend]; exact hM
          · rw [hR16, hend]; exact hI
  · rintro J33 vs w33 ⟨vv, vm, rfl, hB33, hby33, hvv, hvvA, hmf, hmap, hI33, hk33⟩ -
    have hB33' : Blk w33 b1 [.slice a5 (gA bs).1.length c5, vv, .bool R.1.leaf, vm] 59 := by rw [← e5_]; exact hB33
    have hby33' : By w33 (.slice a5 (gA bs).1.length c5) (gA bs).1 := by rw [← e5_]; exact hby33
    obtain ⟨av, cv, ev_, _, _⟩ := hvv.form
    refine W_seq ?_
    refine W_seq ?_
    refine W_region ?_
    refine op_run (r_fieldAddr rfl rfl rfl rfl rfl) rfl ?_
    refine op_run (r_load rfl rfl rfl (hB33'.cell rfl)) rfl ?_
    refine op_run (r_len rfl rfl rfl) rfl ?_
    refine o_mvc rfl ?_
    refine ops_nil ?_
    refine W_block ?_
    refine W_loop [5, 62] [5, 10, 62, 63, 64, 65, 66, 67, 68, 69, 70, 71] (fun vs w' => ∃ k : Nat, vs = [.bool (decide (okL left R.1 ∧ ∀ x ∈ (gA bs).1.take k, x.toNat < 16)), .int .i64 k] ∧ k ≤ (gA bs).1.length ∧ w' = w33) (fun vs _ => match vs with | [_, .int _ y] => (gA bs).1.length - y.toNat | _ => 0) ⟨0, congrArg (fun b => [Value.bool b, Value.int .i64 0]) (by simp), Nat.zero_le _, rfl⟩ ?_
    rintro J35 vs w35 ⟨k, rfl, hk, rfl⟩ -
    refine W_seq ?_
    refine W_region ?_
    refine op_run (r_lss rfl rfl) rfl ?_
    refine ops_nil ?_
    refine W_seq ?_
    refine W_cond_p rfl (fun h36 => ?_) (fun h36 => ?_)
    · refine W_skip ?_
      refine W_seq ?_
      refine W_block ?_
      refine W_seq ?_
      refine W_region ?_
      have hkl : k < (gA bs).1.length := by omega
      obtain ⟨x, hx⟩ : ∃ x, (gA bs).1[k]? = some x := ⟨_, List.getElem?_eq_getElem hkl⟩
      obtain ⟨bp, op, cp, ep, _, _, hc⟩ := hby33'.at (by omega)
      cases ep
      have htk : (gA bs).1.take (k + 1) = (gA bs).1.take k ++ [x] := by rw [List.take_succ_eq_append_getElem hkl, (List.getElem?_eq_some_iff.1 hx).2]
      have hinc := inc64' k (by omega)
      refine op_run (r_idxS1 rfl rfl rfl rfl (by omega) (by omega)) rfl ?_
      refine op_run (r_load rfl rfl rfl (v := c8 x) (by rw [Int.toNat_natCast]; exact hc k _ (by rw [List.getElem?_map, hx]; rfl))) rfl ?_
      refine o_ast rfl ?_
      refine ops_nil ?_
      refine W_region ?_
      refine o_mvt rfl ?_
      refine o_mvt rfl ?_
      refine g_split rfl rfl rfl (fun g39 => ?_) (fun g39 => ?_)
      · refine o_mvt (g_yes rfl rfl rfl g39) ?_
        refine op_run (r_lss rfl rfl) (g_yes rfl rfl rfl g39) ?_
        refine o_pkTt rfl g39 rfl ?_
        refine o_ast rfl ?_
        refine ops_nil ?_
        refine W_region ?_
        refine op_run (r_add rfl rfl) rfl ?_
        refine o_mvt rfl ?_
        refine ops_nil ?_
        refine ⟨by (repeat (first | with_reducible exact offM_refl _ _ | refine offM_updc rfl ?_ | refine offM_upd rfl ?_ | refine offM_updo rfl ?_ | refine offM_updo_none ?_ | refine offM_head rfl rfl ?_)), ⟨k + 1, ?_, by omega, rfl⟩, ?_⟩
        · have g := of_decide_eq_true g39
          refine congr (congrArg (fun b => fun z : Value => [Value.bool b, z]) ?_) (congrArg (Value.int .i64) hinc)
          rw [decide_eq_decide, htk]
          constructor
          · intro h; exact ⟨g.1, fun y hy => by
              rcases List.mem_append.1 hy with hy | hy
              · exact g.2 y hy
              · obtain rfl := List.mem_singleton.1 hy; omega⟩
          · intro h; have := h.2 x (List.mem_append.2 (.inr (List.mem_singleton.2 rfl))); omega
        · show (gA bs).1.length - (IntKind.i64.wrap ((k : Int) + 1)).toNat < (gA bs).1.length - (k : Int).toNat
          rw [hinc]; omega
      · refine op_skip (g_no rfl rfl rfl g39) ?_
        refine op_skip (g_no rfl rfl rfl g39) ?_
        refine o_pkFc rfl g39 rfl ?_
        refine o_ast rfl ?_
        refine ops_nil ?_
        refine W_region ?_
        refine op_run (r_add rfl rfl) rfl ?_
        refine o_mvt rfl ?_
        refine ops_nil ?_
        refine ⟨by (repeat (first | with_reducible exact offM_refl _ _ | refine offM_updc rfl ?_ | refine offM_upd rfl ?_ | refine offM_updo rfl ?_ | refine offM_updo_none ?_ | refine offM_head rfl rfl ?_)), ⟨k + 1, ?_, by omega, rfl⟩, ?_⟩
        · have g := of_decide_eq_false g39
          refine congr (congrArg (fun b => fun z : Value => [Value.bool b, z]) ?_) (congrArg (Value.int .i64) hinc)
          symm; apply decide_eq_false; rw [htk]
          exact fun h => g ⟨h.1, fun y hy => h.2 y (List.mem_append.2 (.inl hy))⟩
        · show (gA bs).1.length - (IntKind.i64.wrap ((k : Int) + 1)).toNat < (gA bs).1.length - (k : Int).toNat
          rw [hinc]; omega
    · refine W_exit ?_
      refine W_seq ?_
      have hke : k = (gA bs).1.length := by omega
      rw [hke, List.take_length, ← hRb]
      have hzz := hk33.size
      refine W_held (fun w' => Keep (fun z => z ≠ b1) w35 w' ∧ Blk w' b1 [v5, vv, .bool R.1.leaf, vm] 59) (by kernel_rfl) (⟨(Keep.drawn w35).all, (Keep.drawn w35).blk' hB33 trivial⟩) (fun hS => ?_)
      have hI35 : InC _ bI A R.2.1 R.2.2 := hI33.keep (Keep.drawn w35) trivial (fun _ _ => trivial)
      have fin : ∀ wf, Keep (fun z => z ≠ b1) w35 wf → By wf v5 R.1.beg ∧ By wf vv R.1.val ∧ (∃ am, vm = .map am) ∧ (R.1.leaf = false → ∃ bm, vm = .map (some bm) ∧ MapU wf bm (kidV R.1.kids)) ∧ Keep All w wf := fun wf hf =>
        ⟨by rw [hRb]; exact hby33.keep hf (hin5.mono fun k h => hA1 k h), hvv.keep hf (hvvA.mono fun k h => hA1 k h), hmf, fun h => by
          obtain ⟨bm, e, h1, h2, h3⟩ := hmap h
          exact ⟨bm, e, h3.keep hf h1⟩, (hkw6.outA (B := fun z => z = b1 ∨ z = bI) (hk33.mono fun z _ h => ⟨fun e => h (.inl e), fun e => h (.inr e)⟩) (fun z h => by omega)).new hf (by omega)⟩
      refine any_run 0 (fun w' hS' => (r_loadA ([v5, vv, .bool R.1.leaf, vm]) rfl rfl rfl (by first | rfl | (rw [binV_len]; rfl) | (rw [dgR_len]; rfl) | (rw [refR_len]; rfl) | (rw [secR_len]; rfl) | (rw [List.length_map, tagF_len]; rfl) | rfl) (hS'.2.all))) rfl (by kernel_rfl) (by kernel_rfl) (by kernel_rfl) rfl hS ?_
      refine any_mvt 1 rfl (by kernel_rfl) (by kernel_rfl) (by kernel_rfl) rfl hS ?_
      refine any_mvt 2 rfl (by kernel_rfl) (by kernel_rfl) (by kernel_rfl) rfl hS ?_
      refine a_split 74 true rfl (fun g44 => ?_) (fun g44 => ?_)
      · refine any_mvt 3 rfl (by kernel_rfl) (by kernel_rfl) (by kernel_rfl) (g_yes rfl rfl rfl g44) hS ?_
        refine any_one 4 (by kernel_rfl) (one_of rfl ?_)
        refine op_call rfl rfl (g_yes rfl rfl rfl g44) (in_Done _ bI A _ _ hI35) ?_; rintro v45 w45 ⟨rfl, hk45⟩
        refine ops_nil ⟨⟨hS.1.trans hk45.all, hk45.blk' hS.2 trivial⟩, fun hS => ?_⟩
        refine any_run 5 (fun w' hS' => (r_eql rfl rfl)) rfl (by kernel_rfl) (by kernel_rfl) (by kernel_rfl) (g_yes rfl rfl rfl g44) hS ?_
        refine any_run 6 (fun w' hS' => (r_pickT rfl g44)) rfl (by kernel_rfl) (by kernel_rfl) (by kernel_rfl) rfl hS ?_
        refine any_one 7 (by kernel_rfl) (one_of rfl ?_)
        refine o_storeA (cs := [v5, vv, .bool R.1.leaf, vm]) rfl rfl (by first | rfl | exact binV_one _ | exact dgR_one _ | exact refR_one _ | exact secR_one _ | exact all_c8 _ | (obtain ⟨am, rfl⟩ := hmf; rw [e5_, ev_]; rfl)) (by first | rfl | (rw [binV_len]; rfl) | (rw [dgR_len]; rfl) | (rw [refR_len]; rfl) | (rw [secR_len]; rfl) | (rw [List.length_map, tagF_len]; rfl) | rfl) hS.2 (by exact Nat.le_refl _) rfl ?_; intro w47 hB47 hk47 hs47
        have hB47 : Blk w47 b1 [v5, vv, .bool R.1.leaf, vm] 59 := hB47
        refine ops_nil ⟨⟨hS.1.trans hk47, hB47⟩, fun hS => ?_⟩
        refine any_ast 8 rfl (by kernel_rfl) (by kernel_rfl) (by kernel_rfl) rfl hS ?_
        refine any_done (by kernel_rfl) ?_
        refine W_ret ?_
        refine retAT ([v5, vv, .bool R.1.leaf, vm]) (_) rfl rfl rfl rfl rfl (by first | rfl | (rw [binV_len]; rfl) | (rw [dgR_len]; rfl) | (rw [refR_len]; rfl) | (rw [secR_len]; rfl) | (rw [List.length_map, tagF_len]; rfl) | rfl) (hB47.all) ?_
        refine ⟨v5, vv, vm, congrArg (fun b => Value.tuple #[.agg [v5, vv, .bool R.1.leaf, vm].toArray, .bool b]) ?_, fin _ hS.1⟩
        have g := of_decide_eq_true g44
        rw [decide_eq_decide]
        unfold okN
        constructor
        · intro h
          by_cases hc : R.2.2 = true ∨ 0 < R.2.1.length
          · rw [if_pos hc] at h; cases h
          · exact ⟨g, List.eq_nil_of_length_eq_zero (by have : ¬ 0 < R.2.1.length := fun h => hc (.inr h); omega), by simpa using fun h => hc (.inl h)⟩
        · intro h
          rw [if_neg (by rw [h.2.1, h.2.2]; simp)]
      · refine any_skip 3 rfl (by kernel_rfl) (by kernel_rfl) (by kernel_rfl) (g_no rfl rfl rfl g44) hS ?_
        refine any_one 4 (by kernel_rfl) (one_of rfl ?_)
        refine op_skip (g_no rfl rfl rfl g44) ?_
        refine ops_nil ⟨hS, fun hS => ?_⟩
        refine any_skip 5 rfl (by kernel_rfl) (by kernel_rfl) (by kernel_rfl) (g_no rfl rfl rfl g44) hS ?_
        refine any_run 6 (fun w' hS' => (r_pickF rfl g44)) rfl (by kernel_rfl) (by kernel_rfl) (by kernel_rfl) rfl hS ?_
        refine any_one 7 (by kernel_rfl) (one_of rfl ?_)
        refine o_storeA (cs := [v5, vv, .bool R.1.leaf, vm]) rfl rfl (by first | rfl | exact binV_one _ | exact dgR_one _ | exact refR_one _ | exact secR_one _ | exact all_c8 _ | (obtain ⟨am, rfl⟩ := hmf; rw [e5_, ev_]; rfl)) (by first | rfl | (rw [binV_len]; rfl) | (rw [dgR_len]; rfl) | (rw [refR_len]; rfl) | (rw [secR_len]; rfl) | (rw [List.length_map, tagF_len]; rfl) | rfl) hS.2 (by exact Nat.le_refl _) rfl ?_; intro w51 hB51 hk51 hs51
        have hB51 : Blk w51 b1 [v5, vv, .bool R.1.leaf, vm] 59 := hB51
        refine ops_nil ⟨⟨hS.1.trans hk51, hB51⟩, fun hS => ?_⟩
        refine any_ast 8 rfl (by kernel_rfl) (by kernel_rfl) (by kernel_rfl) rfl hS ?_
        refine any_done (by kernel_rfl) ?_
        refine W_ret ?_
        refine retAT ([v5, vv, .bool R.1.leaf, vm]) (_) rfl rfl rfl rfl rfl (by first | rfl | (rw [binV_len]; rfl) | (rw [dgR_len]; rfl) | (rw [refR_len]; rfl) | (rw [secR_len]; rfl) | (rw [List.length_map, tagF_len]; rfl) | rfl) (hB51.all) ?_
        refine ⟨v5, vv, vm, congrArg (fun b => Value.tuple #[.agg [v5, vv, .bool R.1.leaf, vm].toArray, .bool b]) ?_, fin _ hS.1⟩
        have g := of_decide_eq_false g44
        symm; exact decide_eq_false fun h => g h.1
end Go.Proofs.YtpiidddccmohdabDoor.B
