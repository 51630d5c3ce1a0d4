/-
  What a proof shows: the program's way.
-/
import Derived.Test.YtnjepmdgbkhoaaaMerk3
import Derived.Test.YtnjepmdgbkhoaaaBsR
namespace Go.Proofs.Ytnjepmdgbkhoaaa.B
open Go
set_option linter.unusedVariables false
set_option maxHeartbeats 2000000
set_option maxRecDepth 100000
attribute [local irreducible] W OpsW OpsQ retP
theorem ti_b : tinfo Try.prog 4 = some (some (.bool false), 1, 1) := by kernel_rfl
theorem ti_d : tinfo Try.prog 23 = some (some (.agg (List.replicate 32 (c8 0)).toArray), 32, 32) := by kernel_rfl
theorem rowD {w : World} {g : Nat} {l : List Dig} {ex : List Value} {e : TypeId} {j : Nat} {d : Dig} (hB : Blk w g (rows dgR l ++ ex) e) (hd : l[j]? = some d) : ∀ (u : Nat) (v : Value), (dgR d)[u]? = some v → w.cell? ((⟨g, 0 + j * 32, none⟩ : Addr).add u) = some v := by
  intro u v hu
  obtain ⟨h1, h2⟩ := List.getElem?_eq_some_iff.1 hd
  have hu64 : u < 32 := by have := (List.getElem?_eq_some_iff.1 hu).1; rwa [dgR_len] at this
  have hlt : j * 32 + u < (rows dgR l).length := by rw [rows_len dgR_len]; omega
  rw [Addr.add_lit, Nat.zero_add]
  exact hB.cell (by rw [List.getElem?_append_left hlt, rows_get dgR_len h1 hu64, h2]; exact hu)

theorem sl_RevD (w : World) (v : Value) (xs : List Dig) (h : Own w 23 32 v xs.length (rows dgR xs)) :
    Ret Try.prog 26 [v].toArray w fun _ w' => Own w' 23 32 v xs.length (rows dgR xs.reverse) ∧ Keep (fun b => some b ≠ v.ownBlock) w w' := by
  obtain ⟨a0, c0, rfl, hc0, hcm0⟩ := h.form
  have hm : c0 ≤ 9223372036854775807 := by unfold maxLen at hcm0; omega
  refine enter (fn := Try.f26) (n := 28) Try.func26 rfl rfl (by simp) ?_
  refine W_seq ?_
  refine W_region ?_
  refine o_mvt rfl ?_
  refine op_run (r_len rfl rfl rfl) rfl ?_
  refine op_run ((r_sub rfl rfl).val (congrArg (Value.int .i64) (show IntKind.i64.wrap ((xs.length : Int) - 1) = (xs.length : Int) - 1 from wrap_i64 (by omega) (by omega)))) rfl ?_
  refine o_asc rfl ?_
  refine o_ast rfl ?_
  refine ops_nil ?_
  refine W_block ?_
  refine W_loop [2, 3] [2, 3, 7, 8, 9, 10, 11, 12, 13, 14, 15, 16, 17, 18, 19, 20, 21, 22, 23, 24, 25, 26, 27] (fun vs w' => ∃ i : Nat, vs = [.int .i64 i, .int .i64 ((xs.length : Int) - 1 - i)] ∧ 2 * i ≤ xs.length ∧ Own w' 23 32 (.slice a0 xs.length c0) xs.length (rows dgR (revI xs i)) ∧ Keep (fun b => some b ≠ (Value.slice a0 xs.length c0).ownBlock) w w') (fun vs _ => match vs with | [.int _ k, _] => xs.length - k.toNat | _ => 0) ⟨0, congrArg (fun z : Int => [Value.int .i64 0, Value.int .i64 z]) (show (xs.length : Int) - 1 = (xs.length : Int) - 1 - ((0 : Nat) : Int) by omega), by omega, h, Keep.refl _⟩ ?_
  rintro J1 vs w1 ⟨i, rfl, hi, hO, hk1⟩ -
  refine W_seq ?_
  refine W_seq ?_
  refine W_region ?_
  refine o_mvt rfl ?_
  refine o_mvt rfl ?_
  refine op_run (r_lss rfl rfl) rfl ?_
  refine ops_nil ?_
  refine W_cond_p rfl (fun h2 => ?_) (fun h2 => ?_)
  · refine W_skip ?_
    refine W_seq ?_
    refine W_block ?_
    have hin : (i : Int) < (xs.length : Int) - 1 - i := h2
    have hinck := inc64' i (by omega)
    obtain ⟨x, hx⟩ : ∃ x, xs[i]? = some x := ⟨_, List.getElem?_eq_getElem (by omega)⟩
    obtain ⟨y, hy⟩ : ∃ y, xs[xs.length - 1 - i]? = some y := ⟨_, List.getElem?_eq_getElem (by omega)⟩
    obtain ⟨hm1, hm2⟩ := revI_mid (xs := xs) (i := i) (by omega)
    obtain ⟨g, c, ex, ev1, hgc, hgm, hB, hre⟩ := hO.open (by omega)
    injection ev1 with ev1 ev2 ev3
    subst ev1; subst ev3
    have hrl := revI_len xs i
    have hji : ((xs.length : Int) - 1 - i).toNat = xs.length - 1 - i := by omega
    refine W_gate 13 (fun w' => Keep All w1 w') (by kernel_rfl) (Keep.drawn w1) (fun hS => ?_)
    refine gt_mvt 0 rfl (by kernel_rfl) (by kernel_rfl) (by kernel_rfl) (by kernel_rfl) rfl hS ?_
    refine gt_mvt 1 rfl (by kernel_rfl) (by kernel_rfl) (by kernel_rfl) (by kernel_rfl) rfl hS ?_
    refine gt_mvt 4 rfl (by kernel_rfl) (by kernel_rfl) (by kernel_rfl) (by kernel_rfl) rfl hS ?_
    refine gt_mvt 5 rfl (by kernel_rfl) (by kernel_rfl) (by kernel_rfl) (by kernel_rfl) rfl hS ?_
    refine gt_run 6 (fun w' hS' => (r_idxS rfl rfl rfl ti_d (by omega) (by omega))) rfl (by kernel_rfl) (by kernel_rfl) (by kernel_rfl) (by kernel_rfl) rfl hS ?_
    refine gt_run 7 (fun w' hS' => (r_loadA (dgR y) rfl rfl rfl (by first | rfl | (rw [dgR_len]; rfl) | (rw [refR_len]; rfl) | (rw [secR_len]; rfl) | (rw [List.length_map, tagF_len]; rfl)) ((by intro u v hu; rw [hji]; exact rowD (hS'.blk' hB trivial) (hm2.trans hy) u v hu)))) rfl (by kernel_rfl) (by kernel_rfl) (by kernel_rfl) (by kernel_rfl) rfl hS ?_
    refine gt_mvt 8 rfl (by kernel_rfl) (by kernel_rfl) (by kernel_rfl) (by kernel_rfl) rfl hS ?_
    refine gt_mvt 9 rfl (by kernel_rfl) (by kernel_rfl) (by kernel_rfl) (by kernel_rfl) rfl hS ?_
    refine gt_run 10 (fun w' hS' => (r_idxS rfl rfl rfl ti_d (by omega) (by omega))) rfl (by kernel_rfl) (by kernel_rfl) (by kernel_rfl) (by kernel_rfl) rfl hS ?_
    refine gt_run 11 (fun w' hS' => (r_loadA (dgR x) rfl rfl rfl (by first | rfl | (rw [dgR_len]; rfl) | (rw [refR_len]; rfl) | (rw [secR_len]; rfl) | (rw [List.length_map, tagF_len]; rfl)) ((by intro u v hu; rw [Int.toNat_natCast]; exact rowD (hS'.blk' hB trivial) (hm1.trans hx) u v hu)))) rfl (by kernel_rfl) (by kernel_rfl) (by kernel_rfl) (by kernel_rfl) rfl hS ?_
    refine gt_run 12 (fun w' hS' => (r_idxS rfl rfl rfl ti_d (by omega) (by omega))) rfl (by kernel_rfl) (by kernel_rfl) (by kernel_rfl) (by kernel_rfl) rfl hS ?_
    refine gp_mvt 2 rfl (by kernel_rfl) (by kernel_rfl) (by kernel_rfl) (by kernel_rfl) rfl hS ?_
    refine gp_mvt 3 rfl (by kernel_rfl) (by kernel_rfl) (by kernel_rfl) (by kernel_rfl) rfl hS ?_
    refine gt_past 13 (by kernel_rfl) (by kernel_rfl) (one_of rfl ?_)
    refine o_storeA (cs := dgR y) rfl rfl (by first | rfl | exact dgR_one _ | exact refR_one _ | exact secR_one _ | exact all_c8 _) (by first | rfl | (rw [dgR_len]; rfl) | (rw [refR_len]; rfl) | (rw [secR_len]; rfl) | (rw [List.length_map, tagF_len]; rfl)) ((Keep.drawn w1).blk' hB trivial) (by rw [List.length_append, rows_len dgR_len, dgR_len, hrl, Int.toNat_natCast]; omega) rfl ?_; intro w9 hB9 hk9 hs9
    have hB9 : Blk w9 g (rows dgR ((revI xs i).set i y) ++ ex) 23 := by
      have h : Blk w9 g (splice (rows dgR (revI xs i) ++ ex) (0 + (i : Int).toNat * 32) (dgR y)) 23 := hB9
      rw [Int.toNat_natCast, Nat.zero_add, splice_app (by rw [rows_len dgR_len, dgR_len, hrl]; omega), rows_set dgR_len (by rw [hrl]; omega)] at h
      exact h
    refine ops_nil ?_
    refine gt_past 14 (by kernel_rfl) (by kernel_rfl) (one_of rfl ?_)
    refine op_run (r_idxS rfl rfl rfl ti_d (by omega) (by omega)) rfl ?_
    refine ops_nil ?_
    refine gt_past 15 (by kernel_rfl) (by kernel_rfl) (one_of rfl ?_)
    refine o_storeA (cs := dgR x) rfl rfl (by first | rfl | exact dgR_one _ | exact refR_one _ | exact secR_one _ | exact all_c8 _) (by first | rfl | (rw [dgR_len]; rfl) | (rw [refR_len]; rfl) | (rw [secR_len]; rfl) | (rw [List.length_map, tagF_len]; rfl)) hB9 (by rw [List.length_append, rows_len dgR_len, dgR_len, List.length_set, hrl, hji]; omega) rfl ?_; intro w11 hB11 hk11 hs11
    have hB11' : Blk w11 g (rows dgR (revI xs (i + 1)) ++ ex) 23 := by
      have h : Blk w11 g (splice (rows dgR ((revI xs i).set i y) ++ ex) (0 + ((xs.length : Int) - 1 - i).toNat * 32) (dgR x)) 23 := hB11
      rw [hji, Nat.zero_add, splice_app (by rw [rows_len dgR_len, dgR_len, List.length_set, hrl]; omega), rows_set dgR_len (by rw [List.length_set, hrl]; omega)] at h
      rw [revI_s hx hy]; exact h
    refine ops_nil ?_
    refine gt_done (by kernel_rfl) ?_
    refine W_region ?_
    refine o_mvt rfl ?_
    refine op_run (r_add rfl rfl) rfl ?_
    refine o_mvt rfl ?_
    refine op_run (r_sub rfl rfl) rfl ?_
    refine o_ast rfl ?_
    refine o_ast rfl ?_
    refine ops_nil ?_
    refine ⟨by (repeat (first | with_reducible exact offM_refl _ _ | refine offM_updc rfl ?_ | refine offM_upd rfl ?_ | refine offM_updo rfl ?_ | refine offM_updo_none ?_ | refine offM_head rfl rfl ?_)), ⟨i + 1, ?_, by omega, hre _ _ hB11' (by rw [rows_len dgR_len, rows_len dgR_len, revI_len, revI_len]), ?_⟩, ?_⟩
    · exact congr (congrArg (fun (a b : Int) => [Value.int .i64 a, Value.int .i64 b]) hinck) ((wrap_i64 (n := (xs.length : Int) - 1 - i - 1) (by omega) (by omega)).trans (by omega))
    · exact hk1.trans ((((Keep.drawn w1).all).trans (hk9.mono fun b _ h e => h (by rw [e]; rfl))).trans (hk11.mono fun b _ h e => h (by rw [e]; rfl)))
    · show xs.length - (IntKind.i64.wrap ((i : Int) + 1)).toNat < xs.length - (i : Int).toNat
      rw [hinck]; omega
  · refine W_exit ?_
    refine ret0 rfl ?_
    have hend : ¬ ((i : Int) < (xs.length : Int) - 1 - i) := h2
    rw [← revI_end (xs := xs) (i := i) hi (by omega)]
    exact ⟨hO, hk1⟩

theorem splitN_half {c m : Nat} (h2 : 2 ≤ c) (h : c ≤ 2 ^ m) : 1 ≤ m ∧ splitN c ≤ 2 ^ (m - 1) ∧ c - splitN c ≤ 2 ^ (m - 1) := by
  have h1 : Nat.log2 (c - 1) < m := (Nat.log2_lt (by omega)).2 (by omega)
  have h3 : splitN c ≤ 2 ^ (m - 1) := Nat.pow_le_pow_right (by decide) (by omega)
  have := splitN_ge h2
  exact ⟨by omega, h3, by omega⟩

theorem mk_sides (w : World) (count pos : Nat) (hc : count < 2 ^ 63) (hp : pos < count) :
    Ret Try.prog 21 [.int .i64 count, .int .i64 pos].toArray w fun r w' => Own w' 4 1 r (sidesD count pos).length ((sidesD count pos).reverse.map .bool) ∧ InB (fun b => w.heap.size ≤ b) r ∧ Keep All w w' := by
  refine enter (fn := Try.f21) (n := 29) Try.func21 rfl rfl (by simp) ?_
  refine W_seq ?_
  refine W_region ?_
  refine o_asc rfl ?_
  refine ops_nil ?_
  refine W_seq ?_
  refine W_block ?_
  refine W_loop [0, 1, 4] [0, 1, 4, 5, 6, 7, 8, 9, 10, 11, 12, 13, 14, 15, 16, 17, 18, 19, 20, 21, 22, 23, 24, 25] (fun vs w' => ∃ (c p : Nat) (acc : List Bool) (u : Value), vs = [.int .i64 c, .int .i64 p, u] ∧ c ≤ count ∧ p < c ∧ acc.length ≤ 63 ∧ c ≤ 2 ^ (63 - acc.length) ∧ sidesD count pos = acc ++ sidesD c p ∧ Own w' 4 1 u acc.length (acc.map .bool) ∧ InB (fun b => w.heap.size ≤ b) u ∧ Keep All w w') (fun vs _ => match vs with | [.int _ k, _, _] => k.toNat | _ => 0) ⟨count, pos, [], .slice none 0 0, rfl, Nat.le_refl _, hp, by simp, by simp; omega, rfl, own_nil _ _ _, InB.nil, Keep.refl _⟩ ?_
  rintro J1 vs w1 ⟨c, p, acc, u, rfl, hcc, hpc, hal, hcl, hsd, hO, hin, hkw⟩ -
  obtain ⟨au, cu, rfl, hcu, hcmu⟩ := hO.form
  refine W_seq ?_
  refine W_seq ?_
  refine W_region ?_
  refine o_mvt rfl ?_
  refine op_run (r_gtr rfl rfl) rfl ?_
  refine ops_nil ?_
  refine W_cond_p rfl (fun h2 => ?_) (fun h2 => ?_)
  · refine W_skip ?_
    refine W_block ?_
    refine W_seq ?_
    refine W_region ?_
    refine o_mvt rfl ?_
    have h2c : 2 ≤ c := by omega
    have hsp := splitN_lt h2c
    have hsp0 := splitN_pos c
    obtain ⟨hm1, hm2, hm3⟩ := splitN_half h2c hcl
    refine op_call rfl rfl rfl (mk_split w1 c h2c (by omega)) ?_; rintro v3 w3 ⟨rfl, rfl⟩
    refine o_ast rfl ?_
    refine ops_nil ?_
    refine W_seq ?_
    refine W_region ?_
    refine o_mvt rfl ?_
    refine o_mvt rfl ?_
    refine o_mvt rfl ?_
    refine op_run (r_lss rfl rfl) rfl ?_
    refine o_bs1 (v := .bool (decide ((p : Int) < ((splitN c : Nat) : Int)))) rfl rfl rfl rfl rfl rfl ?_; intro w4 b4 e4 hB4 hk4 hs4
    refine o_app1 (v := .slice au acc.length cu) rfl rfl hB4 rfl rfl ti_b rfl (hO.keep hk4 (fun _ _ => trivial)) (by unfold maxLen; omega) (by omega) rfl ?_; intro v5 w5 hown5 hk5 hb5
    have hk5' : Keep All w w5 := (hkw.trans hk4).outA (B := fun k => w.heap.size ≤ k) (hk5.mono fun b _ h e => h (hin b e.symm)) (fun b hb => hb)
    have hin5 : InB (fun b => w.heap.size ≤ b) v5 := fun b hb => by
      rcases hb5 b hb with h | h
      · exact hin b h
      · have := hkw.size; have := hk4.size; omega
    refine o_ast rfl ?_
    refine ops_nil ?_
    refine W_seq ?_
    refine W_seq ?_
    refine W_region ?_
    refine o_mvt rfl ?_
    refine o_mvt rfl ?_
    refine op_run (r_lss rfl rfl) rfl ?_
    refine ops_nil ?_
    refine W_cond_p rfl (fun h6 => ?_) (fun h6 => ?_)
    · refine W_seq ?_
      refine W_region ?_
      refine o_mvt rfl ?_
      refine o_ast rfl ?_
      refine ops_nil ?_
      refine W_exit ?_
      refine ⟨by (repeat (first | with_reducible exact offM_refl _ _ | refine offM_updc rfl ?_ | refine offM_upd rfl ?_ | refine offM_updo rfl ?_ | refine offM_updo_none ?_ | refine offM_head rfl rfl ?_)), ⟨splitN c, p, acc ++ [true], v5, rfl, by omega, by omega, by rw [List.length_append]; simp; omega, by rw [List.length_append]; simpa [Nat.sub_sub] using hm2, ?_, ?_, hin5, hk5'⟩, ?_⟩
      · rw [hsd, sidesD_l h2c (by omega)]; simp
      · rw [decide_eq_true h6] at hown5
        rw [List.length_append, List.map_append]; exact hown5
      · show (((splitN c : Nat) : Int)).toNat < (c : Int).toNat
        omega
    · refine W_skip ?_
      refine W_region ?_
      refine o_mvt rfl ?_
      refine o_mvt rfl ?_
      refine op_run ((r_sub rfl rfl).val (congrArg (Value.int .i64) (show IntKind.i64.wrap ((c : Int) - ((splitN c : Nat) : Int)) = ((c - splitN c : Nat) : Int) from (wrap_i64 (by omega) (by omega)).trans (by omega)))) rfl ?_
      refine o_mvt rfl ?_
      refine o_mvt rfl ?_
      refine op_run ((r_sub rfl rfl).val (congrArg (Value.int .i64) (show IntKind.i64.wrap ((p : Int) - ((splitN c : Nat) : Int)) = ((p - splitN c : Nat) : Int) from (wrap_i64 (by omega) (by omega)).trans (by omega)))) rfl ?_
      refine o_ast rfl ?_
      refine o_ast rfl ?_
      refine ops_nil ?_
      refine ⟨by (repeat (first | with_reducible exact offM_refl _ _ | refine offM_updc rfl ?_ | refine offM_upd rfl ?_ | refine offM_updo rfl ?_ | refine offM_updo_none ?_ | refine offM_head rfl rfl ?_)), ⟨c - splitN c, p - splitN c, acc ++ [false], v5, rfl, by omega, by omega, by rw [List.length_append]; simp; omega, by rw [List.length_append]; simpa [Nat.sub_sub] using hm3, ?_, ?_, hin5, hk5'⟩, ?_⟩
      · rw [hsd, sidesD_r h2c (by omega)]; simp
      · rw [decide_eq_false h6] at hown5
        rw [List.length_append, List.map_append]; exact hown5
      · show (((c - splitN c : Nat) : Int)).toNat < (c : Int).toNat
        omega
  · refine W_exit ?_
    refine W_seq ?_
    refine W_region ?_
    refine o_mvt rfl ?_
    have hsd' : sidesD count pos = acc := by rw [hsd, sidesD_1 (by omega), List.append_nil]
    refine op_call rfl rfl rfl (sl_RevB w1 _ acc hO) ?_; rintro v9 w9 ⟨hO9, hk9⟩
    refine ops_nil ?_
    refine W_seq ?_
    refine W_region ?_
    refine o_mvt rfl ?_
    refine o_ast rfl ?_
    refine ops_nil ?_
    refine W_ret ?_
    refine ret1 (.slice au acc.length cu) rfl ?_ ?_; rfl
    rw [hsd']
    exact ⟨hO9, hin, hkw.outA (B := fun k => w.heap.size ≤ k) (hk9.mono fun b _ h e => h (hin b e.symm)) (fun b hb => hb)⟩

theorem up_take {bs : List Bool} {ps : List Dig} {d : Dig} {k : Nat} {b : Bool} {p : Dig} (hb : bs[k]? = some b) (hp : ps[k]? = some p) : upD tagD ((bs.zip ps).take (k + 1)) d = stepD tagD b p (upD tagD ((bs.zip ps).take k) d) := by
  obtain ⟨h1, rfl⟩ := List.getElem?_eq_some_iff.1 hb
  obtain ⟨h2, rfl⟩ := List.getElem?_eq_some_iff.1 hp
  have hz : k < (bs.zip ps).length := by rw [List.length_zip]; omega
  rw [List.take_succ_eq_append_getElem hz, upD_snoc, List.getElem_zip]

theorem mk_Verify (w : World) (root : Dig) (count pos : Int) (vr vp : Value) (row : List UInt8) (proof : List Dig) (hc : count < 2 ^ 63) (hr : By w vr row) (hrl : row.length ≤ 100000) (hp : Sl w vp proof.length 32 (rows dgR proof)) :
    Ret Try.prog 9 [.agg (dgR root).toArray, .int .i64 count, .int .i64 pos, vr, vp].toArray w fun r w' => r = .bool (decide ((0 ≤ pos ∧ pos < count) ∧ leadD tagD count.toNat pos.toNat row proof = (root, true))) ∧ Keep All w w' := by
  obtain ⟨ar, cr, rfl, _, _⟩ := hr.form
  obtain ⟨ap, cp, rfl, hcp, hcmp⟩ := hp.form
  refine enter (fn := Try.f9) (n := 54) Try.func9 rfl rfl (by simp) ?_
  refine W_seq ?_
  refine W_region ?_
  refine o_box rfl rfl rfl ?_; intro w1 b1 e1 hB1 hk1 hs1
  refine o_asc rfl ?_
  refine ops_nil ?_
  refine W_seq ?_
  refine W_cut [21] [15, 16, 17, 18, 19, 20, 21] (fun vs w2 => vs = [.bool (decide (¬ (0 ≤ pos ∧ pos < count)))] ∧ w2 = w1) ?_ ?_
  · refine W_region ?_
    refine o_mvt rfl ?_
    refine op_run (r_lss rfl rfl) rfl ?_
    refine o_mvt rfl ?_
    refine g_split rfl rfl rfl (fun g3 => ?_) (fun g3 => ?_)
    · refine o_mvt (g_yes rfl rfl rfl g3) ?_
      refine o_mvt (g_yes rfl rfl rfl g3) ?_
      refine op_run (r_geq rfl rfl) (g_yes rfl rfl rfl g3) ?_
      refine o_pkFt rfl g3 rfl ?_
      refine ops_nil ?_
      exact ⟨by (repeat (first | with_reducible exact offM_refl _ _ | refine offM_updc rfl ?_ | refine offM_upd rfl ?_ | refine offM_updo rfl ?_ | refine offM_updo_none ?_ | refine offM_head rfl rfl ?_)), congrArg (fun b => [Value.bool b]) (by have g3 := of_decide_eq_false g3; rw [decide_eq_decide]; omega), rfl⟩
    · refine op_skip (g_no rfl rfl rfl g3) ?_
      refine op_skip (g_no rfl rfl rfl g3) ?_
      refine op_skip (g_no rfl rfl rfl g3) ?_
      refine o_pkTc rfl g3 rfl ?_
      refine ops_nil ?_
      exact ⟨by (repeat (first | with_reducible exact offM_refl _ _ | refine offM_updc rfl ?_ | refine offM_upd rfl ?_ | refine offM_updo rfl ?_ | refine offM_updo_none ?_ | refine offM_head rfl rfl ?_)), congrArg (fun b => [Value.bool b]) (by have g3 := of_decide_eq_true g3; symm; apply decide_eq_true; omega), rfl⟩
  · rintro J6 vs w6 ⟨rfl, rfl⟩ -
    refine W_cond_p rfl (fun h7 => ?_) (fun h7 => ?_)
    · refine W_seq ?_
      refine W_region ?_
      refine o_asc rfl ?_
      refine ops_nil ?_
      refine W_ret ?_
      refine ret1 (.bool false) rfl ?_ ?_; rfl
      exact ⟨congrArg Value.bool (decide_eq_false fun h => h7 h.1).symm, hk1⟩
    · refine W_skip ?_
      refine W_seq ?_
      refine W_region ?_
      refine o_mvt rfl ?_
      refine o_mvt rfl ?_
      have hpc : 0 ≤ pos ∧ pos < count := Decidable.not_not.1 h7
      obtain ⟨c, rfl⟩ := Int.eq_ofNat_of_zero_le (show 0 ≤ count by omega)
      obtain ⟨p, rfl⟩ := Int.eq_ofNat_of_zero_le hpc.1
      obtain ⟨hl1, hl2⟩ := lead_up tagD c c p row proof (Nat.le_refl _)
      refine op_call rfl rfl rfl (mk_sides w6 c p (by omega) (by omega)) ?_; rintro v9 w9 ⟨hO9, hin9, hk9⟩
      obtain ⟨a9, c9, rfl, hc9, hcm9⟩ := hO9.form
      refine o_ast rfl ?_
      refine ops_nil ?_
      refine W_seq ?_
      refine W_seq ?_
      refine W_region ?_
      refine o_mvt rfl ?_
      refine op_run (r_len rfl rfl rfl) rfl ?_
      refine o_mvt rfl ?_
      refine op_run (r_len rfl rfl rfl) rfl ?_
      refine op_run (r_neq rfl rfl) rfl ?_
      refine ops_nil ?_
      refine W_cond_p rfl (fun h10 => ?_) (fun h10 => ?_)
      · refine W_seq ?_
        refine W_region ?_
        refine o_asc rfl ?_
        refine ops_nil ?_
        refine W_ret ?_
        refine ret1 (.bool false) rfl ?_ ?_; rfl
        refine ⟨congrArg Value.bool (decide_eq_false fun h => ?_).symm, hk1.trans hk9⟩
        have h2 := congrArg Prod.snd h.2
        rw [Int.toNat_natCast, Int.toNat_natCast, hl1] at h2
        have h2 := of_decide_eq_true h2
        exact h10 (by omega)
      · refine W_skip ?_
        refine W_seq ?_
        refine W_region ?_
        refine o_mvt rfl ?_
        have hleq : (sidesD c p).length = proof.length := by omega
        have hl2 := hl2 hleq
        refine o_bs1 (v := .slice ar row.length cr) rfl rfl rfl rfl rfl rfl ?_; intro w12 b12 e12 hB12 hk12 hs12
        refine op_call rfl rfl rfl (sh_Tagged w12 _ 0 [row] (rowsB_one hB12 ((((hr.k hk1).k hk9)).k hk12)) (tag_1 _ hrl)) ?_; rintro v13 w13 ⟨rfl, hk13⟩
        refine o_alloc rfl rfl rfl ?_; intro w14 b14 e14 hB14 hk14 hs14
        refine o_storeA (cs := dgR (tagD 0 [row])) rfl rfl (by first | rfl | exact dgR_one _ | exact refR_one _ | exact secR_one _ | exact all_c8 _) (by first | rfl | (rw [dgR_len]; rfl) | (rw [refR_len]; rfl) | (rw [secR_len]; rfl) | (rw [List.length_map, tagF_len]; rfl)) hB14 (by exact Nat.le_of_eq (by simp [dgR_len])) rfl ?_; intro w15 hB15 hk15 hs15
        have hB15 : Blk w15 b14 (dgR (tagD 0 [row])) 23 := by
          have h := hB15
          rwa [splice_all (by simp [dgR_len])] at h
        have hz1 := hk1.size
        have hz9 := hk9.size
        have hz12 := hk12.size
        have hz13 := hk13.size
        have hkA : Keep All w6 w15 := (((hk9.trans hk12).trans hk13).trans hk14).new hk15 (by omega)
        have hlt9 : InB (· < w9.heap.size) (.slice a9 (sidesD c p).length c9) := hO9.lt
        have hO15 : Own w15 4 1 (.slice a9 (sidesD c p).length c9) (sidesD c p).length ((sidesD c p).reverse.map .bool) := ((((hO9.keep hk12 (fun _ _ => trivial)).keep hk13 (fun _ _ => trivial)).keep hk14 (fun _ _ => trivial)).keep hk15 (fun b hb e => by have := hlt9 b hb; omega))
        have hp15 := (hp.k hk1).k hkA
        refine ops_nil ?_
        refine W_seq ?_
        refine W_seq ?_
        refine W_region ?_
        refine o_mvt rfl ?_
        refine op_run (r_len rfl rfl rfl) rfl ?_
        refine o_mvc rfl ?_
        refine ops_nil ?_
        refine W_block ?_
        refine W_loop [35] [13, 14, 35, 36, 37, 38, 39, 40, 41, 42, 43, 44, 45, 46, 47, 48, 49, 50] (fun vs w' => ∃ k : Nat, vs = [.int .i64 k] ∧ k ≤ proof.length ∧ Blk w' b14 (dgR (upD tagD (((sidesD c p).reverse.zip proof).take k) (tagD 0 [row]))) 23 ∧ Keep (· ≠ b14) w15 w') (fun vs _ => match vs with | [.int _ k] => proof.length - k.toNat | _ => 0) ⟨0, rfl, by omega, hB15, Keep.refl _⟩ ?_
        rintro J16 vs w16 ⟨k, rfl, hk, hBk, hk16⟩ -
        refine W_seq ?_
        refine W_region ?_
        refine op_run (r_lss rfl rfl) rfl ?_
        refine ops_nil ?_
        refine W_seq ?_
        refine W_cond_p rfl (fun h17 => ?_) (fun h17 => ?_)
        · refine W_skip ?_
          refine W_seq ?_
          refine W_block ?_
          refine W_seq ?_
          refine W_region ?_
          refine o_mvt rfl ?_
          have hkl : k < proof.length := by omega
          have hinck := inc64' k (by unfold maxLen at hcmp; omega)
          have hkw16 : Keep (· ≠ b14) w w16 := (hk1.trans hkA).all.trans hk16
          obtain ⟨bp, op, rfl, hcells⟩ := rows_at' dgR_len (hp.old hkw16 (fun j hj => by omega)) hkl (by decide)
          obtain ⟨x, hx⟩ : ∃ x, (sidesD c p).reverse[k]? = some x := ⟨_, List.getElem?_eq_getElem (by rw [List.length_reverse]; omega)⟩
          have hO16 := hO15.keep hk16 (fun b hb e => by have := hlt9 b hb; omega)
          obtain ⟨bA, oA, cA, eA, _, _, hcA⟩ := hO16.sl.at (by omega)
          injection eA with eA1 eA2 eA3
          subst eA1; subst eA3
          have hlA : bA < w9.heap.size := hlt9 bA rfl
          refine op_run (r_idxS rfl rfl rfl ti_d (by omega) (by omega)) rfl ?_
          refine op_run (r_loadA (dgR proof[k]) rfl rfl rfl (by first | rfl | (rw [dgR_len]; rfl) | (rw [refR_len]; rfl) | (rw [secR_len]; rfl) | (rw [List.length_map, tagF_len]; rfl)) ((by intro u v hu; rw [Int.toNat_natCast]; exact hcells u v hu))) rfl ?_
          refine o_alloc rfl rfl rfl ?_; intro w20 b20 e20 hB20 hk20 hs20
          refine o_ast rfl ?_
          refine o_storeA (cs := dgR proof[k]) rfl rfl (by first | rfl | exact dgR_one _ | exact refR_one _ | exact secR_one _ | exact all_c8 _) (by first | rfl | (rw [dgR_len]; rfl) | (rw [refR_len]; rfl) | (rw [secR_len]; rfl) | (rw [List.length_map, tagF_len]; rfl)) hB20 (by exact Nat.le_of_eq (by simp [dgR_len])) rfl ?_; intro w21 hB21 hk21 hs21
          have hB21 : Blk w21 b20 (dgR proof[k]) 23 := by
            have h := hB21
            rwa [splice_all (by simp [dgR_len])] at h
          have hz16 := hk16.size
          have hlt14 := hBk.lt
          have hBk21 := hk21.blk' (hk20.blk' hBk trivial) (show b14 ≠ b20 by omega)
          have hcx := hk21.cell (hk20.cell (hcA k (.bool x) (by rw [List.getElem?_map, hx]; rfl)) trivial) (show bA ≠ b20 by omega)
          refine ops_nil ?_
          refine W_seq ?_
          refine W_seq ?_
          refine W_region ?_
          refine o_mvt rfl ?_
          refine o_mvt rfl ?_
          refine op_run (r_idxS1 rfl rfl rfl rfl (by omega) (by omega)) rfl ?_
          refine op_run (r_load rfl rfl rfl (by rw [Int.toNat_natCast]; exact hcx)) rfl ?_
          refine ops_nil ?_
          refine W_cond rfl (fun h24 => ?_) (fun h24 => ?_)
          · refine W_seq ?_
            refine W_region ?_
            refine op_run (r_loadA (dgR (upD tagD (((sidesD c p).reverse.zip proof).take k) (tagD 0 [row]))) rfl rfl rfl (by first | rfl | (rw [dgR_len]; rfl) | (rw [refR_len]; rfl) | (rw [secR_len]; rfl) | (rw [List.length_map, tagF_len]; rfl)) (hBk21.all)) rfl ?_
            refine op_run (r_loadA (dgR proof[k]) rfl rfl rfl (by first | rfl | (rw [dgR_len]; rfl) | (rw [refR_len]; rfl) | (rw [secR_len]; rfl) | (rw [List.length_map, tagF_len]; rfl)) (hB21.all)) rfl ?_
            refine op_call rfl rfl rfl (mk_join w21 (upD tagD (((sidesD c p).reverse.zip proof).take k) (tagD 0 [row])) proof[k]) ?_; rintro v27 w27 ⟨rfl, hk27⟩
            refine o_storeA (cs := dgR (tagD 1 [(upD tagD (((sidesD c p).reverse.zip proof).take k) (tagD 0 [row])).val, proof[k].val])) rfl rfl (by first | rfl | exact dgR_one _ | exact refR_one _ | exact secR_one _ | exact all_c8 _) (by first | rfl | (rw [dgR_len]; rfl) | (rw [refR_len]; rfl) | (rw [secR_len]; rfl) | (rw [List.length_map, tagF_len]; rfl)) (hk27.blk' hBk21 trivial) (by exact Nat.le_of_eq (by simp [dgR_len])) rfl ?_; intro w28 hB28 hk28 hs28
            rw [splice_all (by simp [dgR_len])] at hB28
            refine ops_nil ?_
            refine W_exit ?_
            refine W_region ?_
            refine op_run (r_add rfl rfl) rfl ?_
            refine o_mvt rfl ?_
            refine ops_nil ?_
            have hup : upD tagD (((sidesD c p).reverse.zip proof).take (k + 1)) (tagD 0 [row]) = tagD 1 [(upD tagD (((sidesD c p).reverse.zip proof).take k) (tagD 0 [row])).val, proof[k].val] := by
              rw [up_take hx (List.getElem?_eq_getElem hkl), h24]; rfl
            refine ⟨by (repeat (first | with_reducible exact offM_refl _ _ | refine offM_updc rfl ?_ | refine offM_upd rfl ?_ | refine offM_updo rfl ?_ | refine offM_updo_none ?_ | refine offM_head rfl rfl ?_)), ⟨k + 1, ?_, by omega, by rw [hup]; exact hB28, (((hk16.trans hk20.all).new hk21 (by omega)).trans hk27.all).trans hk28⟩, ?_⟩
            · rw [← hinck]; rfl
            · show proof.length - (IntKind.i64.wrap ((k : Int) + 1)).toNat < proof.length - (k : Int).toNat
              rw [hinck]; omega
          · refine W_skip ?_
            refine W_region ?_
            refine op_run (r_loadA (dgR proof[k]) rfl rfl rfl (by first | rfl | (rw [dgR_len]; rfl) | (rw [refR_len]; rfl) | (rw [secR_len]; rfl) | (rw [List.length_map, tagF_len]; rfl)) (hB21.all)) rfl ?_
            refine op_run (r_loadA (dgR (upD tagD (((sidesD c p).reverse.zip proof).take k) (tagD 0 [row]))) rfl rfl rfl (by first | rfl | (rw [dgR_len]; rfl) | (rw [refR_len]; rfl) | (rw [secR_len]; rfl) | (rw [List.length_map, tagF_len]; rfl)) (hBk21.all)) rfl ?_
            refine op_call rfl rfl rfl (mk_join w21 proof[k] (upD tagD (((sidesD c p).reverse.zip proof).take k) (tagD 0 [row]))) ?_; rintro v32 w32 ⟨rfl, hk32⟩
            refine o_storeA (cs := dgR (tagD 1 [proof[k].val, (upD tagD (((sidesD c p).reverse.zip proof).take k) (tagD 0 [row])).val])) rfl rfl (by first | rfl | exact dgR_one _ | exact refR_one _ | exact secR_one _ | exact all_c8 _) (by first | rfl | (rw [dgR_len]; rfl) | (rw [refR_len]; rfl) | (rw [secR_len]; rfl) | (rw [List.length_map, tagF_len]; rfl)) (hk32.blk' hBk21 trivial) (by exact Nat.le_of_eq (by simp [dgR_len])) rfl ?_; intro w33 hB33 hk33 hs33
            rw [splice_all (by simp [dgR_len])] at hB33
            refine ops_nil ?_
            refine W_region ?_
            refine op_run (r_add rfl rfl) rfl ?_
            refine o_mvt rfl ?_
            refine ops_nil ?_
            have hup : upD tagD (((sidesD c p).reverse.zip proof).take (k + 1)) (tagD 0 [row]) = tagD 1 [proof[k].val, (upD tagD (((sidesD c p).reverse.zip proof).take k) (tagD 0 [row])).val] := by
              rw [up_take hx (List.getElem?_eq_getElem hkl), h24]; rfl
            refine ⟨by (repeat (first | with_reducible exact offM_refl _ _ | refine offM_updc rfl ?_ | refine offM_upd rfl ?_ | refine offM_updo rfl ?_ | refine offM_updo_none ?_ | refine offM_head rfl rfl ?_)), ⟨k + 1, ?_, by omega, by rw [hup]; exact hB33, (((hk16.trans hk20.all).new hk21 (by omega)).trans hk32.all).trans hk33⟩, ?_⟩
            · rw [← hinck]; rfl
            · show proof.length - (IntKind.i64.wrap ((k : Int) + 1)).toNat < proof.length - (k : Int).toNat
              rw [hinck]; omega
        · refine W_exit ?_
          refine W_seq ?_
          refine W_region ?_
          have hkp : k = proof.length := by omega
          subst hkp
          rw [List.take_of_length_le (by rw [List.length_zip]; omega), ← hl2] at hBk
          have hB1' := hk16.blk' (hkA.blk' hB1 trivial) (show b1 ≠ b14 by have := hB1.lt; omega)
          refine op_run (r_loadA (dgR (leadD tagD c p row proof).1) rfl rfl rfl (by first | rfl | (rw [dgR_len]; rfl) | (rw [refR_len]; rfl) | (rw [secR_len]; rfl) | (rw [List.length_map, tagF_len]; rfl)) (hBk.all)) rfl ?_
          refine op_run (r_loadA (dgR root) rfl rfl rfl (by first | rfl | (rw [dgR_len]; rfl) | (rw [refR_len]; rfl) | (rw [secR_len]; rfl) | (rw [List.length_map, tagF_len]; rfl)) (hB1'.all)) rfl ?_
          refine op_run (r_eqlC (p := (leadD tagD c p row proof).1 = root) rfl rfl rfl rfl (by kernel_rfl) (okC_dgR _) (okC_dgR _) rfl (dgR_inj)) rfl ?_
          refine o_ast rfl ?_
          refine ops_nil ?_
          refine W_ret ?_
          refine ret1 (.bool (decide ((leadD tagD c p row proof).1 = root))) rfl ?_ ?_; rfl
          refine ⟨congrArg Value.bool ?_, (hk1.trans hkA).new hk16 (by omega)⟩
          rw [decide_eq_decide, Int.toNat_natCast, Int.toNat_natCast]
          have ht : (leadD tagD c p row proof).2 = true := by rw [hl1]; exact decide_eq_true hleq
          exact ⟨fun h => ⟨hpc, Prod.ext h ht⟩, fun h => congrArg Prod.fst h.2⟩
end Go.Proofs.Ytnjepmdgbkhoaaa.B
