/-
  ShaParts: the walk.
-/
import Derived.Test.YtkjphbnmofhogaaSha8
namespace Go.Proofs.Ytkjphbnmofhogaa.B
open Go
set_option linter.unusedVariables false
set_option maxHeartbeats 2000000
set_option maxRecDepth 100000
attribute [local irreducible] W OpsW OpsQ retP
/-- A row among rows: one cell, a slice of bytes. -/
def RowB (w : World) (cs : List Value) (p : List UInt8) : Prop := ∃ v, cs = [v] ∧ By w v p
theorem flat_le {n : Nat} : ∀ {l : List (List UInt8)}, (∀ p ∈ l, p.length ≤ n) → l.flatten.length ≤ n * l.length
  | [], _ => by simp
  | p :: l, h => by
    have h1 := flat_le (l := l) fun q hq => h q (List.mem_cons_of_mem _ hq)
    have h2 := h p (List.mem_cons_self ..)
    rw [List.flatten_cons, List.length_append, List.length_cons, Nat.mul_succ]; omega
theorem take_s {α : Type} {l : List α} {k : Nat} {x : α} (h : l[k]? = some x) : l.take (k + 1) = l.take k ++ [x] := by
  obtain ⟨hk, rfl⟩ := List.getElem?_eq_some_iff.1 h
  rw [List.take_succ_eq_append_getElem hk]
theorem splice_copy (cs : List Value) (m : Nat) (z : Value) (h : cs.length ≤ m) : splice (List.replicate m z) 0 cs = cs ++ List.replicate (m - cs.length) z := by
  unfold splice; simp
theorem okC_dig (d : List UInt8) (h : d.length = 32) : okC Try.prog 2 26 (d.map c8) := okC_bytes rfl rfl rfl d h

theorem subSl_tail {b l m : Nat} (h : l < m) : subSl (some ⟨b, 0, none⟩) 1 l m m = .slice (some ⟨b, l, none⟩) (m - l) (m - l) := by
  unfold subSl; rw [if_neg (by omega), Option.map_some, Addr.add_lit]; simp

theorem walk_ShaParts (w : World) (v : Value) (pss : List (List UInt8)) (hv : SlR w v 1 (RowB w) pss) :
    Ret Try.prog 3 [v].toArray w fun r w' => r = .bool true ∧ Keep All w w' := by
  obtain ⟨a0, c0, rfl, hc0, hcm0⟩ := hv.form
  refine enter (fn := Try.f3) (n := 69) Try.func3 rfl rfl (by simp) ?_
  refine W_seq ?_
  refine W_region ?_
  refine o_asc rfl ?_
  refine ops_nil ?_
  refine W_seq ?_
  refine W_seq ?_
  refine W_region ?_
  refine op_call rfl rfl rfl (speaks02 w) ?_; rintro v1 w1 ⟨rfl, hk1⟩
  refine op_run (r_not rfl) rfl ?_
  refine ops_nil ?_
  refine W_no rfl (rfl) ?_
  refine W_skip ?_
  refine W_seq ?_
  refine W_seq ?_
  refine W_region ?_
  refine o_mvt rfl ?_
  refine op_run (r_len rfl rfl rfl) rfl ?_
  refine op_run (r_gtr rfl rfl) rfl ?_
  refine ops_nil ?_
  refine W_cond_p rfl (fun h4 => ?_) (fun h4 => ?_)
  · refine W_seq ?_
    refine W_region ?_
    refine o_asc rfl ?_
    refine ops_nil ?_
    refine W_ret ?_
    refine ret1 (.bool true) rfl ?_ ?_; rfl
    exact ⟨rfl, hk1⟩
  · refine W_skip ?_
    refine W_seq ?_
    refine W_region ?_
    refine o_bs0 rfl rfl rfl ?_; intro w6 b6 e6 hB6 hk6 hs6
    refine o_ast rfl ?_
    refine ops_nil ?_
    refine W_seq ?_
    refine W_seq ?_
    refine W_region ?_
    refine o_mvt rfl ?_
    refine op_run (r_len rfl rfl rfl) rfl ?_
    refine o_mvc rfl ?_
    refine ops_nil ?_
    refine W_block ?_
    refine W_loop [3, 19] [2, 3, 5, 19, 20, 21, 22, 23, 24, 25, 26, 27, 28, 29] (fun vs w' => ∃ (vf : Value) (k : Nat), vs = [vf, .int .i64 k] ∧ k ≤ pss.length ∧ OwnB w' 5 vf (pss.take k).flatten ∧ InB (fun b => w1.heap.size ≤ b) vf ∧ (∀ p ∈ pss.take k, p.length ≤ 200) ∧ Keep All w1 w') (fun vs _ => match vs with | [_, .int _ k] => pss.length - k.toNat | _ => 0) ⟨_, 0, rfl, by omega, Own.blk hB6 rfl (by unfold maxLen; omega), fun b hb => by injection hb with hb; subst hb; show w1.heap.size ≤ b6; omega, (fun p hp => by simp at hp), hk6⟩ ?_
    rintro J7 vs w7 ⟨vf, k, rfl, hk, hown, hin, hle, hk1w⟩ -
    have hkw := hk1.trans hk1w
    have hfl := flat_le hle
    rw [List.length_take] at hfl
    obtain ⟨af, cf, rfl, _, _⟩ := hown.form
    refine W_seq ?_
    refine W_region ?_
    refine op_run (r_lss rfl rfl) rfl ?_
    refine ops_nil ?_
    refine W_seq ?_
    refine W_cond_p rfl (fun h8 => ?_) (fun h8 => ?_)
    · refine W_skip ?_
      refine W_seq ?_
      refine W_block ?_
      refine W_seq ?_
      refine W_region ?_
      have hkl : k < pss.length := by omega
      have hpk : pss[k]? = some pss[k] := List.getElem?_eq_getElem hkl
      obtain ⟨bp, op, cp, ep, _, hcells⟩ := hv.at (by decide) (by omega)
      cases ep
      obtain ⟨csk, _, hck, vk, rfl, hby⟩ := hcells k _ hpk
      have hck := hck 0 vk rfl
      obtain ⟨ak, ck, rfl, hak, hakm⟩ := hby.form
      have hinck := inc64' k (by unfold maxLen at hcm0; omega)
      refine op_run (r_idxS1 rfl rfl rfl rfl (by omega) (by omega)) rfl ?_
      refine op_run (r_load rfl rfl rfl (by rw [Int.toNat_natCast, ← Nat.mul_one k]; exact hkw.cell hck trivial)) rfl ?_
      refine o_ast rfl ?_
      refine ops_nil ?_
      refine W_seq ?_
      refine W_seq ?_
      refine W_region ?_
      refine o_mvt rfl ?_
      refine op_run (r_len rfl rfl rfl) rfl ?_
      refine op_run (r_gtr rfl rfl) rfl ?_
      refine ops_nil ?_
      refine W_cond_p rfl (fun h11 => ?_) (fun h11 => ?_)
      · refine W_seq ?_
        refine W_region ?_
        refine o_asc rfl ?_
        refine ops_nil ?_
        refine W_ret ?_
        refine ret1 (.bool true) rfl ?_ ?_; rfl
        exact ⟨rfl, hkw⟩
      · refine W_skip ?_
        refine W_region ?_
        refine o_mvt rfl ?_
        refine o_mvt rfl ?_
        refine o_appS (v := .slice af (pss.take k).flatten.length cf) rfl rfl (hby.keep hkw (fun _ _ => trivial)) rfl ti_u8 rfl rfl hown (all_c8 _) (by unfold maxLen; omega) (by omega) rfl ?_; intro v13 w13 hown13 hk13 hb13
        refine o_ast rfl ?_
        refine ops_nil ?_
        refine W_region ?_
        refine op_run (r_add rfl rfl) rfl ?_
        refine o_mvt rfl ?_
        refine ops_nil ?_
        have hown13 : OwnB w13 5 v13 (pss.take (k + 1)).flatten := by rw [take_s hpk, List.flatten_append, List.flatten_singleton]; exact OwnB.app hown13
        have h17 := hkw.size
        refine ⟨by (repeat (first | with_reducible exact offM_refl _ _ | refine offM_updc rfl ?_ | refine offM_upd rfl ?_ | refine offM_updo rfl ?_ | refine offM_updo_none ?_ | refine offM_head rfl rfl ?_)), ⟨v13, k + 1, ?_, by omega, hown13, fun b hb => ?_, ?_, hk1w.outA (B := fun k => w1.heap.size ≤ k) (hk13.mono fun b _ h e => h (hin b e.symm)) (fun b hb => hb)⟩, ?_⟩
        · rw [← hinck]; rfl
        · rcases hb13 b hb with h | h
          · exact hin b h
          · have := hk1w.size; omega
        · rw [take_s hpk]
          intro p hp
          rcases List.mem_append.1 hp with h | h
          · exact hle p h
          · obtain rfl := List.mem_singleton.1 h
            omega
        · show pss.length - (IntKind.i64.wrap ((k : Int) + 1)).toNat < pss.length - (k : Int).toNat
          rw [hinck]; omega
    · refine W_exit ?_
      refine W_seq ?_
      refine W_region ?_
      refine o_mvt rfl ?_
      refine op_run (r_len rfl rfl rfl) rfl ?_
      refine o_mvt rfl ?_
      refine op_run (r_len rfl rfl rfl) rfl ?_
      refine op_run ((r_mul rfl rfl).val (congrArg (Value.int .i64) (show IntKind.i64.wrap (2 * ((pss.take k).flatten.length : Int)) = ((2 * (pss.take k).flatten.length : Nat) : Int) from (wrap_i64 (by omega) (by omega)).trans (by omega)))) rfl ?_
      refine op_run ((r_add rfl rfl).val (congrArg (Value.int .i64) (show IntKind.i64.wrap (((2 * (pss.take k).flatten.length : Nat) : Int) + 64) = ((2 * (pss.take k).flatten.length + 64 : Nat) : Int) from (wrap_i64 (by omega) (by omega)).trans (by omega)))) rfl ?_
      refine o_make1 (l := ((pss.take k).flatten.length)) (c := (2 * (pss.take k).flatten.length + 64)) rfl rfl rfl rfl rfl (by omega) (by show 1 * (2 * (pss.take k).flatten.length + 64) ≤ 281474976710656; omega) (by omega) rfl ?_; intro w15 b15 e15 hB15 hk15 hs15
      have hkp : k = pss.length := by omega
      subst hkp
      rw [List.take_length] at hown hin hle hfl hB15 ⊢
      generalize pss.flatten = all at hown hin hfl hB15 ⊢
      have hall := hown.keep hk15 (fun _ _ => trivial)
      have hin15 := hin
      refine o_ast rfl ?_
      refine ops_nil ?_
      refine W_seq ?_
      refine W_region ?_
      refine o_mvt rfl ?_
      refine o_mvt rfl ?_
      refine o_copy (cs := (all.map c8)) rfl rfl (hall.sl) rfl rfl (hB15) (by rw [List.length_replicate]; omega) (all_c8 all) rfl ?_; intro w16 hB16 hk16 hs16
      rw [Nat.min_self, List.take_of_length_le (by rw [List.length_map]; exact Nat.le_refl _), splice_copy _ _ _ (by rw [List.length_map]; omega), List.length_map, show 2 * all.length + 64 - all.length = all.length + 64 by omega] at hB16
      have hall16 := hall.keep hk16 (fun b hb e => by have hb' := hown.lt b hb; omega)
      have hby16 : By w16 (.slice (some ⟨b15, 0, none⟩) all.length (2 * all.length + 64)) all := By.of_cells (fun j v hj => hB16.cell (by rw [List.getElem?_append_left (List.getElem?_eq_some_iff.1 hj).1]; exact hj)) (by omega) (by unfold maxLen; omega)
      refine ops_nil ?_
      refine W_seq ?_
      refine W_region ?_
      refine o_mvt rfl ?_
      refine op_call rfl rfl rfl (sh_Sum w16 _ all hby16 (by omega)) ?_; rintro v17 w17 ⟨rfl, hk17⟩
      have hl := sumF_len all
      have hall17 := hall16.keep hk17 (fun _ _ => trivial)
      have hby17 := hby16.keep hk17 (fun _ _ => trivial)
      have hB17 := hk17.blk' hB16 trivial
      refine o_alloc rfl rfl rfl ?_; intro w18 b18 e18 hB18 hk18 hs18
      have hall18 := hall17.keep hk18 (fun _ _ => trivial)
      have hlt15 := hB17.lt
      have hlt := fun b hb => (hall17.lt b hb)
      refine o_storeA (cs := (sumF all).map c8) rfl rfl (all_c8 _) (by rw [List.length_map, hl]; rfl) hB18 (by rw [List.length_map, hl]; exact Nat.le_refl _) rfl ?_; intro w19 hB19 hk19 hs19
      rw [splice_all (by rw [List.length_map, hl]; rfl)] at hB19
      have hall19 := hall18.keep hk19 (fun b hb e => by have := hlt b hb; omega)
      have hB19' := hk19.blk' (hk18.blk' hB17 trivial) (show b15 ≠ b18 by omega)
      have hby19 := (hby17.keep hk18 (fun _ _ => trivial)).keep hk19 (fun b hb e => by injection hb with hb; subst hb; exact absurd e (show b15 ≠ b18 by omega))
      have h1s := hk1w.size
      have hkw19 : Keep All w w19 := (((((hkw.trans hk15).new hk16 (by have := hkw.size; omega)).trans hk17).trans hk18).new hk19 (by have := hkw.size; have := hk17.size; omega))
      refine ops_nil ?_
      refine W_seq ?_
      refine W_region ?_
      refine o_mvt rfl ?_
      refine o_mvt rfl ?_
      refine op_run (r_cap rfl rfl rfl) rfl ?_
      refine op_run ((r_sliceS_hi rfl rfl rfl rfl (by omega) (by omega)).val ((show subSl (some ⟨b15, 0, none⟩) _ 0 (Int.toNat ((2 * all.length + 64 : Nat) : Int)) _ = .slice (some ⟨b15, 0, none⟩) (2 * all.length + 64) (2 * all.length + 64) from subSl_0 _ _ _ _ _))) rfl ?_
      refine o_ast rfl ?_
      refine ops_nil ?_
      refine W_seq ?_
      refine W_seq ?_
      refine W_region ?_
      refine o_mvt rfl ?_
      refine o_mvt rfl ?_
      refine op_run (r_len rfl rfl rfl) rfl ?_
      refine op_run ((r_sliceS_lo rfl rfl rfl rfl (by omega) (by omega)).val ((show subSl (some ⟨b15, 0, none⟩) 1 (Int.toNat (all.length : Int)) (2 * all.length + 64) (2 * all.length + 64) = .slice (some ⟨b15, all.length, none⟩) (all.length + 64) (all.length + 64) from (subSl_tail (by omega)).trans (congr (congrArg _ (by omega)) (by omega))))) rfl ?_
      refine op_run (r_len rfl rfl rfl) rfl ?_
      refine o_mvc rfl ?_
      refine ops_nil ?_
      refine W_block ?_
      refine W_loop [51] [2, 10, 51, 52, 53, 54, 55, 56, 57] (fun vs w' => ∃ k : Nat, vs = [.int .i64 k] ∧ k ≤ all.length + 64 ∧ w' = w19) (fun vs _ => match vs with | [.int _ k] => all.length + 64 - k.toNat | _ => 0) ⟨0, rfl, by omega, rfl⟩ ?_
      rintro J22 vs w22 ⟨k, rfl, hk, rfl⟩ -
      refine W_seq ?_
      refine W_region ?_
      refine op_run (r_lss rfl rfl) rfl ?_
      refine ops_nil ?_
      refine W_seq ?_
      refine W_cond_p rfl (fun h23 => ?_) (fun h23 => ?_)
      · refine W_skip ?_
        refine W_seq ?_
        refine W_block ?_
        refine W_seq ?_
        refine W_region ?_
        have hinck := inc64' k (by omega)
        refine op_run (r_idxS1 rfl rfl rfl rfl (by omega) (by omega)) rfl ?_
        refine op_run (r_load rfl rfl rfl (hB19'.cell (v := c8 0) (by rw [Int.toNat_natCast, List.getElem?_append_right (by rw [List.length_map]; omega), List.length_map, List.getElem?_replicate, if_pos (by omega)]; rfl))) rfl ?_
        refine o_ast rfl ?_
        refine ops_nil ?_
        refine W_seq ?_
        refine W_region ?_
        refine o_mvt rfl ?_
        refine op_run (r_neq rfl rfl) rfl ?_
        refine ops_nil ?_
        refine W_no rfl (rfl) ?_
        refine W_skip ?_
        refine W_region ?_
        refine op_run (r_add rfl rfl) rfl ?_
        refine o_mvt rfl ?_
        refine ops_nil ?_
        refine ⟨by (repeat (first | with_reducible exact offM_refl _ _ | refine offM_updc rfl ?_ | refine offM_upd rfl ?_ | refine offM_updo rfl ?_ | refine offM_updo_none ?_ | refine offM_head rfl rfl ?_)), ⟨k + 1, ?_, by omega, rfl⟩, ?_⟩
        · rw [← hinck]; rfl
        · show all.length + 64 - (IntKind.i64.wrap ((k : Int) + 1)).toNat < all.length + 64 - (k : Int).toNat
          rw [hinck]; omega
      · refine W_exit ?_
        refine W_seq ?_
        refine W_quiet (Keep All w22) (by kernel_rfl) (by kernel_rfl) (Keep.drawn _) ?_
        refine q_run (fun _ hk => r_loadA (((sumF all).map c8)) rfl rfl rfl rfl ((hk.blk' hB19 trivial).all)) rfl ?_
        refine q_mvt rfl ?_
        refine q_call rfl rfl rfl (fun _ hk => (sh_Sum _ _ all ((Own.sl hall19).keep hk (fun _ _ => trivial)) (by omega)).mono fun e w' ⟨u, he, hu, hk'⟩ => ⟨u, he, hu, hk.trans hk'⟩) ?_
        refine q_run (fun _ _ => (r_eqlC (p := True) rfl rfl rfl rfl rfl (okC_dig _ hl) (okC_dig _ hl) rfl (by simp))) rfl ?_
        refine q_mvt rfl ?_
        refine q_split rfl rfl rfl (fun g33 => ?_) (fun g33 => ?_)
        · refine q_mvt (g_yes rfl rfl rfl g33) ?_
          refine q_run (fun _ hk => (r_bytesStr rfl (hby19.keep hk (fun _ _ => trivial)) rfl rfl rfl)) (g_yes rfl rfl rfl g33) ?_
          refine q_mvt (g_yes rfl rfl rfl g33) ?_
          refine q_run (fun _ hk => (r_bytesStr rfl ((Own.sl hall19).keep hk (fun _ _ => trivial)) rfl rfl rfl)) (g_yes rfl rfl rfl g33) ?_
          refine q_run (fun _ _ => (r_eqlStr rfl rfl)) (g_yes rfl rfl rfl g33) ?_
          refine q_pkTt rfl g33 rfl ?_
          refine q_ast rfl ?_
          refine q_nil ?_; intro w36 hk36
          refine W_ret ?_
          refine ret1 (.bool (decide (all = all))) rfl ?_ ?_; rfl
          exact ⟨congrArg Value.bool (decide_eq_true rfl), hkw19.trans hk36⟩
        · refine q_skip (g_no rfl rfl rfl g33) ?_
          refine q_skip (g_no rfl rfl rfl g33) ?_
          refine q_skip (g_no rfl rfl rfl g33) ?_
          refine q_skip (g_no rfl rfl rfl g33) ?_
          refine q_skip (g_no rfl rfl rfl g33) ?_
          refine q_pkFc rfl g33 rfl ?_
          refine q_ast rfl ?_
          refine q_nil ?_; intro w38 hk38
          refine W_ret ?_
          exact absurd g33 (by simp)
end Go.Proofs.Ytkjphbnmofhogaa.B
