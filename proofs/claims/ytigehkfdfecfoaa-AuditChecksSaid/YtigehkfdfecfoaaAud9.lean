/-
  The law's rows: speaks, great; AuditFork: the walk.
-/
import Derived.Test.YtigehkfdfecfoaaAud8
import Derived.Test.YtigehkfdfecfoaaBlobO
namespace Go.Proofs.Ytigehkfdfecfoaa.B
open Go
set_option linter.unusedVariables false
set_option maxHeartbeats 2000000
set_option maxRecDepth 100000
attribute [local irreducible] W OpsW OpsQ retP
attribute [local irreducible] numR cOf
def greatA (xs : List (List UInt8)) : Prop := 40 < xs.length ∨ ∃ x ∈ xs, 3000 < x.length
instance (xs : List (List UInt8)) : Decidable (greatA xs) := inferInstanceAs (Decidable (_ ∨ _))
theorem greatA_not {xs : List (List UInt8)} (h : ¬ greatA xs) : xs.length ≤ 40 ∧ ∀ x ∈ xs, x.length ≤ 3000 := by
  refine ⟨?_, fun x hx => ?_⟩
  · have : ¬ 40 < xs.length := fun g => h (.inl g)
    omega
  · have : ¬ 3000 < x.length := fun g => h (.inr ⟨x, hx, g⟩)
    omega
theorem rowsV_nil (w : World) : RowsV w (.slice none 0 0) [] [] := ⟨rfl, Sl.nil _ _, fun i u x h => by cases h⟩
theorem great17 (w : World) (v : Value) (vks : List Value) (xs : List (List UInt8)) (hv : RowsV w v vks xs) : Ret Try.prog 30 [v].toArray w fun r w' => r = .bool (decide (greatA xs)) ∧ Keep All w w' := by
  obtain ⟨a0, c0, rfl, hc0, hcm0⟩ := hv.2.1.form
  have hvl := hv.1
  refine enter (fn := Try.f30) (n := 18) Try.func30 rfl rfl (by simp) ?_
  refine W_seq ?_
  refine W_region ?_
  refine o_asc rfl ?_
  refine ops_nil ?_
  refine W_seq ?_
  refine W_seq ?_
  refine W_region ?_
  refine o_mvt rfl ?_
  refine op_run (r_len rfl rfl rfl) rfl ?_
  refine op_run (r_gtr rfl rfl) rfl ?_
  refine ops_nil ?_
  refine W_cond_p rfl (fun h1 => ?_) (fun h1 => ?_)
  · refine W_seq ?_
    refine W_region ?_
    refine o_asc rfl ?_
    refine ops_nil ?_
    refine W_ret ?_
    refine ret1 (.bool true) rfl ?_ ?_; rfl
    exact ⟨congrArg Value.bool (decide_eq_true (.inl (by omega))).symm, Keep.refl _⟩
  · refine W_skip ?_
    refine W_seq ?_
    refine W_seq ?_
    refine W_region ?_
    refine o_mvt rfl ?_
    refine op_run (r_len rfl rfl rfl) rfl ?_
    refine o_mvc rfl ?_
    refine ops_nil ?_
    refine W_block ?_
    refine W_loop [10] [2, 4, 10, 11, 12, 13, 14, 15, 16, 17] (fun vs w' => ∃ k : Nat, vs = [.int .i64 k] ∧ k ≤ xs.length ∧ (∀ x ∈ xs.take k, ¬ 3000 < x.length) ∧ w' = w) (fun vs _ => match vs with | [.int _ y] => xs.length - y.toNat | _ => 0) ⟨0, rfl, Nat.zero_le _, fun x hx => by simp at hx, rfl⟩ ?_
    rintro J3 vs w3 ⟨k, rfl, hk, hle, rfl⟩ -
    refine W_seq ?_
    refine W_region ?_
    refine op_run (r_lss rfl rfl) rfl ?_
    refine ops_nil ?_
    refine W_seq ?_
    refine W_cond_p rfl (fun h4 => ?_) (fun h4 => ?_)
    · refine W_skip ?_
      refine W_seq ?_
      refine W_block ?_
      refine W_seq ?_
      refine W_region ?_
      have hkl : k < xs.length := by omega
      obtain ⟨vk, hvk⟩ : ∃ vk, vks[k]? = some vk := ⟨_, List.getElem?_eq_getElem (by omega)⟩
      obtain ⟨bp, op, cp, ep, hcell⟩ := hv.at hvk
      cases ep
      obtain ⟨x, hx⟩ : ∃ x, xs[k]? = some x := ⟨_, List.getElem?_eq_getElem hkl⟩
      have hbx := hv.2.2 k vk x hvk hx
      obtain ⟨ax, cx, rfl, _, _⟩ := hbx.form
      refine op_run (r_idxS1 rfl rfl rfl rfl (by omega) (by omega)) rfl ?_
      refine op_run (r_load rfl rfl rfl (by rw [Int.toNat_natCast]; exact hcell)) rfl ?_
      refine o_ast rfl ?_
      refine ops_nil ?_
      refine W_seq ?_
      refine W_region ?_
      refine o_mvt rfl ?_
      refine op_run (r_len rfl rfl rfl) rfl ?_
      refine op_run (r_gtr rfl rfl) rfl ?_
      refine ops_nil ?_
      refine W_cond_p rfl (fun h7 => ?_) (fun h7 => ?_)
      · refine W_seq ?_
        refine W_region ?_
        refine o_asc rfl ?_
        refine ops_nil ?_
        refine W_ret ?_
        refine ret1 (.bool true) rfl ?_ ?_; rfl
        exact ⟨congrArg Value.bool (decide_eq_true (.inr ⟨x, List.mem_of_getElem? hx, by omega⟩)).symm, Keep.refl _⟩
      · refine W_skip ?_
        refine W_region ?_
        refine op_run (r_add rfl rfl) rfl ?_
        refine o_mvt rfl ?_
        refine ops_nil ?_
        have hinc := inc64' k (by unfold maxLen at hcm0; omega)
        refine ⟨by (repeat (first | with_reducible exact offM_refl _ _ | refine offM_updc rfl ?_ | refine offM_upd rfl ?_ | refine offM_updo rfl ?_ | refine offM_updo_none ?_ | refine offM_head rfl rfl ?_)), ⟨k + 1, congrArg (fun z : Int => [Value.int .i64 z]) hinc, by omega, fun y hy => ?_, rfl⟩, ?_⟩
        · rw [List.take_succ_eq_append_getElem hkl] at hy
          rcases List.mem_append.1 hy with hy | hy
          · exact hle y hy
          · obtain rfl := List.mem_singleton.1 hy
            rw [List.getElem?_eq_getElem hkl] at hx
            injection hx with hx
            rw [hx]; omega
        · show xs.length - (IntKind.i64.wrap ((k : Int) + 1)).toNat < xs.length - (k : Int).toNat
          rw [hinc]; omega
    · refine W_exit ?_
      refine W_seq ?_
      refine W_region ?_
      refine o_asc rfl ?_
      refine ops_nil ?_
      refine W_ret ?_
      refine ret1 (.bool false) rfl ?_ ?_; rfl
      have hke : k = xs.length := by omega
      subst hke
      rw [List.take_length] at hle
      refine ⟨congrArg Value.bool (decide_eq_false ?_).symm, Keep.refl _⟩
      rintro (h | ⟨x, hx, h⟩)
      · omega
      · exact hle x hx h
theorem stV_one {n : Nat} {u ev : Value} (h1 : one u = true) (h2 : one ev = true) : (stV n u ev).all one = true := by
  unfold stV; simp only [List.all_cons, List.all_nil, h1, h2]; rfl
def digA : Dig := ⟨1 :: List.replicate 31 0, rfl⟩
theorem tells_nil : tellsA 0 Dig.zero [] := ⟨⟨rfl, fun _ => rfl⟩, fun i hi => by omega, rfl⟩
theorem tells_not : ¬ tellsA 0 digA [] := fun h => absurd (h.1.2 rfl) (by decide)
/-- What Check answers, as far as the number goes. -/
theorem au_CheckE (w : World) (n : Nat) (hn : n < 2 ^ 64) (root : Dig) (v : Value) (vks : List Value) (xs : List (List UInt8)) (hv : RowsV w v vks xs) (h40 : xs.length ≤ 40) (hl : ∀ x ∈ xs, x.length ≤ 3000) :
    Ret Try.prog 31 [.int .u64 n, .agg (dgR root).toArray, v].toArray w fun r w' => Keep All w w' ∧ ∃ m u ev E, r = .tuple #[.agg (stV m u ev).toArray, .int .i64 E] ∧ one u = true ∧ one ev = true ∧ (E = 0 → tellsA n root xs) :=
  (au_Check w n hn root v vks xs hv h40 hl).mono fun e w' ⟨r, he, hk, hr⟩ => ⟨r, he, hk, by
    rcases hr with ⟨h1, rfl⟩ | ⟨h1, u, ev, evks, rfl, h2, h3⟩
    · exact ⟨_, _, _, _, rfl, rfl, rfl, fun h => absurd h (by decide)⟩
    · obtain ⟨au, cu, rfl, _, _⟩ := h2.form
      obtain ⟨ae, ce, rfl, _, _⟩ := h3.2.1.form
      exact ⟨_, _, _, _, rfl, rfl, rfl, fun _ => h1⟩⟩
theorem speaks17 (w : World) : Ret Try.prog 29 [].toArray w fun r w' => r = .bool true ∧ Keep All w w' := by
  refine enter (fn := Try.f29) (n := 32) Try.func29 rfl rfl (by simp) ?_
  refine W_seq ?_
  refine W_region ?_
  refine o_asc rfl ?_
  refine ops_nil ?_
  refine W_seq ?_
  refine W_region ?_
  refine op_run (r_buildA ((dgR Dig.zero)) (_) ([]) rfl rfl rfl rfl rfl (by rw [dgR_zero]; rfl)) rfl ?_
  refine op_call rfl rfl rfl (au_Check w 0 (by decide) Dig.zero _ [] [] (rowsV_nil w) (by decide) (fun x hx => by cases hx)) ?_; rintro v2 w2 ⟨hk2, hr2⟩
  obtain ⟨u, ev, evks, rfl, hSu, hRe⟩ := (hr2.resolve_left (fun h => h.1 tells_nil)).2
  obtain ⟨au, cu, rfl, _, _⟩ := hSu.form
  obtain ⟨ae, ce, rfl, _, _⟩ := hRe.2.1.form
  refine o_mvt rfl ?_
  refine op_run (r_extract rfl rfl) rfl ?_
  refine op_run (r_extract rfl rfl) rfl ?_
  refine o_alloc rfl rfl rfl ?_; intro w3 b3 e3 hB3 hk3 hs3
  refine o_storeA (cs := stV 0 (.slice au (storyS []).length cu) (.slice ae (storyE []).length ce)) rfl rfl (by first | rfl | exact binV_one _ | exact dgR_one _ | exact refR_one _ | exact secR_one _ | exact all_c8 _ | exact stV_one rfl rfl) (by first | rfl | (rw [binV_len]; rfl) | (rw [dgR_len]; rfl) | (rw [refR_len]; rfl) | (rw [secR_len]; rfl) | (rw [List.length_map, tagF_len]; rfl) | rfl) hB3 (by exact Nat.le_refl _) rfl ?_; intro w4 hB4 hk4 hs4
  have hB4 : Blk w4 b3 (stV 0 (.slice au 0 cu) (.slice ae (storyE []).length ce)) 71 := hB4
  refine o_ast rfl ?_
  refine ops_nil ?_
  refine W_seq ?_
  refine W_region ?_
  refine op_run (r_buildA ((dgR digA)) (_) ([(0, c8 1)]) rfl rfl rfl rfl rfl (rfl)) rfl ?_
  refine op_call rfl rfl rfl (au_Check w4 0 (by decide) digA _ [] [] (rowsV_nil w4) (by decide) (fun x hx => by cases hx)) ?_; rintro v6 w6 ⟨hk6, hr6⟩
  obtain rfl := (hr6.resolve_right (fun h => tells_not h.1)).2
  refine o_mvt rfl ?_
  refine op_run (r_extract rfl rfl) rfl ?_
  refine op_run (r_extract rfl rfl) rfl ?_
  refine o_alloc rfl rfl rfl ?_; intro w7 b7 e7 hB7 hk7 hs7
  refine o_storeA (cs := stV 0 nilV nilV) rfl rfl (by first | rfl | exact binV_one _ | exact dgR_one _ | exact refR_one _ | exact secR_one _ | exact all_c8 _ | exact stV_one rfl rfl) (by first | rfl | (rw [binV_len]; rfl) | (rw [dgR_len]; rfl) | (rw [refR_len]; rfl) | (rw [secR_len]; rfl) | (rw [List.length_map, tagF_len]; rfl) | rfl) hB7 (by exact Nat.le_refl _) rfl ?_; intro w8 hB8 hk8 hs8
  have hz2 := hk2.size
  have hz3 := hk3.size
  have hB8 : Blk w8 b3 (stV 0 (.slice au 0 cu) (.slice ae (storyE []).length ce)) 71 := hk8.blk' (hk7.blk' (hk6.blk' hB4 trivial) trivial) (by have := hB4.lt; have := hk6.size; omega)
  refine o_ast rfl ?_
  refine ops_nil ?_
  refine W_seq ?_
  refine W_region ?_
  refine o_mvt rfl ?_
  refine op_run (r_eql rfl rfl) rfl ?_
  refine o_mvt rfl ?_
  refine g_split rfl rfl rfl (fun g9 => ?_) (fun g => absurd g (by simp))
  refine o_mvt (g_yes rfl rfl rfl g9) ?_
  refine op_run (r_eql rfl rfl) (g_yes rfl rfl rfl g9) ?_
  refine o_pkTt rfl g9 rfl ?_
  refine o_mvt rfl ?_
  refine g_split rfl rfl rfl (fun g10 => ?_) (fun g => absurd g (by simp))
  refine op_run (r_fieldAddr rfl rfl rfl rfl rfl) (g_yes rfl rfl rfl g10) ?_
  refine op_run (r_load rfl rfl rfl (hB8.cell rfl)) (g_yes rfl rfl rfl g10) ?_
  refine op_run (r_eql rfl rfl) (g_yes rfl rfl rfl g10) ?_
  refine o_pkTt rfl g10 rfl ?_
  refine o_mvt rfl ?_
  refine g_split rfl rfl rfl (fun g12 => ?_) (fun g => absurd g (by simp))
  refine op_run (r_fieldAddr rfl rfl rfl rfl rfl) (g_yes rfl rfl rfl g12) ?_
  refine op_run (r_load rfl rfl rfl (hB8.cell rfl)) (g_yes rfl rfl rfl g12) ?_
  refine op_run (r_len rfl rfl rfl) (g_yes rfl rfl rfl g12) ?_
  refine op_run (r_eql rfl rfl) (g_yes rfl rfl rfl g12) ?_
  refine o_pkTt rfl g12 rfl ?_
  refine o_ast rfl ?_
  refine ops_nil ?_
  refine W_ret ?_
  refine ret1 (.bool true) rfl ?_ ?_; rfl
  exact ⟨rfl, (((hk2.trans hk3).new hk4 (by omega)).trans (hk6.trans hk7)).new hk8 (by have := hk4.size; have := hk6.size; omega)⟩
/-- Where two rows of commits part, the digests are one. -/
theorem fork_dig {n : Nat} {root : Dig} {xs ys : List (List UInt8)} (hx : tellsA n root xs) (hy : tellsA n root ys) {i : Nat} {x y : List UInt8} (h1 : xs[i]? = some x) (h2 : ys[i]? = some y) (hp : ∀ j, j < i → xs[j]? = ys[j]?) : digB x = digB y := by
  have hi : i < n := by have := (List.getElem?_eq_some_iff.1 h1).1; have := hx.1.1; omega
  have e : wantA root xs i = wantA root ys i := by
    cases i with
    | zero => rfl
    | succ k =>
      show (match xs[k]? with | some x => (cOf x).prev.dig | none => Dig.zero) = (match ys[k]? with | some x => (cOf x).prev.dig | none => Dig.zero)
      rw [hp k (by omega)]
  exact (hx.2.1 i hi x h1).2.1.trans (e.trans (hy.2.1 i hi y h2).2.1.symm)
theorem walk_AuditFork (w : World) (n : Nat) (hn : n < 2 ^ 64) (root : Dig) (va vb : Value) (vxs vys : List Value) (xs ys : List (List UInt8)) (hx : RowsV w va vxs xs) (hy : RowsV w vb vys ys) :
    Ret Try.prog 7 [.int .u64 n, .agg (dgR root).toArray, va, vb].toArray w fun r w' => r = .bool true ∧ Keep All w w' := by
  obtain ⟨a0, c0, rfl, hc0, hcm0⟩ := hx.2.1.form
  obtain ⟨a1, c1, rfl, hc1, hcm1⟩ := hy.2.1.form
  have hxl := hx.1
  have hyl := hy.1
  refine enter (fn := Try.f7) (n := 76) Try.func7 rfl rfl (by simp) ?_
  refine W_seq ?_
  refine W_region ?_
  refine o_box rfl rfl rfl ?_; intro w1 b1 e1 hB1 hk1 hs1
  have hB1 : Blk w1 b1 (dgR root) 29 := hB1
  refine o_asc rfl ?_
  refine ops_nil ?_
  refine W_seq ?_
  refine W_seq ?_
  refine W_region ?_
  refine op_call rfl rfl rfl (speaks17 w1) ?_; rintro v2 w2 ⟨rfl, hk2⟩
  have hk02 := hk1.trans hk2
  refine op_run (r_not rfl) rfl ?_
  refine ops_nil ?_
  refine W_no rfl (rfl) ?_
  refine W_skip ?_
  refine W_seq ?_
  refine W_cut [21] [16, 17, 18, 19, 20, 21] (fun vs w5 => vs = [.bool (decide (greatA xs ∨ greatA ys))] ∧ Keep All w2 w5) ?_ ?_
  · refine W_region ?_
    refine o_mvt rfl ?_
    refine op_call rfl rfl rfl (great17 w2 _ _ xs (hx.k hk02)) ?_; rintro v6 w6 ⟨rfl, hk6⟩
    refine o_mvt rfl ?_
    refine g_split rfl rfl rfl (fun g7 => ?_) (fun g7 => ?_)
    · refine o_mvt (g_yes rfl rfl rfl g7) ?_
      refine op_call rfl rfl (g_yes rfl rfl rfl g7) (great17 w6 _ _ ys (hy.k (hk02.trans hk6))) ?_; rintro v8 w8 ⟨rfl, hk8⟩
      refine o_pkFt rfl g7 rfl ?_
      refine ops_nil ?_
      exact ⟨by (repeat (first | with_reducible exact offM_refl _ _ | refine offM_updc rfl ?_ | refine offM_upd rfl ?_ | refine offM_updo rfl ?_ | refine offM_updo_none ?_ | refine offM_head rfl rfl ?_)), congrArg (fun b => [Value.bool b]) (by
        have g := of_decide_eq_false g7; rw [decide_eq_decide]
        constructor
        · intro h; exact .inr h
        · rintro (h | h)
          · exact absurd h g
          · exact h), hk6.trans hk8⟩
    · refine op_skip (g_no rfl rfl rfl g7) ?_
      refine op_skip (g_no rfl rfl rfl g7) ?_
      refine o_pkTc rfl g7 rfl ?_
      refine ops_nil ?_
      exact ⟨by (repeat (first | with_reducible exact offM_refl _ _ | refine offM_updc rfl ?_ | refine offM_upd rfl ?_ | refine offM_updo rfl ?_ | refine offM_updo_none ?_ | refine offM_head rfl rfl ?_)), congrArg (fun b => [Value.bool b]) (by have g := of_decide_eq_true g7; symm; exact decide_eq_true (.inl g)), hk6⟩
  · rintro J11 vs w11 ⟨rfl, hk11⟩ -
    refine W_cond_p rfl (fun h12 => ?_) (fun h12 => ?_)
    · refine W_seq ?_
      refine W_region ?_
      refine o_asc rfl ?_
      refine ops_nil ?_
      refine W_ret ?_
      refine ret1 (.bool true) rfl ?_ ?_; rfl
      exact ⟨rfl, hk02.trans hk11⟩
    · refine W_skip ?_
      refine W_seq ?_
      refine W_region ?_
      refine o_mvt rfl ?_
      obtain ⟨hx40, hxl3⟩ := greatA_not (fun h => h12 (.inl h))
      obtain ⟨hy40, hyl3⟩ := greatA_not (fun h => h12 (.inr h))
      have hk011 := hk02.trans hk11
      refine op_run (r_loadA (dgR root) rfl rfl rfl (by first | rfl | (rw [binV_len]; rfl) | (rw [dgR_len]; rfl) | (rw [refR_len]; rfl) | (rw [secR_len]; rfl) | (rw [List.length_map, tagF_len]; rfl) | rfl) (((hk2.trans hk11).blk' hB1 trivial).all)) rfl ?_
      refine o_mvt rfl ?_
      refine op_call rfl rfl rfl (au_CheckE w11 n hn root _ vxs xs (hx.k hk011) hx40 hxl3) ?_; rintro v15 w15 ⟨hk15, m15, u15, ev15, E15, rfl, hu15, hv15, ht15⟩
      refine o_mvt rfl ?_
      refine op_run (r_extract rfl rfl) rfl ?_
      refine op_run (r_extract rfl rfl) rfl ?_
      refine o_alloc rfl rfl rfl ?_; intro w16 b16 e16 hB16 hk16 hs16
      refine o_storeA (cs := stV m15 u15 ev15) rfl rfl (by first | rfl | exact binV_one _ | exact dgR_one _ | exact refR_one _ | exact secR_one _ | exact all_c8 _ | exact stV_one (by assumption) (by assumption)) (by first | rfl | (rw [binV_len]; rfl) | (rw [dgR_len]; rfl) | (rw [refR_len]; rfl) | (rw [secR_len]; rfl) | (rw [List.length_map, tagF_len]; rfl) | rfl) hB16 (by exact Nat.le_refl _) rfl ?_; intro w17 hB17 hk17 hs17
      have hk1117 : Keep All w11 w17 := hk15.trans (hk16.new hk17 (by omega))
      have hk017 := hk011.trans hk1117
      refine o_ast rfl ?_
      refine ops_nil ?_
      refine W_seq ?_
      refine W_region ?_
      refine o_mvt rfl ?_
      refine op_run (r_loadA (dgR root) rfl rfl rfl (by first | rfl | (rw [binV_len]; rfl) | (rw [dgR_len]; rfl) | (rw [refR_len]; rfl) | (rw [secR_len]; rfl) | (rw [List.length_map, tagF_len]; rfl) | rfl) ((((hk2.trans hk11).trans hk1117).blk' hB1 trivial).all)) rfl ?_
      refine o_mvt rfl ?_
      refine op_call rfl rfl rfl (au_CheckE w17 n hn root _ vys ys (hy.k hk017) hy40 hyl3) ?_; rintro v19 w19 ⟨hk19, m19, u19, ev19, E19, rfl, hu19, hv19, ht19⟩
      refine o_mvt rfl ?_
      refine op_run (r_extract rfl rfl) rfl ?_
      refine op_run (r_extract rfl rfl) rfl ?_
      refine o_alloc rfl rfl rfl ?_; intro w20 b20 e20 hB20 hk20 hs20
      refine o_storeA (cs := stV m19 u19 ev19) rfl rfl (by first | rfl | exact binV_one _ | exact dgR_one _ | exact refR_one _ | exact secR_one _ | exact all_c8 _ | exact stV_one (by assumption) (by assumption)) (by first | rfl | (rw [binV_len]; rfl) | (rw [dgR_len]; rfl) | (rw [refR_len]; rfl) | (rw [secR_len]; rfl) | (rw [List.length_map, tagF_len]; rfl) | rfl) hB20 (by exact Nat.le_refl _) rfl ?_; intro w21 hB21 hk21 hs21
      have hk021 : Keep All w w21 := hk017.trans (hk19.trans (hk20.new hk21 (by omega)))
      refine o_ast rfl ?_
      refine ops_nil ?_
      refine W_seq ?_
      refine W_cut [41] [36, 37, 38, 39, 40, 41] (fun vs w22 => vs = [.bool (decide (¬ (E15 = 0 ∧ E19 = 0)))] ∧ w22 = w21) ?_ ?_
      · refine W_region ?_
        refine o_mvt rfl ?_
        refine op_run (r_neq rfl rfl) rfl ?_
        refine o_mvt rfl ?_
        refine g_split rfl rfl rfl (fun g23 => ?_) (fun g23 => ?_)
        · refine o_mvt (g_yes rfl rfl rfl g23) ?_
          refine op_run (r_neq rfl rfl) (g_yes rfl rfl rfl g23) ?_
          refine o_pkFt rfl g23 rfl ?_
          refine ops_nil ?_
          exact ⟨by (repeat (first | with_reducible exact offM_refl _ _ | refine offM_updc rfl ?_ | refine offM_upd rfl ?_ | refine offM_updo rfl ?_ | refine offM_updo_none ?_ | refine offM_head rfl rfl ?_)), congrArg (fun b => [Value.bool b]) (by have g := of_decide_eq_false g23; rw [decide_eq_decide]; omega), rfl⟩
        · refine op_skip (g_no rfl rfl rfl g23) ?_
          refine op_skip (g_no rfl rfl rfl g23) ?_
          refine o_pkTc rfl g23 rfl ?_
          refine ops_nil ?_
          exact ⟨by (repeat (first | with_reducible exact offM_refl _ _ | refine offM_updc rfl ?_ | refine offM_upd rfl ?_ | refine offM_updo rfl ?_ | refine offM_updo_none ?_ | refine offM_head rfl rfl ?_)), congrArg (fun b => [Value.bool b]) (by have g := of_decide_eq_true g23; symm; apply decide_eq_true; omega), rfl⟩
      · rintro J26 vs w26 ⟨rfl, rfl⟩ -
        refine W_cond_p rfl (fun h27 => ?_) (fun h27 => ?_)
        · refine W_seq ?_
          refine W_region ?_
          refine o_asc rfl ?_
          refine ops_nil ?_
          refine W_ret ?_
          refine ret1 (.bool true) rfl ?_ ?_; rfl
          exact ⟨rfl, hk021⟩
        · refine W_skip ?_
          refine W_seq ?_
          refine W_seq ?_
          refine W_region ?_
          refine o_mvt rfl ?_
          refine op_run (r_len rfl rfl rfl) rfl ?_
          refine o_mvt rfl ?_
          refine op_run (r_len rfl rfl rfl) rfl ?_
          refine op_run (r_neq rfl rfl) rfl ?_
          refine ops_nil ?_
          have hE : E15 = 0 ∧ E19 = 0 := Decidable.not_not.1 h27
          have hta := ht15 hE.1
          have htb := ht19 hE.2
          have hlen : xs.length = ys.length := hta.1.1.trans htb.1.1.symm
          refine W_cond_p rfl (fun h29 => ?_) (fun h29 => ?_)
          · refine W_seq ?_
            refine W_region ?_
            refine o_asc rfl ?_
            refine ops_nil ?_
            refine W_ret ?_
            refine ret1 (.bool false) rfl ?_ ?_; rfl
            exact absurd (by omega) h29
          · refine W_skip ?_
            refine W_seq ?_
            refine W_seq ?_
            refine W_region ?_
            refine o_mvt rfl ?_
            refine op_run (r_len rfl rfl rfl) rfl ?_
            refine o_mvc rfl ?_
            refine ops_nil ?_
            refine W_block ?_
            refine W_loop [49] [8, 13, 49, 50, 51, 52, 53, 54, 55, 56, 57, 58, 59, 60, 61, 62, 63, 64, 65, 66, 67, 68, 69, 70, 71, 72, 73, 74, 75] (fun vs w' => ∃ k : Nat, vs = [.int .i64 k] ∧ k ≤ xs.length ∧ (∀ j, j < k → xs[j]? = ys[j]?) ∧ Keep All w w') (fun vs _ => match vs with | [.int _ y] => xs.length - y.toNat | _ => 0) ⟨0, rfl, Nat.zero_le _, fun j hj => by omega, hk021⟩ ?_
            rintro J31 vs w31 ⟨k, rfl, hk, hle, hk31⟩ -
            refine W_seq ?_
            refine W_region ?_
            refine op_run (r_lss rfl rfl) rfl ?_
            refine ops_nil ?_
            refine W_seq ?_
            refine W_cond_p rfl (fun h32 => ?_) (fun h32 => ?_)
            · refine W_skip ?_
              refine W_seq ?_
              refine W_block ?_
              refine W_seq ?_
              refine W_region ?_
              refine o_mvt rfl ?_
              refine o_ast rfl ?_
              refine ops_nil ?_
              refine W_seq ?_
              have hkl : k < xs.length := by omega
              obtain ⟨x, hxk⟩ : ∃ x, xs[k]? = some x := ⟨_, List.getElem?_eq_getElem hkl⟩
              obtain ⟨y, hyk⟩ : ∃ y, ys[k]? = some y := ⟨_, List.getElem?_eq_getElem (by omega)⟩
              obtain ⟨vx, hvx⟩ : ∃ v, vxs[k]? = some v := ⟨_, List.getElem?_eq_getElem (by omega)⟩
              obtain ⟨vy, hvy⟩ : ∃ v, vys[k]? = some v := ⟨_, List.getElem?_eq_getElem (by omega)⟩
              obtain ⟨bp, op, cp, ep, hcx⟩ := (hx.k hk31).at hvx
              cases ep
              obtain ⟨bq, oq, cq, eq_, hcy⟩ := (hy.k hk31).at hvy
              cases eq_
              have hbx := (hx.k hk31).2.2 k vx x hvx hxk
              have hby := (hy.k hk31).2.2 k vy y hvy hyk
              have hx3 := hxl3 x (List.mem_of_getElem? hxk)
              have hy3 := hyl3 y (List.mem_of_getElem? hyk)
              refine W_quiet (Keep All w31) (by kernel_rfl) (by kernel_rfl) (Keep.drawn _) ?_
              refine q_mvt rfl ?_
              refine q_mvt rfl ?_
              refine q_run (fun _ _ => r_idxS1 rfl rfl rfl rfl (by omega) (by omega)) rfl ?_
              refine q_run (fun _ hk => r_load rfl rfl rfl (hk.cell (by rw [Int.toNat_natCast]; exact hcx) trivial)) rfl ?_
              refine q_mvt rfl ?_
              refine q_mvt rfl ?_
              refine q_run (fun _ _ => r_idxS1 rfl rfl rfl rfl (by omega) (by omega)) rfl ?_
              refine q_run (fun _ hk => r_load rfl rfl rfl (hk.cell (by rw [Int.toNat_natCast]; exact hcy) trivial)) rfl ?_
              refine q_call rfl rfl rfl (fun _ hk => (ref01_Same _ _ _ x y (hbx.k hk) (hby.k hk)).mono fun e w'' ⟨u, he, h1, h2⟩ => ⟨u, he, h1, hk.trans h2⟩) ?_
              refine q_run (fun _ _ => (r_not rfl)) rfl ?_
              refine q_nil ?_; intro w39 hk39
              refine W_cond rfl (fun h40 => ?_) (fun h40 => ?_)
              · refine W_seq ?_
                refine W_quiet (Keep All w39) (by kernel_rfl) (by kernel_rfl) (Keep.drawn _) ?_
                refine q_mvt rfl ?_
                refine q_mvt rfl ?_
                refine q_run (fun _ _ => r_idxS1 rfl rfl rfl rfl (by omega) (by omega)) rfl ?_
                refine q_run (fun _ hk => r_load rfl rfl rfl (hk.cell (by rw [Int.toNat_natCast]; exact hk39.cell hcx trivial) trivial)) rfl ?_
                refine q_call rfl rfl rfl (fun _ hk => (rf07_Of _ 0 _ x ((hbx.k hk39).k hk) (by omega)).mono fun e w'' ⟨u, he, h1, h2⟩ => ⟨u, he, h1, hk.trans h2⟩) ?_
                refine q_run (fun _ _ => (r_fieldA (dgR (digB x)) rfl rfl rfl rfl rfl rfl ((by show ((refR (ofR 0 x)).drop 0).take 32 = _; unfold refR ofR; rw [List.drop_zero]; exact List.take_left' (dgR_len _))))) rfl ?_
                refine q_mvt rfl ?_
                refine q_mvt rfl ?_
                refine q_run (fun _ _ => r_idxS1 rfl rfl rfl rfl (by omega) (by omega)) rfl ?_
                refine q_run (fun _ hk => r_load rfl rfl rfl (hk.cell (by rw [Int.toNat_natCast]; exact hk39.cell hcy trivial) trivial)) rfl ?_
                refine q_call rfl rfl rfl (fun _ hk => (rf07_Of _ 0 _ y ((hby.k hk39).k hk) (by omega)).mono fun e w'' ⟨u, he, h1, h2⟩ => ⟨u, he, h1, hk.trans h2⟩) ?_
                refine q_run (fun _ _ => (r_fieldA (dgR (digB y)) rfl rfl rfl rfl rfl rfl ((by show ((refR (ofR 0 y)).drop 0).take 32 = _; unfold refR ofR; rw [List.drop_zero]; exact List.take_left' (dgR_len _))))) rfl ?_
                refine q_run (fun _ _ => (r_eqlC (p := digB x = digB y) rfl rfl rfl rfl (by kernel_rfl) (okC_dgR _) (okC_dgR _) rfl (dgR_inj))) rfl ?_
                refine q_ast rfl ?_
                refine q_nil ?_; intro w51 hk51
                refine W_ret ?_
                refine ret1 (.bool (decide (digB x = digB y))) rfl ?_ ?_; rfl
                exact ⟨congrArg Value.bool (decide_eq_true (fork_dig hta htb hxk hyk hle)), (hk31.trans hk39).trans hk51⟩
              · refine W_skip ?_
                refine W_region ?_
                refine op_run (r_add rfl rfl) rfl ?_
                refine o_mvt rfl ?_
                refine ops_nil ?_
                have hinc := inc64' k (by omega)
                have hxy : x = y := by simpa using h40
                refine ⟨by (repeat (first | with_reducible exact offM_refl _ _ | refine offM_updc rfl ?_ | refine offM_upd rfl ?_ | refine offM_updo rfl ?_ | refine offM_updo_none ?_ | refine offM_head rfl rfl ?_)), ⟨k + 1, congrArg (fun z : Int => [Value.int .i64 z]) hinc, by omega, fun j hj => ?_, hk31.trans hk39⟩, ?_⟩
                · by_cases h : j < k
                  · exact hle j h
                  · obtain rfl : j = k := by omega
                    rw [hxk, hyk, hxy]
                · show xs.length - (IntKind.i64.wrap ((k : Int) + 1)).toNat < xs.length - (k : Int).toNat
                  rw [hinc]; omega
            · refine W_exit ?_
              refine W_seq ?_
              refine W_region ?_
              refine o_asc rfl ?_
              refine ops_nil ?_
              refine W_ret ?_
              refine ret1 (.bool true) rfl ?_ ?_; rfl
              exact ⟨rfl, hk31⟩
end Go.Proofs.Ytigehkfdfecfoaa.B
