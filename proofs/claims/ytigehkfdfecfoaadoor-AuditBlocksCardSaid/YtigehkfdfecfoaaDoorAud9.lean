/-
  The law's rows: speaks, great; AuditFork: the walk.
-/
import Derived.Test.YtigehkfdfecfoaaDoorAud8
import Derived.Test.YtigehkfdfecfoaaDoorBlobO
namespace Go.Proofs.YtigehkfdfecfoaaDoor.B
open Go
set_option linter.unusedVariables false
set_option maxHeartbeats 2000000
set_option maxRecDepth 100000
attribute [local irreducible] W OpsW OpsQ retP
attribute [local irreducible] numR cOf
def greatA (xs : List (List UInt8)) : Prop := 40 < xs.length ∨ ∃ x ∈ xs, 3000 < x.length
instance (xs : List (List UInt8)) : Decidable (greatA xs) := inferInstanceAs (Decidable (_ ∨ _))
theorem greatA_not {xs : List (List UInt8)} (h : ¬ greatA xs) : xs.length ≤ 40 ∧ ∀ x ∈ xs, x.length ≤ 3000 := by
  refine ⟨?_, fun x hx => ?_⟩
  · have : ¬ 40 < xs.length := fun g => h (.inl g)
    omega
  · have : ¬ 3000 < x.length := fun g => h (.inr ⟨x, hx, g⟩)
    omega
theorem rowsV_nil (w : World) : RowsV w (.slice none 0 0) [] [] := ⟨rfl, Sl.nil _ _, fun i u x h => by cases h⟩
theorem great17 (w : World) (v : Value) (vks : List Value) (xs : List (List UInt8)) (hv : RowsV w v vks xs) : Ret Tryd.prog 5 [v].toArray w fun r w' => r = .bool (decide (greatA xs)) ∧ Keep All w w' := by
  obtain ⟨a0, c0, rfl, hc0, hcm0⟩ := hv.2.1.form
  have hvl := hv.1
  refine enter (fn := Tryd.f5) (n := 18) Tryd.func5 rfl rfl (by simp) ?_
  refine W_seq ?_
  refine W_region ?_
  refine o_asc rfl ?_
  refine ops_nil ?_
  refine W_seq ?_
  refine W_seq ?_
  refine W_region ?_
  refine o_mvt rfl ?_
  refine op_run (r_len rfl rfl rfl) rfl ?_
  refine op_run (r_gtr rfl rfl) rfl ?_
  refine ops_nil ?_
  refine W_cond_p rfl (fun h1 => ?_) (fun h1 => ?_)
  · refine W_seq ?_
    refine W_region ?_
    refine o_asc rfl ?_
    refine ops_nil ?_
    refine W_ret ?_
    refine ret1 (.bool true) rfl ?_ ?_; rfl
    exact ⟨congrArg Value.bool (decide_eq_true (.inl (by omega))).symm, Keep.refl _⟩
  · refine W_skip ?_
    refine W_seq ?_
    refine W_seq ?_
    refine W_region ?_
    refine o_mvt rfl ?_
    refine op_run (r_len rfl rfl rfl) rfl ?_
    refine o_mvc rfl ?_
    refine ops_nil ?_
    refine W_block ?_
    refine W_loop [10] [2, 4, 10, 11, 12, 13, 14, 15, 16, 17] (fun vs w' => ∃ k : Nat, vs = [.int .i64 k] ∧ k ≤ xs.length ∧ (∀ x ∈ xs.take k, ¬ 3000 < x.length) ∧ w' = w) (fun vs _ => match vs with | [.int _ y] => xs.length - y.toNat | _ => 0) ⟨0, rfl, Nat.zero_le _, fun x hx => by simp at hx, rfl⟩ ?_
    rintro J3 vs w3 ⟨k, rfl, hk, hle, rfl⟩ -
    refine W_seq ?_
    refine W_region ?_
    refine op_run (r_lss rfl rfl) rfl ?_
    refine ops_nil ?_
    refine W_seq ?_
    refine W_cond_p rfl (fun h4 => ?_) (fun h4 => ?_)
    · refine W_skip ?_
      refine W_seq ?_
      refine W_block ?_
      refine W_seq ?_
      refine W_region ?_
      have hkl : k < xs.length := by omega
      obtain ⟨vk, hvk⟩ : ∃ vk, vks[k]? = some vk := ⟨_, List.getElem?_eq_getElem (by omega)⟩
      obtain ⟨bp, op, cp, ep, hcell⟩ := hv.at hvk
      cases ep
      obtain ⟨x, hx⟩ : ∃ x, xs[k]? = some x := ⟨_, List.getElem?_eq_getElem hkl⟩
      have hbx := hv.2.2 k vk x hvk hx
      obtain ⟨ax, cx, rfl, _, _⟩ := hbx.form
      refine op_run (r_idxS1 rfl rfl rfl rfl (by omega) (by omega)) rfl ?_
      refine op_run (r_load rfl rfl rfl (by rw [Int.toNat_natCast]; exact hcell)) rfl ?_
      refine o_ast rfl ?_
      refine ops_nil ?_
      refine W_seq ?_
      refine W_region ?_
      refine o_mvt rfl ?_
      refine op_run (r_len rfl rfl rfl) rfl ?_
      refine op_run (r_gtr rfl rfl) rfl ?_
      refine ops_nil ?_
      refine W_cond_p rfl (fun h7 => ?_) (fun h7 => ?_)
      · refine W_seq ?_
        refine W_region ?_
        refine o_asc rfl ?_
        refine ops_nil ?_
        refine W_ret ?_
        refine ret1 (.bool true) rfl ?_ ?_; rfl
        exact ⟨congrArg Value.bool (decide_eq_true (.inr ⟨x, List.mem_of_getElem? hx, by omega⟩)).symm, Keep.refl _⟩
      · refine W_skip ?_
        refine W_region ?_
        refine op_run (r_add rfl rfl) rfl ?_
        refine o_mvt rfl ?_
        refine ops_nil ?_
        have hinc := inc64' k (by unfold maxLen at hcm0; omega)
        refine ⟨by (repeat (first | with_reducible exact offM_refl _ _ | refine offM_updc rfl ?_ | refine offM_upd rfl ?_ | refine offM_updo rfl ?_ | refine offM_updo_none ?_ | refine offM_head rfl rfl ?_)), ⟨k + 1, congrArg (fun z : Int => [Value.int .i64 z]) hinc, by omega, fun y hy => ?_, rfl⟩, ?_⟩
        · rw [List.take_succ_eq_append_getElem hkl] at hy
          rcases List.mem_append.1 hy with hy | hy
          · exact hle y hy
          · obtain rfl := List.mem_singleton.1 hy
            rw [List.getElem?_eq_getElem hkl] at hx
            injection hx with hx
            rw [hx]; omega
        · show xs.length - (IntKind.i64.wrap ((k : Int) + 1)).toNat < xs.length - (k : Int).toNat
          rw [hinc]; omega
    · refine W_exit ?_
      refine W_seq ?_
      refine W_region ?_
      refine o_asc rfl ?_
      refine ops_nil ?_
      refine W_ret ?_
      refine ret1 (.bool false) rfl ?_ ?_; rfl
      have hke : k = xs.length := by omega
      subst hke
      rw [List.take_length] at hle
      refine ⟨congrArg Value.bool (decide_eq_false ?_).symm, Keep.refl _⟩
      rintro (h | ⟨x, hx, h⟩)
      · omega
      · exact hle x hx h
theorem stV_one {n : Nat} {u ev : Value} (h1 : one u = true) (h2 : one ev = true) : (stV n u ev).all one = true := by
  unfold stV; simp only [List.all_cons, List.all_nil, h1, h2]; rfl
def digA : Dig := ⟨1 :: List.replicate 31 0, rfl⟩
theorem tells_nil : tellsA 0 Dig.zero [] := ⟨⟨rfl, fun _ => rfl⟩, fun i hi => by omega, rfl⟩
theorem tells_not : ¬ tellsA 0 digA [] := fun h => absurd (h.1.2 rfl) (by decide)
/-- What Check answers, as far as the number goes. -/
theorem au_CheckE (w : World) (n : Nat) (hn : n < 2 ^ 64) (root : Dig) (v : Value) (vks : List Value) (xs : List (List UInt8)) (hv : RowsV w v vks xs) (h40 : xs.length ≤ 40) (hl : ∀ x ∈ xs, x.length ≤ 3000) :
    Ret Tryd.prog 10 [.int .u64 n, .agg (dgR root).toArray, v].toArray w fun r w' => Keep All w w' ∧ ∃ m u ev E, r = .tuple #[.agg (stV m u ev).toArray, .int .i64 E] ∧ one u = true ∧ one ev = true ∧ (E = 0 → tellsA n root xs) :=
  (au_Check w n hn root v vks xs hv h40 hl).mono fun e w' ⟨r, he, hk, hr⟩ => ⟨r, he, hk, by
    rcases hr with ⟨h1, rfl⟩ | ⟨h1, u, ev, evks, rfl, h2, h3⟩
    · exact ⟨_, _, _, _, rfl, rfl, rfl, fun h => absurd h (by decide)⟩
    · obtain ⟨au, cu, rfl, _, _⟩ := h2.form
      obtain ⟨ae, ce, rfl, _, _⟩ := h3.2.1.form
      exact ⟨_, _, _, _, rfl, rfl, rfl, fun _ => h1⟩⟩
theorem speaks17 (w : World) : Ret Tryd.prog 4 [].toArray w fun r w' => r = .bool true ∧ Keep All w w' := by
  refine enter (fn := Tryd.f4) (n := 32) Tryd.func4 rfl rfl (by simp) ?_
  refine W_seq ?_
  refine W_region ?_
  refine o_asc rfl ?_
  refine ops_nil ?_
  refine W_seq ?_
  refine W_region ?_
  refine op_run (r_buildA ((dgR Dig.zero)) (_) ([]) rfl rfl rfl rfl rfl (by rw [dgR_zero]; rfl)) rfl ?_
  refine op_call rfl rfl rfl (au_Check w 0 (by decide) Dig.zero _ [] [] (rowsV_nil w) (by decide) (fun x hx => by cases hx)) ?_; rintro v2 w2 ⟨hk2, hr2⟩
  obtain ⟨u, ev, evks, rfl, hSu, hRe⟩ := (hr2.resolve_left (fun h => h.1 tells_nil)).2
  obtain ⟨au, cu, rfl, _, _⟩ := hSu.form
  obtain ⟨ae, ce, rfl, _, _⟩ := hRe.2.1.form
  refine o_mvt rfl ?_
  refine op_run (r_extract rfl rfl) rfl ?_
  refine op_run (r_extract rfl rfl) rfl ?_
  refine o_alloc rfl rfl rfl ?_; intro w3 b3 e3 hB3 hk3 hs3
  refine o_storeA (cs := stV 0 (.slice au (storyS []).length cu) (.slice ae (storyE []).length ce)) rfl rfl (by first | rfl | exact binV_one _ | exact dgR_one _ | exact refR_one _ | exact secR_one _ | exact all_c8 _ | exact stV_one rfl rfl) (by first | rfl | (rw [binV_len]; rfl) | (rw [dgR_len]; rfl) | (rw [refR_len]; rfl) | (rw [secR_len]; rfl) | (rw [List.length_map, tagF_len]; rfl) | rfl) hB3 (by exact Nat.le_refl _) rfl ?_; intro w4 hB4 hk4 hs4
  have hB4 : Blk w4 b3 (stV 0 (.slice au 0 cu) (.slice ae (storyE []).length ce)) 33 := hB4
  refine o_ast rfl ?_
  refine ops_nil ?_
  refine W_seq ?_
  refine W_region ?_
  refine op_run (r_buildA ((dgR digA)) (_) ([(0, c8 1)]) rfl rfl rfl rfl rfl (rfl)) rfl ?_
  refine op_call rfl rfl rfl (au_Check w4 0 (by decide) digA _ [] [] (rowsV_nil w4) (by decide) (fun x hx => by cases hx)) ?_; rintro v6 w6 ⟨hk6, hr6⟩
  obtain rfl := (hr6.resolve_right (fun h => tells_not h.1)).2
  refine o_mvt rfl ?_
  refine op_run (r_extract rfl rfl) rfl ?_
  refine op_run (r_extract rfl rfl) rfl ?_
  refine o_alloc rfl rfl rfl ?_; intro w7 b7 e7 hB7 hk7 hs7
  refine o_storeA (cs := stV 0 nilV nilV) rfl rfl (by first | rfl | exact binV_one _ | exact dgR_one _ | exact refR_one _ | exact secR_one _ | exact all_c8 _ | exact stV_one rfl rfl) (by first | rfl | (rw [binV_len]; rfl) | (rw [dgR_len]; rfl) | (rw [refR_len]; rfl) | (rw [secR_len]; rfl) | (rw [List.length_map, tagF_len]; rfl) | rfl) hB7 (by exact Nat.le_refl _) rfl ?_; intro w8 hB8 hk8 hs8
  have hz2 := hk2.size
  have hz3 := hk3.size
  have hB8 : Blk w8 b3 (stV 0 (.slice au 0 cu) (.slice ae (storyE []).length ce)) 33 := hk8.blk' (hk7.blk' (hk6.blk' hB4 trivial) trivial) (by have := hB4.lt; have := hk6.size; omega)
  refine o_ast rfl ?_
  refine ops_nil ?_
  refine W_seq ?_
  refine W_region ?_
  refine o_mvt rfl ?_
  refine op_run (r_eql rfl rfl) rfl ?_
  refine o_mvt rfl ?_
  refine g_split rfl rfl rfl (fun g9 => ?_) (fun g => absurd g (by simp))
  refine o_mvt (g_yes rfl rfl rfl g9) ?_
  refine op_run (r_eql rfl rfl) (g_yes rfl rfl rfl g9) ?_
  refine o_pkTt rfl g9 rfl ?_
  refine o_mvt rfl ?_
  refine g_split rfl rfl rfl (fun g10 => ?_) (fun g => absurd g (by simp))
  refine op_run (r_fieldAddr rfl rfl rfl rfl rfl) (g_yes rfl rfl rfl g10) ?_
  refine op_run (r_load rfl rfl rfl (hB8.cell rfl)) (g_yes rfl rfl rfl g10) ?_
  refine op_run (r_eql rfl rfl) (g_yes rfl rfl rfl g10) ?_
  refine o_pkTt rfl g10 rfl ?_
  refine o_mvt rfl ?_
  refine g_split rfl rfl rfl (fun g12 => ?_) (fun g => absurd g (by simp))
  refine op_run (r_fieldAddr rfl rfl rfl rfl rfl) (g_yes rfl rfl rfl g12) ?_
  refine op_run (r_load rfl rfl rfl (hB8.cell rfl)) (g_yes rfl rfl rfl g12) ?_
  refine op_run (r_len rfl rfl rfl) (g_yes rfl rfl rfl g12) ?_
  refine op_run (r_eql rfl rfl) (g_yes rfl rfl rfl g12) ?_
  refine o_pkTt rfl g12 rfl ?_
  refine o_ast rfl ?_
  refine ops_nil ?_
  refine W_ret ?_
  refine ret1 (.bool true) rfl ?_ ?_; rfl
  exact ⟨rfl, (((hk2.trans hk3).new hk4 (by omega)).trans (hk6.trans hk7)).new hk8 (by have := hk4.size; have := hk6.size; omega)⟩
/-- Where two rows of commits part, the digests are one. -/
theorem fork_dig {n : Nat} {root : Dig} {xs ys : List (List UInt8)} (hx : tellsA n root xs) (hy : tellsA n root ys) {i : Nat} {x y : List UInt8} (h1 : xs[i]? = some x) (h2 : ys[i]? = some y) (hp : ∀ j, j < i → xs[j]? = ys[j]?) : digB x = digB y := by
  have hi : i < n := by have := (List.getElem?_eq_some_iff.1 h1).1; have := hx.1.1; omega
  have e : wantA root xs i = wantA root ys i := by
    cases i with
    | zero => rfl
    | succ k =>
      show (match xs[k]? with | some x => (cOf x).prev.dig | none => Dig.zero) = (match ys[k]? with | some x => (cOf x).prev.dig | none => Dig.zero)
      rw [hp k (by omega)]
  exact (hx.2.1 i hi x h1).2.1.trans (e.trans (hy.2.1 i hi y h2).2.1.symm)
end Go.Proofs.YtigehkfdfecfoaaDoor.B
