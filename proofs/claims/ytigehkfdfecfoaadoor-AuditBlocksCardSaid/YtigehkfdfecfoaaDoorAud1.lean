/-
  audit.each: the iterator.
-/
import Derived.Test.YtigehkfdfecfoaaDoorCom5
import Derived.Test.YtigehkfdfecfoaaDoorCom2
import Derived.Test.YtigehkfdfecfoaaDoorRangeO
namespace Go.Proofs.YtigehkfdfecfoaaDoor.B
open Go
set_option linter.unusedVariables false
set_option maxHeartbeats 2000000
set_option maxRecDepth 100000
attribute [local irreducible] W OpsW OpsQ retP
attribute [local irreducible] numR
def cOf (x : List UInt8) : Cm := (decC x).getD Cm.zero
def digB (x : List UInt8) : Dig := tagD 3 [x]
/-- The digest that commit k is to have. -/
def wantA (root : Dig) (xs : List (List UInt8)) : Nat → Dig
  | 0 => root
  | k + 1 => match xs[k]? with
    | some x => (cOf x).prev.dig
    | none => Dig.zero
/-- Commit k is right. -/
def okA (n : Nat) (root : Dig) (xs : List (List UInt8)) (k : Nat) (x : List UInt8) : Prop := (decC x).isSome = true ∧ digB x = wantA root xs k ∧ (cOf x).epoch = n - k
instance (n : Nat) (root : Dig) (xs : List (List UInt8)) (k : Nat) (x : List UInt8) : Decidable (okA n root xs k x) := inferInstanceAs (Decidable (_ ∧ _))
def auR (xs : List (List UInt8)) (n : Nat) (root : Dig) (bR bX bC : Nat) (v : Value) (vks : List Value) (w : World) : Prop :=
  Blk w bR (dgR root) 28 ∧ Blk w bX [v] 24 ∧ Blk w bC [.int .u64 n] 23 ∧ RowsV w v vks xs
def auE (xs : List (List UInt8)) (n : Nat) (root : Dig) (k : Nat) (args : Array Value) (w0 w1 : World) : Prop :=
  ∃ x vb ve vks, xs[k]? = some x ∧ args = #[.agg (cmV (cOf x) vb ve).toArray, .bool (decide (okA n root xs k x))] ∧ CmIn w1 (cOf x) vb ve vks ∧ FreshE w0 ve vks
theorem au_walk (xs : List (List UInt8)) (n : Nat) (hn : xs.length = n) (hn64 : n < 2 ^ 62) (root : Dig) (hl : ∀ x ∈ xs, x.length ≤ 3000) (bR bX bC : Nat) (v : Value) (vks : List Value) (l : Nat) (J : Nat → World → Prop) (Jx : World → Prop) (w : World)
    (hJR : ∀ k w1, J k w1 → auR xs n root bR bX bC v vks w1) (hJ : ∀ k w1 w2, J k w1 → Keep (· ≠ w.heap.size) w1 w2 → J k w2) (hJx : ∀ w1 w2, Jx w1 → Keep (· ≠ w.heap.size) w1 w2 → Jx w2)
    (hY : ∀ k args w0 w1, J k w0 → w.heap.size < w0.heap.size → Keep (· ≠ w.heap.size) w0 w1 → k < xs.length → auE xs n root k args w0 w1 → YieldsB Tryd.prog l args w1 fun b w2 => (b = true → J (k + 1) w2 ∧ Keep (fun b => b = w.heap.size ∨ (w0.heap.size ≤ b ∧ b < w1.heap.size)) w1 w2) ∧ (b = false → Jx w2)) (h0 : J 0 w) :
    Ret Tryd.prog 31 [.func (.yield l) #[] #[], .pointer (some ⟨bR, 0, none⟩), .pointer (some ⟨bX, 0, none⟩), .pointer (some ⟨bC, 0, none⟩)].toArray w fun _ w' => J xs.length w' ∨ Jx w' := by
  obtain ⟨a0, c0, rfl, hc0, hcm0⟩ := (hJR _ _ h0).2.2.2.2.1.form
  refine enter (fn := Tryd.f31) (n := 50) Tryd.func31 rfl rfl (by simp) ?_
  refine W_seq ?_
  refine W_region ?_
  refine op_run (r_loadA (dgR root) rfl rfl rfl (by first | rfl | (rw [binV_len]; rfl) | (rw [dgR_len]; rfl) | (rw [refR_len]; rfl) | (rw [secR_len]; rfl) | (rw [List.length_map, tagF_len]; rfl) | (rw [cmV_len]; rfl)) ((hJR _ _ h0).1.all)) rfl ?_
  refine o_alloc rfl rfl rfl ?_; intro w2 b2 e2 hB2 hk2 hs2
  refine o_storeA (cs := dgR root) rfl rfl (by first | rfl | exact binV_one _ | exact dgR_one _ | exact refR_one _ | exact secR_one _ | exact all_c8 _ | exact cmV_one _ (by rw [eb_]; rfl) (by rw [ee_]; rfl)) (by first | rfl | (rw [binV_len]; rfl) | (rw [dgR_len]; rfl) | (rw [refR_len]; rfl) | (rw [secR_len]; rfl) | (rw [List.length_map, tagF_len]; rfl) | (rw [cmV_len]; rfl)) hB2 (by exact Nat.le_of_eq (by simp [dgR_len])) rfl ?_; intro w3 hB3 hk3 hs3
  have hB3 : Blk w3 b2 (dgR (wantA root xs 0)) 28 := by
    have h := hB3
    rwa [splice_all (by simp [dgR_len])] at h
  have hJ3 : J 0 w3 := hJ _ _ _ h0 (hk2.all.trans (by rw [← e2]; exact hk3))
  refine ops_nil ?_
  refine W_seq ?_
  refine W_region ?_
  refine op_run (r_load rfl rfl rfl ((hJR _ _ hJ3).2.1.cell rfl)) rfl ?_
  refine op_run (r_len rfl rfl rfl) rfl ?_
  refine o_mvc rfl ?_
  refine ops_nil ?_
  refine W_block ?_
  refine W_loop [14] [6, 7, 8, 9, 10, 14, 15, 16, 17, 18, 19, 20, 21, 22, 23, 24, 25, 26, 27, 28, 29, 30, 31, 32, 33, 34, 35, 36, 37, 38, 39, 40, 41, 42, 43, 44, 45, 46, 47, 48, 49] (fun vs w' => ∃ k : Nat, vs = [.int .i64 k] ∧ k ≤ xs.length ∧ J k w' ∧ Blk w' b2 (dgR (wantA root xs k)) 28) (fun vs _ => match vs with | [.int _ y] => xs.length - y.toNat | _ => 0) ⟨0, rfl, Nat.zero_le _, hJ3, hB3⟩ ?_
  rintro J5 vs w5 ⟨k, rfl, hk, hJ5, hB5⟩ -
  refine W_seq ?_
  refine W_region ?_
  refine op_run (r_lss rfl rfl) rfl ?_
  refine ops_nil ?_
  refine W_seq ?_
  refine W_cond_p rfl (fun h6 => ?_) (fun h6 => ?_)
  · refine W_skip ?_
    refine W_seq ?_
    refine W_block ?_
    refine W_seq ?_
    refine W_region ?_
    refine o_mvt rfl ?_
    have hkl : k < xs.length := by omega
    obtain ⟨x, hx⟩ : ∃ x, xs[k]? = some x := ⟨_, List.getElem?_eq_getElem hkl⟩
    have hR5 := (hJR _ _ hJ5).2.2.2
    obtain ⟨u, hu⟩ : ∃ u, vks[k]? = some u := ⟨_, List.getElem?_eq_getElem (by have := hR5.1; omega)⟩
    obtain ⟨bp, op, cp, ep, hcell⟩ := hR5.at hu
    cases ep
    have hby := hR5.2.2 k u x hu hx
    have hxl := hl x (List.mem_of_getElem? hx)
    refine op_run (r_idxS1 rfl rfl rfl rfl (by omega) (by omega)) rfl ?_
    refine op_run (r_load rfl rfl rfl (by rw [Int.toNat_natCast]; exact hcell)) rfl ?_
    refine o_ast rfl ?_
    refine o_ast rfl ?_
    refine ops_nil ?_
    refine W_seq ?_
    refine W_region ?_
    refine o_mvt rfl ?_
    refine op_call rfl rfl rfl (cm_DecodeF w5 u x hby (by omega)) ?_; rintro v9 w9 ⟨vb, ve, vks', rfl, hC9, hk9, hF9⟩
    have hC9 : CmIn w9 (cOf x) vb ve vks' := hC9
    obtain ⟨ab, cb, eb_, _, _⟩ := hC9.1.form
    obtain ⟨ae, ce, ee_, _, _⟩ := hC9.2.2.1.form
    refine o_mvt rfl ?_
    refine op_run (r_extract rfl rfl) rfl ?_
    refine op_run (r_extract rfl rfl) rfl ?_
    refine o_alloc rfl rfl rfl ?_; intro w10 b10 e10 hB10 hk10 hs10
    refine o_storeA (cs := cmV (cOf x) vb ve) rfl rfl (by first | rfl | exact binV_one _ | exact dgR_one _ | exact refR_one _ | exact secR_one _ | exact all_c8 _ | exact cmV_one _ (by rw [eb_]; rfl) (by rw [ee_]; rfl)) (by first | rfl | (rw [binV_len]; rfl) | (rw [dgR_len]; rfl) | (rw [refR_len]; rfl) | (rw [secR_len]; rfl) | (rw [List.length_map, tagF_len]; rfl) | (rw [cmV_len]; rfl)) hB10 (by simp [cmV_len]) rfl ?_; intro w11 hB11 hk11 hs11
    have hB11 : Blk w11 b10 (cmV (cOf x) vb ve) 58 := by
      have h := hB11
      rwa [splice_all (by simp [cmV_len])] at h
    have hk911 : Keep All w9 w11 := hk10.new hk11 (by omega)
    have hk511 : Keep All w5 w11 := hk9.trans hk911
    have hC11 := hC9.k hk911
    have hB11w := hk511.blk' hB5 trivial
    have hR11 := hJR _ _ (hJ _ _ _ hJ5 hk511.all)
    refine o_ast rfl ?_
    refine ops_nil ?_
    refine W_cut [10] [10, 24, 25, 26, 27, 28, 29, 30, 31, 32, 33, 34, 35, 36, 37, 38, 39, 40] (fun vs w12 => vs = [.bool (decide (okA n root xs k x))] ∧ Keep All w11 w12) ?_ ?_
    · refine W_quiet (Keep All w11) (by kernel_rfl) (by kernel_rfl) (Keep.drawn _) ?_
      refine q_mvt rfl ?_
      refine q_run (fun _ _ => (r_eql rfl rfl)) rfl ?_
      refine q_mvt rfl ?_
      refine q_split rfl rfl rfl (fun g14 => ?_) (fun g14 => ?_)
      · refine q_mvt (g_yes rfl rfl rfl g14) ?_
        refine q_call rfl rfl (g_yes rfl rfl rfl g14) (fun _ hk => (cm_Digest _ u x (hby.k (hk511.trans hk)) (by omega)).mono fun e w'' ⟨u, he, h1, h2⟩ => ⟨u, he, h1, hk.trans h2⟩) ?_
        refine q_run (fun _ hk => r_loadA (dgR (wantA root xs k)) rfl rfl rfl (by first | rfl | (rw [binV_len]; rfl) | (rw [dgR_len]; rfl) | (rw [refR_len]; rfl) | (rw [secR_len]; rfl) | (rw [List.length_map, tagF_len]; rfl) | (rw [cmV_len]; rfl)) ((hk.blk' hB11w trivial).all)) (g_yes rfl rfl rfl g14) ?_
        refine q_run (fun _ _ => (r_eqlC (p := digB x = wantA root xs k) rfl rfl rfl rfl (by kernel_rfl) (okC_dgR _) (okC_dgR _) rfl (dgR_inj))) (g_yes rfl rfl rfl g14) ?_
        refine q_pkTt rfl g14 rfl ?_
        refine q_mvt rfl ?_
        refine q_split rfl rfl rfl (fun g18 => ?_) (fun g18 => ?_)
        · refine q_run (fun _ _ => (r_fieldAddr rfl rfl rfl rfl rfl)) (g_yes rfl rfl rfl g18) ?_
          refine q_run (fun _ hk => r_load rfl rfl rfl (hk.cell (hB11.cell (cmV_epoch _ _ _)) trivial)) (g_yes rfl rfl rfl g18) ?_
          refine q_run (fun _ hk => r_load rfl rfl rfl (hk.cell (hR11.2.2.1.cell rfl) trivial)) (g_yes rfl rfl rfl g18) ?_
          refine q_mvt (g_yes rfl rfl rfl g18) ?_
          refine q_run (fun _ _ => ((r_conv rfl rfl rfl).val (congrArg (Value.int .u64) (show IntKind.u64.wrap (k : Int) = (k : Int) from by rw [wrap_u64]; omega)))) (g_yes rfl rfl rfl g18) ?_
          refine q_run (fun _ _ => (r_sub rfl rfl)) (g_yes rfl rfl rfl g18) ?_
          refine q_run (fun _ _ => (r_eql rfl rfl)) (g_yes rfl rfl rfl g18) ?_
          refine q_pkTt rfl g18 rfl ?_
          refine q_ast rfl ?_
          refine q_nil ?_; intro w21 hk21
          exact ⟨by (repeat (first | with_reducible exact offM_refl _ _ | refine offM_updc rfl ?_ | refine offM_upd rfl ?_ | refine offM_updo rfl ?_ | refine offM_updo_none ?_ | refine offM_head rfl rfl ?_)), congrArg (fun b => [Value.bool b]) (by
            have g1 : (decC x).isSome = true := Classical.byContradiction fun h => (by rw [if_neg h] at g14; simp at g14)
            have g2 : digB x = wantA root xs k := (by simpa using g18)
            rw [decide_eq_decide, wrap_u64]
            constructor
            · intro h; exact ⟨g1, g2, by omega⟩
            · intro h; have := h.2.2; omega), hk21⟩
        · refine q_skip (g_no rfl rfl rfl g18) ?_
          refine q_skip (g_no rfl rfl rfl g18) ?_
          refine q_skip (g_no rfl rfl rfl g18) ?_
          refine q_skip (g_no rfl rfl rfl g18) ?_
          refine q_skip (g_no rfl rfl rfl g18) ?_
          refine q_skip (g_no rfl rfl rfl g18) ?_
          refine q_skip (g_no rfl rfl rfl g18) ?_
          refine q_pkFc rfl g18 rfl ?_
          refine q_ast rfl ?_
          refine q_nil ?_; intro w23 hk23
          exact ⟨by (repeat (first | with_reducible exact offM_refl _ _ | refine offM_updc rfl ?_ | refine offM_upd rfl ?_ | refine offM_updo rfl ?_ | refine offM_updo_none ?_ | refine offM_head rfl rfl ?_)), congrArg (fun b => [Value.bool b]) (by have g : ¬ digB x = wantA root xs k := (by simpa using g18); symm; exact decide_eq_false fun h => g h.2.1), hk23⟩
      · refine q_skip (g_no rfl rfl rfl g14) ?_
        refine q_skip (g_no rfl rfl rfl g14) ?_
        refine q_skip (g_no rfl rfl rfl g14) ?_
        refine q_skip (g_no rfl rfl rfl g14) ?_
        refine q_pkFc rfl g14 rfl ?_
        refine q_mvt rfl ?_
        refine q_skip (g_no rfl rfl rfl rfl) ?_
        refine q_skip (g_no rfl rfl rfl rfl) ?_
        refine q_skip (g_no rfl rfl rfl rfl) ?_
        refine q_skip (g_no rfl rfl rfl rfl) ?_
        refine q_skip (g_no rfl rfl rfl rfl) ?_
        refine q_skip (g_no rfl rfl rfl rfl) ?_
        refine q_skip (g_no rfl rfl rfl rfl) ?_
        refine q_pkFc rfl rfl rfl ?_
        refine q_ast rfl ?_
        refine q_nil ?_; intro w25 hk25
        exact ⟨by (repeat (first | with_reducible exact offM_refl _ _ | refine offM_updc rfl ?_ | refine offM_upd rfl ?_ | refine offM_updo rfl ?_ | refine offM_updo_none ?_ | refine offM_head rfl rfl ?_)), congrArg (fun b => [Value.bool b]) (by symm; exact decide_eq_false fun h => by rw [h.1] at g14; simp at g14), hk25⟩
    · rintro J27 vs w27 ⟨rfl, hk27⟩ -
      have hk527 : Keep All w5 w27 := hk511.trans hk27
      have hB27 := hk27.blk' hB11 trivial
      refine W_seq ?_
      refine W_seq ?_
      refine W_region ?_
      refine o_mvt rfl ?_
      refine op_run (r_loadA (cmV (cOf x) vb ve) rfl rfl rfl (by first | rfl | (rw [binV_len]; rfl) | (rw [dgR_len]; rfl) | (rw [refR_len]; rfl) | (rw [secR_len]; rfl) | (rw [List.length_map, tagF_len]; rfl) | (rw [cmV_len]; rfl)) (hB27.all)) rfl ?_
      refine o_mvt rfl ?_
      refine op_yield rfl rfl (hY k _ w5 w27 hJ5 (by have := hB5.lt; omega) hk527.all hkl ⟨x, vb, ve, vks', hx, rfl, hC11.k hk27, hF9⟩) ?_; rintro b29 w29 ⟨hT29, hF29⟩
      refine op_run (r_not rfl) rfl ?_
      refine ops_nil ?_
      refine W_cond rfl (fun h30 => ?_) (fun h30 => ?_)
      · refine W_ret ?_
        refine ret0' rfl ?_
        exact .inr (hF29 (by simpa using h30))
      · refine W_skip ?_
        refine W_region ?_
        refine op_run (r_fieldAddr rfl rfl rfl rfl rfl) rfl ?_
        refine op_run (r_fieldAddr rfl rfl rfl rfl rfl) rfl ?_
        obtain ⟨hJ29, hk29⟩ := hT29 (by simpa using h30)
        have hz5 := hk9.size
        have hlt27 := hB27.lt
        have hlt5 := hB5.lt
        have hB29 := hk29.blk' hB27 (.inr ⟨by omega, hlt27⟩)
        have hB29w := hk29.blk' (hk27.blk' hB11w trivial) (.inl e2)
        refine op_run (r_loadA (dgR (cOf x).prev.dig) rfl rfl rfl (by first | rfl | (rw [binV_len]; rfl) | (rw [dgR_len]; rfl) | (rw [refR_len]; rfl) | (rw [secR_len]; rfl) | (rw [List.length_map, tagF_len]; rfl) | (rw [cmV_len]; rfl)) ((fun j y hj => by rw [Addr.add_lit]; exact hB29.cell (cmV_prev _ _ _ (show (refR (cOf x).prev)[j]? = some y by unfold refR; rw [List.getElem?_append_left (List.getElem?_eq_some_iff.1 hj).1]; exact hj))))) rfl ?_
        refine o_storeA (cs := dgR (cOf x).prev.dig) rfl rfl (by first | rfl | exact binV_one _ | exact dgR_one _ | exact refR_one _ | exact secR_one _ | exact all_c8 _ | exact cmV_one _ (by rw [eb_]; rfl) (by rw [ee_]; rfl)) (by first | rfl | (rw [binV_len]; rfl) | (rw [dgR_len]; rfl) | (rw [refR_len]; rfl) | (rw [secR_len]; rfl) | (rw [List.length_map, tagF_len]; rfl) | (rw [cmV_len]; rfl)) hB29w (by exact Nat.le_of_eq (by simp [dgR_len])) rfl ?_; intro w33 hB33 hk33 hs33
        have hB33 : Blk w33 b2 (dgR (wantA root xs (k + 1))) 28 := by
          have h := hB33
          rw [splice_all (by simp [dgR_len])] at h
          rw [show wantA root xs (k + 1) = (cOf x).prev.dig by show (match xs[k]? with | some x => (cOf x).prev.dig | none => Dig.zero) = _; rw [hx]]
          exact h
        refine ops_nil ?_
        refine W_region ?_
        refine op_run (r_add rfl rfl) rfl ?_
        refine o_mvt rfl ?_
        refine ops_nil ?_
        have hinc := inc64' k (by unfold maxLen at hcm0; omega)
        refine ⟨by (repeat (first | with_reducible exact offM_refl _ _ | refine offM_updc rfl ?_ | refine offM_upd rfl ?_ | refine offM_updo rfl ?_ | refine offM_updo_none ?_ | refine offM_head rfl rfl ?_)), ⟨k + 1, congrArg (fun z : Int => [Value.int .i64 z]) hinc, by omega, hJ _ _ _ hJ29 (by rw [← e2]; exact hk33), hB33⟩, ?_⟩
        show xs.length - (IntKind.i64.wrap ((k : Int) + 1)).toNat < xs.length - (k : Int).toNat
        rw [hinc]; omega
  · refine W_exit ?_
    refine ret0 rfl ?_
    have e : k = xs.length := by omega
    exact .inl (e ▸ hJ5)
theorem au_seq (xs : List (List UInt8)) (n : Nat) (hn : xs.length = n) (hn64 : n < 2 ^ 62) (root : Dig) (hl : ∀ x ∈ xs, x.length ≤ 3000) (bR bX bC : Nat) (v : Value) (vks : List Value) :
    SeqO Tryd.prog 31 #[.pointer (some ⟨bR, 0, none⟩), .pointer (some ⟨bX, 0, none⟩), .pointer (some ⟨bC, 0, none⟩)] xs.length (auE xs n root) (auR xs n root bR bX bC v vks) :=
  fun l J Jx w h1 h2 h3 h4 h5 => by have h := au_walk xs n hn hn64 root hl bR bX bC v vks l J Jx w h1 h2 h3 h4 h5; simpa using h
end Go.Proofs.YtigehkfdfecfoaaDoor.B
