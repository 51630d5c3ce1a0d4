/-
  audit.Check: the walk. (Printed by gen_aud8.py.)
-/
import Derived.Test.YtigehkfdfecfoaaDoorAud7
namespace Go.Proofs.YtigehkfdfecfoaaDoor.B
open Go
set_option linter.unusedVariables false
set_option maxHeartbeats 2000000
set_option maxRecDepth 100000
attribute [local irreducible] W OpsW OpsQ retP
attribute [local irreducible] numR cOf
theorem dgR_zero : dgR Dig.zero = List.replicate 32 (c8 0) := by unfold dgR Dig.zero; rw [List.map_replicate]
theorem rows_snocD (ds : List Dig) (d : Dig) : rows dgR (ds ++ [d]) = rows dgR ds ++ dgR d := by unfold rows; rw [List.flatMap_append]; simp
theorem ti_rr : tinfo Tryd.prog 24 = some (some (.slice none 0 0), 1, 24) := by kernel_rfl
/-- Commits tell a story. -/
def tellsA (n : Nat) (root : Dig) (xs : List (List UInt8)) : Prop := (xs.length = n ∧ (n = 0 → root = Dig.zero)) ∧ (∀ i, i < n → ∀ x, xs[i]? = some x → okA n root xs i x) ∧ (lastC xs n).prev = Rf.zero
def storyS (xs : List (List UInt8)) : List Dig := (statesA xs xs.length).reverse
def storyE (xs : List (List UInt8)) : List (List UInt8) := ((xs.map fun x => (cOf x).events).reverse).flatten
theorem cOf_ev (x : List UInt8) : (cOf x).events.length ≤ 65536 := by
  unfold cOf
  cases h : decC x with
  | none => exact Nat.zero_le _
  | some c =>
    obtain ⟨⟨h1, h2⟩, h3, h4⟩ := decC_iff.1 h
    exact (right_fit h1 h2 (by rw [h3]; exact h4)).nev
theorem flatG_bd {M : Nat} : ∀ gs : List (Value × List Value), (∀ p ∈ gs, p.2.length ≤ M) → (flatG gs).length ≤ gs.length * M
  | [], _ => Nat.zero_le _
  | p :: gs, h => by
    have ih := flatG_bd gs fun q hq => h q (List.mem_cons_of_mem _ hq)
    have h0 := h p (List.mem_cons_self ..)
    unfold flatG at *
    rw [List.flatMap_cons, List.length_append, List.length_cons, Nat.succ_mul]; omega
theorem flat_al {w : World} : ∀ (G : List (Value × List Value)) (E : List (List (List UInt8))), G.length = E.length → (∀ (i : Nat) (p : Value × List Value) (e : List (List UInt8)), G[i]? = some p → E[i]? = some e → RowsV w p.1 p.2 e) →
    (flatG G).length = E.flatten.length ∧ ∀ (i : Nat) (u : Value) (x : List UInt8), (flatG G)[i]? = some u → E.flatten[i]? = some x → By w u x
  | [], [], _, _ => ⟨rfl, fun i u x h => by cases h⟩
  | [], _ :: _, h, _ => by cases h
  | _ :: _, [], h, _ => by cases h
  | p :: G, e :: E, hl, h => by
    have ih := flat_al G E (by simpa using hl) (fun i => h (i + 1))
    have h0 := h 0 p e rfl rfl
    have e1 : flatG (p :: G) = p.2 ++ flatG G := by unfold flatG; rw [List.flatMap_cons]
    rw [e1, List.flatten_cons]
    refine ⟨by rw [List.length_append, List.length_append, h0.1, ih.1], fun i u x hu hx => ?_⟩
    by_cases hi : i < e.length
    · rw [List.getElem?_append_left (by rw [h0.1]; exact hi)] at hu
      rw [List.getElem?_append_left hi] at hx
      exact h0.2.2 i u x hu hx
    · rw [List.getElem?_append_right (by rw [h0.1]; omega), h0.1] at hu
      rw [List.getElem?_append_right (by omega)] at hx
      exact ih.2 _ u x hu hx
theorem rev_al {w : World} {gs : List (Value × List Value)} {xs : List (List UInt8)} (hl : gs.length = xs.length) (h : ∀ (i : Nat) (p : Value × List Value) (x : List UInt8), gs[i]? = some p → xs[i]? = some x → RowsV w p.1 p.2 (cOf x).events) :
    ∀ (i : Nat) (p : Value × List Value) (e : List (List UInt8)), gs.reverse[i]? = some p → ((xs.map fun x => (cOf x).events).reverse)[i]? = some e → RowsV w p.1 p.2 e := fun i p e hp he => by
  have hi : i < gs.length := by have := (List.getElem?_eq_some_iff.1 hp).1; rwa [List.length_reverse] at this
  rw [List.getElem?_reverse hi] at hp
  rw [List.getElem?_reverse (by rw [List.length_map]; omega), List.getElem?_map, List.length_map] at he
  rw [hl] at hp
  cases hx : xs[xs.length - 1 - i]? with
  | none => rw [hx] at he; cases he
  | some x => rw [hx] at he; injection he with he; subst he; exact h _ p x hp hx
theorem au_Check (w : World) (n : Nat) (hn : n < 2 ^ 64) (root : Dig) (v : Value) (vks : List Value) (xs : List (List UInt8)) (hv : RowsV w v vks xs) (h40 : xs.length ≤ 40) (hl : ∀ x ∈ xs, x.length ≤ 3000) :
    Ret Tryd.prog 10 [.int .u64 n, .agg (dgR root).toArray, v].toArray w fun r w' => Keep All w w' ∧
      ((¬ tellsA n root xs ∧ r = .tuple #[.agg (stV 0 nilV nilV).toArray, .int .i64 3]) ∨
       (tellsA n root xs ∧ ∃ u ev evks, r = .tuple #[.agg (stV n u ev).toArray, .int .i64 0] ∧ Sl w' u (storyS xs).length 32 (rows dgR (storyS xs)) ∧ RowsV w' ev evks (storyE xs))) := by
  obtain ⟨a0, c0, rfl, hc0, hcm0⟩ := hv.2.1.form
  refine enterM (fn := Tryd.f10) (n := 66) Tryd.func10 rfl rfl (by simp) ?_
  refine W_seq ?_
  refine W_region ?_
  refine o_box rfl rfl rfl ?_; intro w1 b1 e1 hB1 hk1 hs1
  have hB1 : Blk w1 b1 (dgR root) 28 := hB1
  refine o_alloc rfl rfl rfl ?_; intro w2 b2 e2 hB2 hk2 hs2
  have hB2 : Blk w2 b2 (stV 0 nilV nilV) 33 := hB2
  refine o_alloc rfl rfl rfl ?_; intro w3 b3 e3 hB3 hk3 hs3
  have hk03 := (hk1.trans hk2).trans hk3
  have hB1' := hk3.blk' (hk2.blk' hB1 trivial) trivial
  have hB2' := hk3.blk' hB2 trivial
  refine ops_nil ?_
  refine W_seq ?_
  refine W_cut [26] [13, 14, 15, 16, 17, 18, 19, 20, 21, 22, 23, 24, 25, 26] (fun vs w4 => vs = [.bool (decide (¬ (xs.length = n ∧ (n = 0 → root = Dig.zero))))] ∧ w4 = w3) ?_ ?_
  · refine W_region ?_
    refine o_mvt rfl ?_
    refine op_run (r_len rfl rfl rfl) rfl ?_
    refine op_run ((r_conv rfl rfl rfl).val (congrArg (Value.int .u64) (show IntKind.u64.wrap (xs.length : Int) = (xs.length : Int) from by rw [wrap_u64]; omega))) rfl ?_
    refine o_mvt rfl ?_
    refine op_run (r_neq rfl rfl) rfl ?_
    refine o_mvt rfl ?_
    refine g_split rfl rfl rfl (fun g5 => ?_) (fun g5 => ?_)
    · refine o_mvt (g_yes rfl rfl rfl g5) ?_
      refine op_run (r_eql rfl rfl) (g_yes rfl rfl rfl g5) ?_
      refine o_mvt (g_yes rfl rfl rfl g5) ?_
      refine g_split rfl rfl rfl (fun g6 => ?_) (fun g6 => ?_)
      · refine op_run (r_loadA (dgR root) rfl rfl rfl (by first | rfl | (rw [binV_len]; rfl) | (rw [dgR_len]; rfl) | (rw [refR_len]; rfl) | (rw [secR_len]; rfl) | (rw [List.length_map, tagF_len]; rfl) | (rw [cmV_len]; rfl)) (hB1'.all)) (g_yes rfl rfl rfl g6) ?_
        refine op_run (r_buildA ((dgR Dig.zero)) (_) ([]) rfl rfl rfl rfl rfl (by rw [dgR_zero]; rfl)) (g_yes rfl rfl rfl g6) ?_
        refine op_run (r_neqC (p := root = Dig.zero) rfl rfl rfl rfl (by kernel_rfl) (okC_dgR _) (okC_dgR _) rfl (dgR_inj)) (g_yes rfl rfl rfl g6) ?_
        refine o_pkTt rfl g6 (g_yes rfl rfl rfl g5) ?_
        refine o_pkFt rfl g5 rfl ?_
        refine ops_nil ?_
        exact ⟨by (repeat (first | with_reducible exact offM_refl _ _ | refine offM_updc rfl ?_ | refine offM_upd rfl ?_ | refine offM_updo rfl ?_ | refine offM_updo_none ?_ | refine offM_head rfl rfl ?_)), congrArg (fun b => [Value.bool b]) (by
          have g5' := of_decide_eq_false g5; have g6' := of_decide_eq_true g6
          rw [← decide_not, decide_eq_decide]
          constructor
          · intro h hh; exact h (hh.2 (by omega))
          · intro h hh; exact h ⟨by omega, fun _ => hh⟩), rfl⟩
      · refine op_skip (g_no rfl rfl rfl g6) ?_
        refine op_skip (g_no rfl rfl rfl g6) ?_
        refine op_skip (g_no rfl rfl rfl g6) ?_
        refine o_pkFc rfl g6 (g_yes rfl rfl rfl g5) ?_
        refine o_pkFt rfl g5 rfl ?_
        refine ops_nil ?_
        exact ⟨by (repeat (first | with_reducible exact offM_refl _ _ | refine offM_updc rfl ?_ | refine offM_upd rfl ?_ | refine offM_updo rfl ?_ | refine offM_updo_none ?_ | refine offM_head rfl rfl ?_)), congrArg (fun b => [Value.bool b]) (by
          have g5' := of_decide_eq_false g5; have g6' := of_decide_eq_false g6
          symm; exact decide_eq_false fun h => h ⟨by omega, fun e => by omega⟩), rfl⟩
    · refine op_skip (g_no rfl rfl rfl g5) ?_
      refine op_skip (g_no rfl rfl rfl g5) ?_
      refine op_skip (g_no rfl rfl rfl g5) ?_
      refine op_skip (g_und rfl rfl rfl) ?_
      refine op_skip (g_und rfl rfl rfl) ?_
      refine op_skip (g_und rfl rfl rfl) ?_
      refine op_skip (g_no rfl rfl rfl g5) ?_
      refine o_pkTc rfl g5 rfl ?_
      refine ops_nil ?_
      exact ⟨by (repeat (first | with_reducible exact offM_refl _ _ | refine offM_updc rfl ?_ | refine offM_upd rfl ?_ | refine offM_updo rfl ?_ | refine offM_updo_none ?_ | refine offM_head rfl rfl ?_)), congrArg (fun b => [Value.bool b]) (by
        have g5' := of_decide_eq_true g5
        symm; exact decide_eq_true fun h => by have := h.1; omega), rfl⟩
  · rintro J13 vs w13 ⟨rfl, rfl⟩ -
    refine W_cond_p rfl (fun h14 => ?_) (fun h14 => ?_)
    · refine W_seq ?_
      refine W_region ?_
      refine op_run (r_build ((stV 0 nilV nilV)) (_) ([]) rfl rfl rfl rfl rfl (rfl)) rfl ?_
      refine o_storeA (cs := stV 0 nilV nilV) rfl rfl (by first | rfl | exact binV_one _ | exact dgR_one _ | exact refR_one _ | exact secR_one _ | exact all_c8 _ | exact cmV_one _ (by rw [eb_]; rfl) (by rw [ee_]; rfl)) (by first | rfl | (rw [binV_len]; rfl) | (rw [dgR_len]; rfl) | (rw [refR_len]; rfl) | (rw [secR_len]; rfl) | (rw [List.length_map, tagF_len]; rfl) | (rw [cmV_len]; rfl)) hB2' (by exact Nat.le_refl _) rfl ?_; intro w16 hB16 hk16 hs16
      have hB16 : Blk w16 b2 (stV 0 nilV nilV) 33 := hB16
      have hz2 := hk2.size
      have hz1 := hk1.size
      refine o_store (v := (.int .i64 3)) rfl rfl rfl rfl (hk16.blk' hB3 (show b3 ≠ b2 by omega)) (by exact Nat.le_refl _) rfl ?_; intro w17 hB17 hk17 hs17
      refine ops_nil ?_
      refine W_ret ?_
      refine retAC (stV 0 nilV nilV) (.int .i64 3) rfl rfl rfl rfl rfl rfl rfl rfl ((hk17.blk' hB16 (show b2 ≠ b3 by omega)).all) (hB17.cell rfl) ?_
      exact ⟨(hk03.new hk16 (by omega)).new hk17 (by omega), .inl ⟨fun h => h14 h.1, rfl⟩⟩
    · refine W_skip ?_
      refine W_seq ?_
      refine W_region ?_
      refine o_mvt rfl ?_
      obtain ⟨hxn, hr0⟩ := Decidable.not_not.1 h14
      refine op_run (r_build ((stV n nilV nilV)) (_) ([(0, .int .u64 n)]) rfl rfl rfl rfl rfl (rfl)) rfl ?_
      refine o_alloc rfl rfl rfl ?_; intro w20 b20 e20 hB20 hk20 hs20
      refine o_storeA (cs := stV n nilV nilV) rfl rfl (by first | rfl | exact binV_one _ | exact dgR_one _ | exact refR_one _ | exact secR_one _ | exact all_c8 _ | exact cmV_one _ (by rw [eb_]; rfl) (by rw [ee_]; rfl)) (by first | rfl | (rw [binV_len]; rfl) | (rw [dgR_len]; rfl) | (rw [refR_len]; rfl) | (rw [secR_len]; rfl) | (rw [List.length_map, tagF_len]; rfl) | (rw [cmV_len]; rfl)) hB20 (by exact Nat.le_refl _) rfl ?_; intro w21 hB21 hk21 hs21
      have hB21 : Blk w21 b20 (stV n nilV nilV) 33 := hB21
      refine ops_nil ?_
      refine W_seq ?_
      refine W_region ?_
      refine o_alloc rfl rfl rfl ?_; intro w22 b22 e22 hB22 hk22 hs22
      have hB22 : Blk w22 b22 [nilV] 53 := hB22
      refine ops_nil ?_
      refine W_seq ?_
      refine W_region ?_
      refine o_alloc rfl rfl rfl ?_; intro w23 b23 e23 hB23 hk23 hs23
      have hB23 : Blk w23 b23 (cmV Cm.zero nilV nilV) 58 := hB23
      have hz1 := hk1.size
      have hz2 := hk2.size
      have hz3 := hk3.size
      have hz20 := hk20.size
      have hz21 := hk21.size
      have hz22 := hk22.size
      have hk1323 : Keep All w13 w23 := ((hk20.new hk21 (by omega)).trans hk22).trans hk23
      refine ops_nil ?_
      refine W_seq2 ?_
      refine W2_seq ?_
      refine W_region ?_
      refine o_mvt rfl ?_
      refine op_run (r_loadA (dgR root) rfl rfl rfl (by first | rfl | (rw [binV_len]; rfl) | (rw [dgR_len]; rfl) | (rw [refR_len]; rfl) | (rw [secR_len]; rfl) | (rw [List.length_map, tagF_len]; rfl) | (rw [cmV_len]; rfl)) ((hk1323.blk' hB1' trivial).all)) rfl ?_
      refine o_mvt rfl ?_
      refine op_call rfl rfl rfl (au_each w23 n root _ rfl) ?_; rintro v25 w25 ⟨bR, bX, bC, rfl, hBR, hBX, hBC, hbz, hk25⟩
      obtain ⟨D, hD⟩ : ∃ D, D = w25.heap.size := ⟨_, rfl⟩
      have hkw25 : Keep All w w25 := (hk03.trans hk1323).trans hk25
      have hlb : bR < D ∧ bX < D ∧ bC < D ∧ b2 < D ∧ b3 < D ∧ b20 < D ∧ b22 < D ∧ b23 < D := by
        have := hBR.lt; have := hBX.lt; have := hBC.lt; have := hB23.lt; have := hk25.size; omega
      refine ops_nil ?_
      refine W_rangeO rfl rfl (au_seq xs n hxn (by omega) root hl bR bX bC (.slice a0 xs.length c0) vks) (fun k args w0 w' h => by obtain ⟨x, vb, ve, vks, _, rfl, _⟩ := h; rfl) (fun k w' => ∃ u ev vb ve gs, AuJ xs n root bR bX bC b2 b3 b20 b22 b23 (D + 3) (.slice a0 xs.length c0) w u ev vb ve gs k w') (fun e w' => e = .ret ∧ ¬ tellsA n root xs ∧ Blk w' b2 (stV 0 nilV nilV) 33 ∧ Blk w' b3 [.int .i64 3] 29 ∧ Keep All w w') ?_ ?_ ?_ ?_ ?_ ?_ ?_ ?_
      · exact fun k w' ⟨u, ev, vb, ve, gs, h⟩ => ⟨h.hR, h.hX, h.hC, hv.k h.kw⟩
      · exact fun k wa wb ⟨u, ev, vb, ve, gs, h⟩ hk => ⟨u, ev, vb, ve, gs, h.keep hk (fun z hz => by have := hkw25.size; rw [← hD]; omega)⟩
      · exact fun e wa wb ⟨he, hn, h1, h2, h3⟩ hk => ⟨he, hn, hk.blk' h1 (by rw [← hD]; omega), hk.blk' h2 (by rw [← hD]; omega), h3.outA (B := fun z => z = D + 1 ∨ z = D + 2) (hk.mono fun z _ hz => by rw [← hD]; exact ⟨fun e => hz (.inl e), fun e => hz (.inr e)⟩) (fun z hz => by have := hkw25.size; omega)⟩
      · exact fun w' hk hs => by
          have hk' : Keep All w23 w' := hk25.trans hk
          exact ⟨nilV, nilV, nilV, nilV, [], { hR := hk.blk' hBR trivial, hX := hk.blk' hBX trivial, hC := hk.blk' hBC trivial, h6 := hk'.blk' (hk1323.blk' hB2' trivial) trivial, h7 := hk'.blk' (hk1323.blk' hB3 trivial) trivial, h8 := hk'.blk' (hk23.blk' (hk22.blk' hB21 trivial) trivial) trivial, h9 := hk'.blk' (hk23.blk' hB22 trivial) trivial, h10 := hk'.blk' hB23 trivial, hu := own_nil _ _ _, hv := own_nil _ _ _, hgl := rfl, hgs := fun i p x h => (by cases h), hgd := fun p hp => (by cases hp), hul := InB.nil, hvl := InB.nil, huv := fun z hz => (by cases hz), hok := fun i hi => (by omega), kw := hkw25.trans hk }⟩
      · rintro k31 args31 w0_ w31 hI0_ hI31 hkW hN31 hE31 hs31
        obtain ⟨x, vb, ve, vks', hx, rfl, hCi, hFr⟩ := hE31
        obtain ⟨u, ev, vb0, ve0, gs, hJ0⟩ := hI0_
        obtain ⟨ab, cb, eb_, _, _⟩ := hCi.1.form
        obtain ⟨ae, ce, ee_, _, _⟩ := hCi.2.2.1.form
        rw [← hD] at hkW hs31
        have hzw := hkw25.size
        have hJ31 := hJ0.keep hkW (fun z hz => by omega)
        have hzW := hkW.size
        refine W_seq ?_
        refine W_region ?_
        refine o_alloc rfl rfl rfl ?_; intro w32 b32 e32 hB32 hk32 hs32
        refine o_storeA (cs := cmV (cOf x) vb ve) rfl rfl (by first | rfl | exact binV_one _ | exact dgR_one _ | exact refR_one _ | exact secR_one _ | exact all_c8 _ | exact cmV_one _ (by rw [eb_]; rfl) (by rw [ee_]; rfl)) (by first | rfl | (rw [binV_len]; rfl) | (rw [dgR_len]; rfl) | (rw [refR_len]; rfl) | (rw [secR_len]; rfl) | (rw [List.length_map, tagF_len]; rfl) | (rw [cmV_len]; rfl)) hB32 (by simp [cmV_len]) rfl ?_; intro w33 hB33 hk33 hs33
        have hB33 : Blk w33 b32 (cmV (cOf x) vb ve) 58 := by
          have h := hB33
          rwa [splice_all (by simp [cmV_len])] at h
        have hk3133 : Keep All w31 w33 := hk32.new hk33 (by omega)
        refine ops_nil ?_
        refine W_region ?_
        refine o_ast rfl ?_
        refine ops_nil ?_
        refine ⟨hk3133.all, ?_⟩; intro w34 hk34 hs34
        have hk3134 : Keep (fun z => z ≠ D + 1) w31 w34 := hk3133.all.trans (by rw [hD]; exact hk34)
        have hJ34 := hJ31.keep hk3134 (fun z hz => by omega)
        have hB34 := hk34.blk' hB33 (show b32 ≠ w25.heap.size + 1 by omega)
        have hz3134 := hk3134.size
        refine W_block ?_
        refine W_seq ?_
        refine W_seq ?_
        refine W_region ?_
        refine o_mvt rfl ?_
        refine op_run (r_not rfl) rfl ?_
        refine ops_nil ?_
        refine W_cond rfl (fun h35 => ?_) (fun h35 => ?_)
        · refine W_seq ?_
          refine W_region ?_
          refine op_run (r_build ((stV 0 nilV nilV)) (_) ([]) rfl rfl rfl rfl rfl (rfl)) rfl ?_
          refine o_storeA (cs := stV 0 nilV nilV) rfl rfl (by first | rfl | exact binV_one _ | exact dgR_one _ | exact refR_one _ | exact secR_one _ | exact all_c8 _ | exact cmV_one _ (by rw [eb_]; rfl) (by rw [ee_]; rfl)) (by first | rfl | (rw [binV_len]; rfl) | (rw [dgR_len]; rfl) | (rw [refR_len]; rfl) | (rw [secR_len]; rfl) | (rw [List.length_map, tagF_len]; rfl) | (rw [cmV_len]; rfl)) hJ34.h6 (by exact Nat.le_refl _) rfl ?_; intro w37 hB37 hk37 hs37
          have hB37 : Blk w37 b2 (stV 0 nilV nilV) 33 := hB37
          refine o_store (v := (.int .i64 3)) rfl rfl rfl rfl (hk37.blk' hJ34.h7 (show b3 ≠ b2 by omega)) (by exact Nat.le_refl _) rfl ?_; intro w38 hB38 hk38 hs38
          refine ops_nil ?_
          refine W_ret ?_
          exact ⟨(hk37.mono fun z _ hz e => by omega).trans (hk38.mono fun z _ hz e => by omega), rfl, fun h => (show ¬ okA n root xs k31 x by simpa using h35) (h.2.1 k31 (by omega) x hx), hk38.blk' hB37 (show b2 ≠ b3 by omega), hB38, (hJ34.kw.new hk37 (by omega)).new hk38 (by omega)⟩
        · refine W_skip ?_
          have hok : okA n root xs k31 x := by simpa using h35
          have hJd := hJ34.keep (Keep.drawn w34) (fun _ _ => trivial)
          have hBd := (Keep.drawn w34).blk' hB34 trivial
          have hRd : RowsV w34 ve vks' (cOf x).events := hCi.2.keep2 hk3134 (hFr.1.mono fun z hz => by omega) (fun y hy => (hFr.2 y hy).mono fun z hz => by omega)
          have low2 : ∀ z, z < D + 3 → some z ≠ u.ownBlock ∧ some z ≠ ev.ownBlock := fun z hz => ⟨fun e => by have := hJ34.hul z e.symm; omega, fun e => by have := hJ34.hvl z e.symm; omega⟩
          have hul0 := hJ0.hu.lt
          have hvl0 := hJ0.hv.lt
          have hpd : GIn (fun z => D + 3 ≤ z ∧ z < w34.heap.size ∧ some z ≠ u.ownBlock ∧ some z ≠ ev.ownBlock) (ve, vks') := (hRd.gin hFr.1 hFr.2).mono fun z hz => ⟨by omega, hz.2, fun e => by have := hul0 z e.symm; omega, fun e => by have := hvl0 z e.symm; omega⟩
          have hb20 : b20 < b22 := by omega
          have hb22 : b22 < b23 := by omega
          have hb32 : D + 3 ≤ b32 := by omega
          have lo8 := low2 b20 (by omega)
          have lo9 := low2 b22 (by omega)
          have lo10 := low2 b23 (by omega)
          have loc : some b32 ≠ u.ownBlock ∧ some b32 ≠ ev.ownBlock := ⟨fun e => by have := hul0 _ e.symm; omega, fun e => by have := hvl0 _ e.symm; omega⟩
          have nc8 : b32 ≠ b20 := by omega
          have nc9 : b32 ≠ b22 := by omega
          have n98 : b22 ≠ b20 := by omega
          have n89 : b20 ≠ b22 := by omega
          have n108 : b23 ≠ b20 := by omega
          have n109 : b23 ≠ b22 := by omega
          have n810 : b20 ≠ b23 := by omega
          have n910 : b22 ≠ b23 := by omega
          have hlv : ∀ v, InB (fun z => u.ownBlock = some z ∨ w34.heap.size ≤ z) v → ∀ z, v.ownBlock = some z → D + 3 ≤ z := fun v h z hz => by
            rcases h z hz with h1 | h1
            · exact hJ34.hul z h1
            · omega
          have hlw : ∀ v, InB (fun z => ev.ownBlock = some z ∨ w34.heap.size ≤ z) v → ∀ z, v.ownBlock = some z → D + 3 ≤ z := fun v h z hz => by
            rcases h z hz with h1 | h1
            · exact hJ34.hvl z h1
            · omega
          have hneq : (bR ≠ b20 ∧ bR ≠ b22 ∧ bR ≠ b23) ∧ (bX ≠ b20 ∧ bX ≠ b22 ∧ bX ≠ b23) ∧ (bC ≠ b20 ∧ bC ≠ b22 ∧ bC ≠ b23) ∧ (b2 ≠ b20 ∧ b2 ≠ b22 ∧ b2 ≠ b23) ∧ (b3 ≠ b20 ∧ b3 ≠ b22 ∧ b3 ≠ b23) := by omega
          have hltq : (bR < D + 3 ∧ bX < D + 3 ∧ bC < D + 3 ∧ b2 < D + 3 ∧ b3 < D + 3) ∧ (b20 < D + 3 ∧ b22 < D + 3 ∧ b23 < D + 3) ∧ (w.heap.size ≤ b20 ∧ w.heap.size ≤ b22 ∧ w.heap.size ≤ b23) ∧ D + 3 ≤ w34.heap.size := by omega
          have hround : ∀ we, Keep (fun z => z ≠ b20 ∧ z ≠ b22 ∧ z ≠ b23 ∧ some z ≠ u.ownBlock ∧ some z ≠ ev.ownBlock) w34 we → Keep (fun b => b = w25.heap.size ∨ b = w25.heap.size + 1 ∨ b = w25.heap.size + 2 ∨ (w0_.heap.size ≤ b ∧ b < w31.heap.size)) w34 we := fun we h => h.mono fun z _ hz => by
            rw [← hD] at hz
            refine ⟨by omega, by omega, by omega, ?_⟩
            by_cases hz3 : z < D + 3
            · exact low2 z hz3
            · exact ⟨fun e => by have := hul0 z e.symm; omega, fun e => by have := hvl0 z e.symm; omega⟩
          refine W_gateV 13 15 (fun w' => Blk w' b20 (stV n u nilV) 33 ∧ Blk w' b22 [ev] 53 ∧ Blk w' b32 (cmV (cOf x) vb ve) 58) (fun w' => Blk w' b32 (cmV (cOf x) vb ve) 58) (by kernel_rfl) (⟨⟨hJd.h8, hJd.h9, hBd⟩, hBd⟩) (fun hS => ?_)
          refine gvP_run 0 (fun w' hS' => (r_fieldAddr rfl rfl rfl rfl rfl)) rfl (by kernel_rfl) (by kernel_rfl) (by kernel_rfl) (by kernel_rfl) rfl hS ?_
          refine gvS_run 1 (fun w' hS' => (r_load rfl rfl rfl ((hS'.1.cell rfl)))) rfl (by kernel_rfl) (by kernel_rfl) (by kernel_rfl) (by kernel_rfl) (by kernel_rfl) rfl hS ?_
          refine gvP_run 2 (fun w' hS' => (r_fieldAddr rfl rfl rfl rfl rfl)) rfl (by kernel_rfl) (by kernel_rfl) (by kernel_rfl) (by kernel_rfl) rfl hS ?_
          refine gvS_run 3 (fun w' hS' => (r_loadA (dgR (cOf x).state) rfl rfl rfl (by first | rfl | (rw [binV_len]; rfl) | (rw [dgR_len]; rfl) | (rw [refR_len]; rfl) | (rw [secR_len]; rfl) | (rw [List.length_map, tagF_len]; rfl) | (rw [cmV_len]; rfl)) ((fun j y hj => by rw [Addr.add_lit]; exact hS'.2.2.cell (cmV_state _ _ _ hj))))) rfl (by kernel_rfl) (by kernel_rfl) (by kernel_rfl) (by kernel_rfl) (by kernel_rfl) rfl hS ?_
          refine gvS_run 6 (fun w' hS' => (r_load rfl rfl rfl ((hS'.2.1.cell rfl)))) rfl (by kernel_rfl) (by kernel_rfl) (by kernel_rfl) (by kernel_rfl) (by kernel_rfl) rfl hS ?_
          refine gvP_run 7 (fun w' hS' => (r_fieldAddr rfl rfl rfl rfl rfl)) rfl (by kernel_rfl) (by kernel_rfl) (by kernel_rfl) (by kernel_rfl) rfl hS ?_
          refine gvS_run 8 (fun w' hS' => (r_load rfl rfl rfl ((hS'.2.2.cell (cmV_events _ _ _))))) rfl (by kernel_rfl) (by kernel_rfl) (by kernel_rfl) (by kernel_rfl) (by kernel_rfl) rfl hS ?_
          refine gvT_run 11 (fun w' hS' => (r_loadA (cmV (cOf x) vb ve) rfl rfl rfl (by first | rfl | (rw [binV_len]; rfl) | (rw [dgR_len]; rfl) | (rw [refR_len]; rfl) | (rw [secR_len]; rfl) | (rw [List.length_map, tagF_len]; rfl) | (rw [cmV_len]; rfl)) (hS'.all))) rfl (by kernel_rfl) (by kernel_rfl) (by kernel_rfl) (by kernel_rfl) (by kernel_rfl) rfl hS ?_
          have hK0 : Keep All w34 _ := Keep.drawn w34
          refine gv_two 4 9 (by kernel_rfl) (one_ofV rfl ?_) (one_ofV rfl ?_)
          · refine o_bsA1 (dgR (cOf x).state) rfl rfl (by rw [dgR_len]; exact ti_dg) (by rw [dgR_len]; rfl) (by rw [dgR_len]; decide) rfl ?_; intro w46 b46 e46 hB46 hk46 hs46
            have hSd : Sl w46 (.slice (some ⟨b46, 0, none⟩) 1 1) 1 32 (dgR (cOf x).state) := (Own.blk (n := 1) (sz := 32) hB46 (dgR_len _) (by unfold maxLen; omega)).sl
            have hzb46 := hK0.size
            have hK0 := hK0.trans hk46
            refine ops_nil ⟨⟨⟨(hK0.blk' hJ34.h8 trivial), (hK0.blk' hJ34.h9 trivial), (hK0.blk' hB34 trivial)⟩, (hK0.blk' hB34 trivial)⟩, fun hS => ?_⟩
            refine gv_two 5 9 (by kernel_rfl) (one_ofV rfl ?_) (one_ofV rfl ?_)
            · refine o_appS (v := u) rfl rfl hSd rfl ti_dg rfl rfl (hJ34.hu.keep hK0 (fun _ _ => trivial)) (dgR_one _) (by unfold maxLen; omega) (by omega) rfl ?_; intro v48 w48 hown48 hk48 hb48
              have hOu : Own w48 28 32 v48 (k31 + 1) (rows dgR (statesA xs (k31 + 1))) := by rw [statesA_s hx, rows_snocD]; exact hown48
              have hzu := hK0.size
              have hiu : InB (fun z => u.ownBlock = some z ∨ w34.heap.size ≤ z) v48 := hb48.mono fun z hz => hz.imp id (fun h => by omega)
              have hK1 : Keep (fun z => some z ≠ u.ownBlock) w34 w48 := hK0.all.trans hk48
              refine ops_nil ⟨⟨⟨(hK1.blk' hJ34.h8 lo8.1), (hK1.blk' hJ34.h9 lo9.1), (hK1.blk' hB34 loc.1)⟩, (hK1.blk' hB34 loc.1)⟩, fun hS => ?_⟩
              refine gvP_run 12 (fun w' hS' => (r_fieldAddr rfl rfl rfl rfl rfl)) rfl (by kernel_rfl) (by kernel_rfl) (by kernel_rfl) (by kernel_rfl) rfl hS ?_
              refine gv_one 9 (by kernel_rfl) (one_ofV rfl ?_)
              refine o_bs1 (v := ve) rfl (by rw [ee_]; rfl) rfl rfl rfl rfl ?_; intro w50 b50 e50 hB50 hk50 hs50
              have hSe : Sl w50 (.slice (some ⟨b50, 0, none⟩) 1 1) 1 1 [ve] := (Own.blk (n := 1) (sz := 1) hB50 rfl (by unfold maxLen; omega)).sl
              have hzb50 := hK1.size
              have hK1 := hK1.trans hk50.all
              have hOu := hOu.keep hk50 (fun _ _ => trivial)
              refine ops_nil ⟨⟨⟨(hK1.blk' hJ34.h8 lo8.1), (hK1.blk' hJ34.h9 lo9.1), (hK1.blk' hB34 loc.1)⟩, (hK1.blk' hB34 loc.1)⟩, fun hS => ?_⟩
              refine gv_one 10 (by kernel_rfl) (one_ofV rfl ?_)
              refine o_appS (v := ev) rfl rfl hSe rfl ti_rr rfl rfl (hJ34.hv.keep hK1 (fun z hz e => hJ34.huv z e.symm hz)) (by rw [ee_]; rfl) (by unfold maxLen; omega) (by omega) rfl ?_; intro v52 w52 hown52 hk52 hb52
              have hOv : Own w52 24 1 v52 (k31 + 1) ((gs ++ [(ve, vks')]).map (·.1)) := by rw [List.map_append]; exact hown52
              have hzv := hK1.size
              have hiv : InB (fun z => ev.ownBlock = some z ∨ w34.heap.size ≤ z) v52 := hb52.mono fun z hz => hz.imp id (fun h => by omega)
              have huo : ∀ z, v48.ownBlock = some z → ev.ownBlock ≠ some z := fun z hz e => by
                rcases hiu z hz with h1 | h1
                · exact hJ34.huv z h1 e
                · have := hJ34.hv.lt z e; omega
              have hult := hOu.lt
              have huv' : ∀ z, v48.ownBlock = some z → v52.ownBlock ≠ some z := fun z hz e => by
                rcases hb52 z e with h1 | h1
                · exact huo z hz h1
                · have := hult z hz; omega
              have hOu := hOu.keep hk52 (fun z hz e => huo z hz e.symm)
              have hK2 : Keep (fun z => some z ≠ u.ownBlock ∧ some z ≠ ev.ownBlock) w34 w52 := (hK1.mono fun z _ h => h.1).trans (hk52.mono fun z _ h => h.2)
              obtain ⟨au', cu', eu', _, _⟩ := hOu.form
              obtain ⟨av', cv', ev', _, _⟩ := hOv.form
              have hB8e := hK2.blk' hJ34.h8 lo8
              have hB9e := hK2.blk' hJ34.h9 lo9
              have hB10e := hK2.blk' hJ34.h10 lo10
              have hBce := hK2.blk' hB34 loc
              refine ops_nil ⟨⟨⟨(hK2.blk' hJ34.h8 lo8), (hK2.blk' hJ34.h9 lo9), (hK2.blk' hB34 loc)⟩, (hK2.blk' hB34 loc)⟩, fun hS => ?_⟩
              refine gv_mid 13 (by kernel_rfl) (by kernel_rfl) (one_ofV rfl ?_)
              refine o_store (v := v48) rfl rfl (by rw [eu']; rfl) rfl hB8e (show 1 < 3 by decide) rfl ?_; intro w54 hB54 hk54 hs54
              have hB54 : Blk w54 b20 (stV n v48 nilV) 33 := hB54
              refine ops_nil ⟨(hk54.blk' hBce nc8), fun hS => ?_⟩
              refine gv_mid 14 (by kernel_rfl) (by kernel_rfl) (one_ofV rfl ?_)
              refine o_store (v := v52) rfl rfl (by rw [ev']; rfl) rfl (hk54.blk' hB9e n98) (show 0 < 1 by decide) rfl ?_; intro w56 hB56 hk56 hs56
              have hB56 : Blk w56 b22 [v52] 53 := hB56
              refine ops_nil ⟨(hk56.blk' (hk54.blk' hBce nc8) nc9), fun hS => ?_⟩
              refine gv_past 15 (by kernel_rfl) (by kernel_rfl) (one_ofV rfl ?_)
              refine o_storeA (cs := cmV (cOf x) vb ve) rfl rfl (by first | rfl | exact binV_one _ | exact dgR_one _ | exact refR_one _ | exact secR_one _ | exact all_c8 _ | exact cmV_one _ (by rw [eb_]; rfl) (by rw [ee_]; rfl)) (by first | rfl | (rw [binV_len]; rfl) | (rw [dgR_len]; rfl) | (rw [refR_len]; rfl) | (rw [secR_len]; rfl) | (rw [List.length_map, tagF_len]; rfl) | (rw [cmV_len]; rfl)) (hk56.blk' (hk54.blk' hB10e n108) n109) (by simp [cmV_len]) rfl ?_; intro w58 hB58 hk58 hs58
              have hB58 : Blk w58 b23 (cmV (cOf x) vb ve) 58 := by
                have h := hB58
                rwa [splice_all (by simp [cmV_len])] at h
              have hkS : Keep (fun z => z ≠ b20 ∧ z ≠ b22 ∧ z ≠ b23 ∧ some z ≠ u.ownBlock ∧ some z ≠ ev.ownBlock) w34 w58 := ((((hK2.mono fun z _ h => h.2.2.2)).trans (hk54.mono fun z _ h => h.1)).trans (hk56.mono fun z _ h => h.2.1)).trans (hk58.mono fun z _ h => h.2.2.1)
              refine ops_nil ?_
              refine gv_done (by kernel_rfl) ?_
              exact ⟨hround _ hkS, _, _, _, _, _, hJ34.next hx hok hkS (hk58.blk' (hk56.blk' hB54 n89) n810) (hk58.blk' hB56 n910) hB58 (((hOu.keep hk54 (fun z hz e => by have := hlv _ hiu z hz; omega)).keep hk56 (fun z hz e => by have := hlv _ hiu z hz; omega)).keep hk58 (fun z hz e => by have := hlv _ hiu z hz; omega)) (((hOv.keep hk54 (fun z hz e => by have := hlw _ hiv z hz; omega)).keep hk56 (fun z hz e => by have := hlw _ hiv z hz; omega)).keep hk58 (fun z hz e => by have := hlw _ hiv z hz; omega)) hRd hpd hiu hiv huv' hneq hltq⟩
            · refine o_bs1 (v := ve) rfl (by rw [ee_]; rfl) rfl rfl rfl rfl ?_; intro w60 b60 e60 hB60 hk60 hs60
              have hSe : Sl w60 (.slice (some ⟨b60, 0, none⟩) 1 1) 1 1 [ve] := (Own.blk (n := 1) (sz := 1) hB60 rfl (by unfold maxLen; omega)).sl
              have hSd := hSd.keepE hk60 fun _ _ => trivial
              have hzb60 := hK0.size
              have hK0 := hK0.trans hk60
              refine ops_nil ⟨⟨⟨(hK0.blk' hJ34.h8 trivial), (hK0.blk' hJ34.h9 trivial), (hK0.blk' hB34 trivial)⟩, (hK0.blk' hB34 trivial)⟩, fun hS => ?_⟩
              refine gv_one 5 (by kernel_rfl) (one_ofV rfl ?_)
              refine o_appS (v := u) rfl rfl hSd rfl ti_dg rfl rfl (hJ34.hu.keep hK0 (fun _ _ => trivial)) (dgR_one _) (by unfold maxLen; omega) (by omega) rfl ?_; intro v62 w62 hown62 hk62 hb62
              have hOu : Own w62 28 32 v62 (k31 + 1) (rows dgR (statesA xs (k31 + 1))) := by rw [statesA_s hx, rows_snocD]; exact hown62
              have hzu := hK0.size
              have hiu : InB (fun z => u.ownBlock = some z ∨ w34.heap.size ≤ z) v62 := hb62.mono fun z hz => hz.imp id (fun h => by omega)
              have hSe := hSe.keep hk62 (fun z hz e => by obtain rfl : b60 = z := Option.some.inj hz; have := hJ34.hu.lt _ e.symm; omega)
              have hK1 : Keep (fun z => some z ≠ u.ownBlock) w34 w62 := hK0.all.trans hk62
              refine ops_nil ⟨⟨⟨(hK1.blk' hJ34.h8 lo8.1), (hK1.blk' hJ34.h9 lo9.1), (hK1.blk' hB34 loc.1)⟩, (hK1.blk' hB34 loc.1)⟩, fun hS => ?_⟩
              refine gvP_run 12 (fun w' hS' => (r_fieldAddr rfl rfl rfl rfl rfl)) rfl (by kernel_rfl) (by kernel_rfl) (by kernel_rfl) (by kernel_rfl) rfl hS ?_
              refine gv_one 10 (by kernel_rfl) (one_ofV rfl ?_)
              refine o_appS (v := ev) rfl rfl hSe rfl ti_rr rfl rfl (hJ34.hv.keep hK1 (fun z hz e => hJ34.huv z e.symm hz)) (by rw [ee_]; rfl) (by unfold maxLen; omega) (by omega) rfl ?_; intro v64 w64 hown64 hk64 hb64
              have hOv : Own w64 24 1 v64 (k31 + 1) ((gs ++ [(ve, vks')]).map (·.1)) := by rw [List.map_append]; exact hown64
              have hzv := hK1.size
              have hiv : InB (fun z => ev.ownBlock = some z ∨ w34.heap.size ≤ z) v64 := hb64.mono fun z hz => hz.imp id (fun h => by omega)
              have huo : ∀ z, v62.ownBlock = some z → ev.ownBlock ≠ some z := fun z hz e => by
                rcases hiu z hz with h1 | h1
                · exact hJ34.huv z h1 e
                · have := hJ34.hv.lt z e; omega
              have hult := hOu.lt
              have huv' : ∀ z, v62.ownBlock = some z → v64.ownBlock ≠ some z := fun z hz e => by
                rcases hb64 z e with h1 | h1
                · exact huo z hz h1
                · have := hult z hz; omega
              have hOu := hOu.keep hk64 (fun z hz e => huo z hz e.symm)
              have hK2 : Keep (fun z => some z ≠ u.ownBlock ∧ some z ≠ ev.ownBlock) w34 w64 := (hK1.mono fun z _ h => h.1).trans (hk64.mono fun z _ h => h.2)
              obtain ⟨au', cu', eu', _, _⟩ := hOu.form
              obtain ⟨av', cv', ev', _, _⟩ := hOv.form
              have hB8e := hK2.blk' hJ34.h8 lo8
              have hB9e := hK2.blk' hJ34.h9 lo9
              have hB10e := hK2.blk' hJ34.h10 lo10
              have hBce := hK2.blk' hB34 loc
              refine ops_nil ⟨⟨⟨(hK2.blk' hJ34.h8 lo8), (hK2.blk' hJ34.h9 lo9), (hK2.blk' hB34 loc)⟩, (hK2.blk' hB34 loc)⟩, fun hS => ?_⟩
              refine gv_mid 13 (by kernel_rfl) (by kernel_rfl) (one_ofV rfl ?_)
              refine o_store (v := v62) rfl rfl (by rw [eu']; rfl) rfl hB8e (show 1 < 3 by decide) rfl ?_; intro w66 hB66 hk66 hs66
              have hB66 : Blk w66 b20 (stV n v62 nilV) 33 := hB66
              refine ops_nil ⟨(hk66.blk' hBce nc8), fun hS => ?_⟩
              refine gv_mid 14 (by kernel_rfl) (by kernel_rfl) (one_ofV rfl ?_)
              refine o_store (v := v64) rfl rfl (by rw [ev']; rfl) rfl (hk66.blk' hB9e n98) (show 0 < 1 by decide) rfl ?_; intro w68 hB68 hk68 hs68
              have hB68 : Blk w68 b22 [v64] 53 := hB68
              refine ops_nil ⟨(hk68.blk' (hk66.blk' hBce nc8) nc9), fun hS => ?_⟩
              refine gv_past 15 (by kernel_rfl) (by kernel_rfl) (one_ofV rfl ?_)
              refine o_storeA (cs := cmV (cOf x) vb ve) rfl rfl (by first | rfl | exact binV_one _ | exact dgR_one _ | exact refR_one _ | exact secR_one _ | exact all_c8 _ | exact cmV_one _ (by rw [eb_]; rfl) (by rw [ee_]; rfl)) (by first | rfl | (rw [binV_len]; rfl) | (rw [dgR_len]; rfl) | (rw [refR_len]; rfl) | (rw [secR_len]; rfl) | (rw [List.length_map, tagF_len]; rfl) | (rw [cmV_len]; rfl)) (hk68.blk' (hk66.blk' hB10e n108) n109) (by simp [cmV_len]) rfl ?_; intro w70 hB70 hk70 hs70
              have hB70 : Blk w70 b23 (cmV (cOf x) vb ve) 58 := by
                have h := hB70
                rwa [splice_all (by simp [cmV_len])] at h
              have hkS : Keep (fun z => z ≠ b20 ∧ z ≠ b22 ∧ z ≠ b23 ∧ some z ≠ u.ownBlock ∧ some z ≠ ev.ownBlock) w34 w70 := ((((hK2.mono fun z _ h => h.2.2.2)).trans (hk66.mono fun z _ h => h.1)).trans (hk68.mono fun z _ h => h.2.1)).trans (hk70.mono fun z _ h => h.2.2.1)
              refine ops_nil ?_
              refine gv_done (by kernel_rfl) ?_
              exact ⟨hround _ hkS, _, _, _, _, _, hJ34.next hx hok hkS (hk70.blk' (hk68.blk' hB66 n89) n810) (hk70.blk' hB68 n910) hB70 (((hOu.keep hk66 (fun z hz e => by have := hlv _ hiu z hz; omega)).keep hk68 (fun z hz e => by have := hlv _ hiu z hz; omega)).keep hk70 (fun z hz e => by have := hlv _ hiu z hz; omega)) (((hOv.keep hk66 (fun z hz e => by have := hlw _ hiv z hz; omega)).keep hk68 (fun z hz e => by have := hlw _ hiv z hz; omega)).keep hk70 (fun z hz e => by have := hlw _ hiv z hz; omega)) hRd hpd hiu hiv huv' hneq hltq⟩
          · refine o_bs1 (v := ve) rfl (by rw [ee_]; rfl) rfl rfl rfl rfl ?_; intro w72 b72 e72 hB72 hk72 hs72
            have hSe : Sl w72 (.slice (some ⟨b72, 0, none⟩) 1 1) 1 1 [ve] := (Own.blk (n := 1) (sz := 1) hB72 rfl (by unfold maxLen; omega)).sl
            have hzb72 := hK0.size
            have hK0 := hK0.trans hk72
            refine ops_nil ⟨⟨⟨(hK0.blk' hJ34.h8 trivial), (hK0.blk' hJ34.h9 trivial), (hK0.blk' hB34 trivial)⟩, (hK0.blk' hB34 trivial)⟩, fun hS => ?_⟩
            refine gv_one 4 (by kernel_rfl) (one_ofV rfl ?_)
            refine o_bsA1 (dgR (cOf x).state) rfl rfl (by rw [dgR_len]; exact ti_dg) (by rw [dgR_len]; rfl) (by rw [dgR_len]; decide) rfl ?_; intro w74 b74 e74 hB74 hk74 hs74
            have hSd : Sl w74 (.slice (some ⟨b74, 0, none⟩) 1 1) 1 32 (dgR (cOf x).state) := (Own.blk (n := 1) (sz := 32) hB74 (dgR_len _) (by unfold maxLen; omega)).sl
            have hSe := hSe.keepE hk74 fun _ _ => trivial
            have hzb74 := hK0.size
            have hK0 := hK0.trans hk74
            refine ops_nil ⟨⟨⟨(hK0.blk' hJ34.h8 trivial), (hK0.blk' hJ34.h9 trivial), (hK0.blk' hB34 trivial)⟩, (hK0.blk' hB34 trivial)⟩, fun hS => ?_⟩
            refine gv_one 5 (by kernel_rfl) (one_ofV rfl ?_)
            refine o_appS (v := u) rfl rfl hSd rfl ti_dg rfl rfl (hJ34.hu.keep hK0 (fun _ _ => trivial)) (dgR_one _) (by unfold maxLen; omega) (by omega) rfl ?_; intro v76 w76 hown76 hk76 hb76
            have hOu : Own w76 28 32 v76 (k31 + 1) (rows dgR (statesA xs (k31 + 1))) := by rw [statesA_s hx, rows_snocD]; exact hown76
            have hzu := hK0.size
            have hiu : InB (fun z => u.ownBlock = some z ∨ w34.heap.size ≤ z) v76 := hb76.mono fun z hz => hz.imp id (fun h => by omega)
            have hSe := hSe.keep hk76 (fun z hz e => by obtain rfl : b72 = z := Option.some.inj hz; have := hJ34.hu.lt _ e.symm; omega)
            have hK1 : Keep (fun z => some z ≠ u.ownBlock) w34 w76 := hK0.all.trans hk76
            refine ops_nil ⟨⟨⟨(hK1.blk' hJ34.h8 lo8.1), (hK1.blk' hJ34.h9 lo9.1), (hK1.blk' hB34 loc.1)⟩, (hK1.blk' hB34 loc.1)⟩, fun hS => ?_⟩
            refine gvP_run 12 (fun w' hS' => (r_fieldAddr rfl rfl rfl rfl rfl)) rfl (by kernel_rfl) (by kernel_rfl) (by kernel_rfl) (by kernel_rfl) rfl hS ?_
            refine gv_one 10 (by kernel_rfl) (one_ofV rfl ?_)
            refine o_appS (v := ev) rfl rfl hSe rfl ti_rr rfl rfl (hJ34.hv.keep hK1 (fun z hz e => hJ34.huv z e.symm hz)) (by rw [ee_]; rfl) (by unfold maxLen; omega) (by omega) rfl ?_; intro v78 w78 hown78 hk78 hb78
            have hOv : Own w78 24 1 v78 (k31 + 1) ((gs ++ [(ve, vks')]).map (·.1)) := by rw [List.map_append]; exact hown78
            have hzv := hK1.size
            have hiv : InB (fun z => ev.ownBlock = some z ∨ w34.heap.size ≤ z) v78 := hb78.mono fun z hz => hz.imp id (fun h => by omega)
            have huo : ∀ z, v76.ownBlock = some z → ev.ownBlock ≠ some z := fun z hz e => by
              rcases hiu z hz with h1 | h1
              · exact hJ34.huv z h1 e
              · have := hJ34.hv.lt z e; omega
            have hult := hOu.lt
            have huv' : ∀ z, v76.ownBlock = some z → v78.ownBlock ≠ some z := fun z hz e => by
              rcases hb78 z e with h1 | h1
              · exact huo z hz h1
              · have := hult z hz; omega
            have hOu := hOu.keep hk78 (fun z hz e => huo z hz e.symm)
            have hK2 : Keep (fun z => some z ≠ u.ownBlock ∧ some z ≠ ev.ownBlock) w34 w78 := (hK1.mono fun z _ h => h.1).trans (hk78.mono fun z _ h => h.2)
            obtain ⟨au', cu', eu', _, _⟩ := hOu.form
            obtain ⟨av', cv', ev', _, _⟩ := hOv.form
            have hB8e := hK2.blk' hJ34.h8 lo8
            have hB9e := hK2.blk' hJ34.h9 lo9
            have hB10e := hK2.blk' hJ34.h10 lo10
            have hBce := hK2.blk' hB34 loc
            refine ops_nil ⟨⟨⟨(hK2.blk' hJ34.h8 lo8), (hK2.blk' hJ34.h9 lo9), (hK2.blk' hB34 loc)⟩, (hK2.blk' hB34 loc)⟩, fun hS => ?_⟩
            refine gv_mid 13 (by kernel_rfl) (by kernel_rfl) (one_ofV rfl ?_)
            refine o_store (v := v76) rfl rfl (by rw [eu']; rfl) rfl hB8e (show 1 < 3 by decide) rfl ?_; intro w80 hB80 hk80 hs80
            have hB80 : Blk w80 b20 (stV n v76 nilV) 33 := hB80
            refine ops_nil ⟨(hk80.blk' hBce nc8), fun hS => ?_⟩
            refine gv_mid 14 (by kernel_rfl) (by kernel_rfl) (one_ofV rfl ?_)
            refine o_store (v := v78) rfl rfl (by rw [ev']; rfl) rfl (hk80.blk' hB9e n98) (show 0 < 1 by decide) rfl ?_; intro w82 hB82 hk82 hs82
            have hB82 : Blk w82 b22 [v78] 53 := hB82
            refine ops_nil ⟨(hk82.blk' (hk80.blk' hBce nc8) nc9), fun hS => ?_⟩
            refine gv_past 15 (by kernel_rfl) (by kernel_rfl) (one_ofV rfl ?_)
            refine o_storeA (cs := cmV (cOf x) vb ve) rfl rfl (by first | rfl | exact binV_one _ | exact dgR_one _ | exact refR_one _ | exact secR_one _ | exact all_c8 _ | exact cmV_one _ (by rw [eb_]; rfl) (by rw [ee_]; rfl)) (by first | rfl | (rw [binV_len]; rfl) | (rw [dgR_len]; rfl) | (rw [refR_len]; rfl) | (rw [secR_len]; rfl) | (rw [List.length_map, tagF_len]; rfl) | (rw [cmV_len]; rfl)) (hk82.blk' (hk80.blk' hB10e n108) n109) (by simp [cmV_len]) rfl ?_; intro w84 hB84 hk84 hs84
            have hB84 : Blk w84 b23 (cmV (cOf x) vb ve) 58 := by
              have h := hB84
              rwa [splice_all (by simp [cmV_len])] at h
            have hkS : Keep (fun z => z ≠ b20 ∧ z ≠ b22 ∧ z ≠ b23 ∧ some z ≠ u.ownBlock ∧ some z ≠ ev.ownBlock) w34 w84 := ((((hK2.mono fun z _ h => h.2.2.2)).trans (hk80.mono fun z _ h => h.1)).trans (hk82.mono fun z _ h => h.2.1)).trans (hk84.mono fun z _ h => h.2.2.1)
            refine ops_nil ?_
            refine gv_done (by kernel_rfl) ?_
            exact ⟨hround _ hkS, _, _, _, _, _, hJ34.next hx hok hkS (hk84.blk' (hk82.blk' hB80 n89) n810) (hk84.blk' hB82 n910) hB84 (((hOu.keep hk80 (fun z hz e => by have := hlv _ hiu z hz; omega)).keep hk82 (fun z hz e => by have := hlv _ hiu z hz; omega)).keep hk84 (fun z hz e => by have := hlv _ hiu z hz; omega)) (((hOv.keep hk80 (fun z hz e => by have := hlw _ hiv z hz; omega)).keep hk82 (fun z hz e => by have := hlw _ hiv z hz; omega)).keep hk84 (fun z hz e => by have := hlw _ hiv z hz; omega)) hRd hpd hiu hiv huv' hneq hltq⟩
      · rintro w86 hI86 hD86
        obtain ⟨u, ev, vb, ve, gs, hJ⟩ := hI86.resolve_right (fun h => by cases h.1)
        have hD86' := hD86
        rw [← hD] at hD86
        have hzw := hkw25.size
        refine W_seq ?_
        refine W_seq ?_
        refine W_region ?_
        refine op_run (r_fieldAddr rfl rfl rfl rfl rfl) rfl ?_
        refine op_run (r_loadA (refR (lastC xs xs.length).prev) rfl rfl rfl (by first | rfl | (rw [binV_len]; rfl) | (rw [dgR_len]; rfl) | (rw [refR_len]; rfl) | (rw [secR_len]; rfl) | (rw [List.length_map, tagF_len]; rfl) | (rw [cmV_len]; rfl)) ((fun j y hj => by rw [Addr.add_lit]; exact hJ.h10.cell (cmV_prev _ _ _ hj)))) rfl ?_
        refine op_run (r_build ((refR Rf.zero)) (_) ([]) rfl rfl rfl rfl rfl (by rw [refR_zero]; rfl)) rfl ?_
        refine op_run (r_neqC (p := (lastC xs xs.length).prev = Rf.zero) rfl rfl rfl rfl (by kernel_rfl) (okC_ref _) (okC_ref _) rfl (refR_inj)) rfl ?_
        refine ops_nil ?_
        refine W_cond rfl (fun h90 => ?_) (fun h90 => ?_)
        · refine W_seq ?_
          refine W_region ?_
          refine op_run (r_build ((stV 0 nilV nilV)) (_) ([]) rfl rfl rfl rfl rfl (rfl)) rfl ?_
          refine o_storeA (cs := stV 0 nilV nilV) rfl rfl (by first | rfl | exact binV_one _ | exact dgR_one _ | exact refR_one _ | exact secR_one _ | exact all_c8 _ | exact cmV_one _ (by rw [eb_]; rfl) (by rw [ee_]; rfl)) (by first | rfl | (rw [binV_len]; rfl) | (rw [dgR_len]; rfl) | (rw [refR_len]; rfl) | (rw [secR_len]; rfl) | (rw [List.length_map, tagF_len]; rfl) | (rw [cmV_len]; rfl)) hJ.h6 (by exact Nat.le_refl _) rfl ?_; intro w92 hB92 hk92 hs92
          have hB92 : Blk w92 b2 (stV 0 nilV nilV) 33 := hB92
          refine o_store (v := (.int .i64 3)) rfl rfl rfl rfl (hk92.blk' hJ.h7 (show b3 ≠ b2 by omega)) (by exact Nat.le_refl _) rfl ?_; intro w93 hB93 hk93 hs93
          refine ops_nil ?_
          refine W_ret ?_
          refine ⟨hk93.get (hk92.get hD86' (show w25.heap.size ≠ b2 by omega)) (show w25.heap.size ≠ b3 by omega), ?_⟩
          refine retAC (stV 0 nilV nilV) (.int .i64 3) rfl rfl rfl rfl rfl rfl rfl rfl (((Keep.putObj w93 w25.heap.size _).blk' (hk93.blk' hB92 (show b2 ≠ b3 by omega)) (show b2 ≠ w25.heap.size by omega)).all) (((Keep.putObj w93 w25.heap.size _).blk' hB93 (show b3 ≠ w25.heap.size by omega)).cell rfl) ?_
          exact ⟨((hJ.kw.new hk92 (by omega)).new hk93 (by omega)).new (Keep.putObj w93 w25.heap.size _) (by omega), .inl ⟨fun h => (by have h2 := h.2.2; rw [← hxn] at h2; rw [h2] at h90; simp at h90), rfl⟩⟩
        · refine W_skip ?_
          refine W_seq ?_
          refine W_region ?_
          refine op_run (r_fieldAddr rfl rfl rfl rfl rfl) rfl ?_
          have hprev : (lastC xs xs.length).prev = Rf.zero := by simpa using h90
          have hsl := statesA_len (xs := xs) (Nat.le_refl _)
          refine op_run (r_load rfl rfl rfl (hJ.h8.cell rfl)) rfl ?_
          refine op_call rfl rfl rfl (sl_RevD _ u (statesA xs xs.length) (by rw [hsl]; exact hJ.hu) (by omega)) ?_; rintro v97 w97 ⟨hO97, hk97⟩
          have hlu : ∀ z, z < D + 3 → some z ≠ u.ownBlock := fun z hz e => by have := hJ.hul z e.symm; omega
          have hlv : ∀ z, z < D + 3 → some z ≠ ev.ownBlock := fun z hz e => by have := hJ.hvl z e.symm; omega
          have hgx : ∀ p ∈ gs, ∃ x, RowsV w86 p.1 p.2 (cOf x).events := fun p hp => by
            obtain ⟨i, hi, he⟩ := List.mem_iff_getElem.1 hp
            obtain ⟨x, hx⟩ : ∃ x, xs[i]? = some x := ⟨_, List.getElem?_eq_getElem (by have := hJ.hgl; omega)⟩
            exact ⟨x, hJ.hgs i p x (by rw [List.getElem?_eq_getElem hi, he]) hx⟩
          refine ops_nil ?_
          refine W_seq ?_
          refine W_region ?_
          refine op_run (r_load rfl rfl rfl ((hk97.blk' hJ.h9 (hlu _ (by omega))).cell rfl)) rfl ?_
          refine op_call rfl rfl rfl (sl_RevR _ ev (gs.map (·.1)) (by rw [List.length_map, hJ.hgl]; exact hJ.hv.keep hk97 (fun z hz e => hJ.huv z e.symm hz)) (by rw [List.length_map, hJ.hgl]; omega) (List.all_eq_true.2 fun y hy => by obtain ⟨p, hp, rfl⟩ := List.mem_map.1 hy; obtain ⟨x, hx⟩ := hgx p hp; obtain ⟨a, c, e, _, _⟩ := hx.2.1.form; rw [e]; rfl)) ?_; rintro v99 w99 ⟨hO99, hk99⟩
          have hk8699 : Keep (fun z => some z ≠ u.ownBlock ∧ some z ≠ ev.ownBlock) w86 w99 := (hk97.mono fun z _ h => h.1).trans (hk99.mono fun z _ h => h.2)
          have hgr : Groups w99 gs.reverse := fun p hp => by
            have hp := List.mem_reverse.1 hp
            obtain ⟨x, hx⟩ := hgx p hp
            have hd := hJ.hgd p hp
            have hx9 := hx.keepN hk8699 (hd.1.mono fun z hz => hz.2.2) (fun y hy => (hd.2 y hy).mono fun z hz => hz.2.2)
            refine ⟨by rw [hx9.1]; exact hx9.2.1, List.all_eq_true.2 fun y hy => ?_⟩
            obtain ⟨i, hi, he⟩ := List.mem_iff_getElem.1 hy
            obtain ⟨z, hz⟩ : ∃ z, (cOf x).events[i]? = some z := ⟨_, List.getElem?_eq_getElem (by have := hx.1; omega)⟩
            obtain ⟨a, c, e, _, _⟩ := (hx.2.2 i y z (by rw [List.getElem?_eq_getElem hi, he]) hz).form
            rw [e]; rfl
          refine ops_nil ?_
          refine W_seq ?_
          refine W_region ?_
          have hfb := flatG_bd (M := 65536) gs.reverse fun p hp => by
            obtain ⟨x, hx⟩ := hgx p (List.mem_reverse.1 hp)
            rw [hx.1]; exact cOf_ev x
          rw [List.length_reverse, hJ.hgl] at hfb
          refine op_run (r_load rfl rfl rfl ((hk8699.blk' hJ.h9 ⟨hlu _ (by omega), hlv _ (by omega)⟩).cell rfl)) rfl ?_
          refine op_call rfl rfl rfl (sl_ConcatN _ ev gs.reverse (by rw [List.length_reverse, List.map_reverse]; have h := hO99.sl; rw [List.length_map] at h; exact h) hgr (by omega) (by rw [List.length_reverse, hJ.hgl]; omega)) ?_; rintro v101 w101 ⟨hO101, hin101, hk101⟩
          have hkE : Keep (fun z => some z ≠ u.ownBlock ∧ some z ≠ ev.ownBlock) w86 w101 := hk8699.trans hk101.all
          have low2 : ∀ z, z < D + 3 → some z ≠ u.ownBlock ∧ some z ≠ ev.ownBlock := fun z hz => ⟨hlu z hz, hlv z hz⟩
          obtain ⟨ac, cc, ec_, _, _⟩ := hO101.form
          obtain ⟨au, cu, eu_, _, _⟩ := hJ.hu.form
          refine op_run (r_fieldAddr rfl rfl rfl rfl rfl) rfl ?_
          refine o_store (v := v101) rfl rfl (by rw [ec_]; rfl) rfl (hkE.blk' hJ.h8 (low2 _ (by omega))) (show 2 < 3 by decide) rfl ?_; intro w102 hB102 hk102 hs102
          have hB102 : Blk w102 b20 (stV n u v101) 33 := hB102
          refine ops_nil ?_
          refine W_seq ?_
          refine W_region ?_
          refine op_run (r_loadA (stV n u v101) rfl rfl rfl (by first | rfl | (rw [binV_len]; rfl) | (rw [dgR_len]; rfl) | (rw [refR_len]; rfl) | (rw [secR_len]; rfl) | (rw [List.length_map, tagF_len]; rfl) | (rw [cmV_len]; rfl)) (hB102.all)) rfl ?_
          refine o_storeA (cs := stV n u v101) rfl rfl (by unfold stV; rw [eu_, ec_]; rfl) rfl (hk102.blk' (hkE.blk' hJ.h6 (low2 _ (by omega))) (show b2 ≠ b20 by omega)) (Nat.le_refl _) rfl ?_; intro w104 hB104 hk104 hs104
          have hB104 : Blk w104 b2 (stV n u v101) 33 := hB104
          refine o_store (v := (.int .i64 0)) rfl rfl rfl rfl (hk104.blk' (hk102.blk' (hkE.blk' hJ.h7 (low2 _ (by omega))) (show b3 ≠ b20 by omega)) (show b3 ≠ b2 by omega)) (by exact Nat.le_refl _) rfl ?_; intro w105 hB105 hk105 hs105
          refine ops_nil ?_
          refine W_ret ?_
          refine ⟨hk105.get (hk104.get (hk102.get (hkE.get hD86' (low2 _ (by omega))) (show w25.heap.size ≠ b20 by omega)) (show w25.heap.size ≠ b2 by omega)) (show w25.heap.size ≠ b3 by omega), ?_⟩
          refine retAC (stV n u v101) (.int .i64 0) rfl rfl rfl rfl rfl rfl rfl rfl (((Keep.putObj w105 w25.heap.size _).blk' (hk105.blk' hB104 (show b2 ≠ b3 by omega)) (show b2 ≠ w25.heap.size by omega)).all) (((Keep.putObj w105 w25.heap.size _).blk' hB105 (show b3 ≠ w25.heap.size by omega)).cell rfl) ?_
          have hk101E : Keep (fun z => z ≠ b20 ∧ z ≠ b2 ∧ z ≠ b3 ∧ z ≠ w25.heap.size) w101 _ := (((hk102.mono fun z _ h => h.1).trans (hk104.mono fun z _ h => h.2.1)).trans (hk105.mono fun z _ h => h.2.2.1)).trans ((Keep.putObj w105 w25.heap.size (.deferred none)).mono fun z _ h => h.2.2.2)
          have hz97 := hk97.size
          have hz99 := hk99.size
          have hz101 := hk101.size
          have hup : ∀ z, D + 3 ≤ z → z ≠ b20 ∧ z ≠ b2 ∧ z ≠ b3 ∧ z ≠ w25.heap.size := fun z hz => by omega
          have hOu := ((hO97.keep hk99 (fun z hz e => hJ.huv z hz e.symm)).keep hk101 (fun _ _ => trivial)).keep hk101E (fun z hz => hup z (hJ.hul z hz))
          have hl8 := hJ.h8.lt
          have hl6 := hJ.h6.lt
          have hl7 := hJ.h7.lt
          have hlD := lt_of_get hD86
          have hOe := hO101.keep hk101E (fun z hz => by have := hin101 z hz; omega)
          have hk86E := hkE.mono (A' := fun z => (some z ≠ u.ownBlock ∧ some z ≠ ev.ownBlock) ∧ D + 3 ≤ z) (fun z _ h => h.1) |>.trans (hk101E.mono fun z _ h => hup z h.2)
          have hrw : ∀ (i : Nat) (p : Value × List Value) (x : List UInt8), gs[i]? = some p → xs[i]? = some x → RowsV _ p.1 p.2 (cOf x).events := fun i p x h1 h2 => by
            have hd := hJ.hgd p (List.mem_of_getElem? h1)
            exact (hJ.hgs i p x h1 h2).keepN hk86E (hd.1.mono fun z hz => ⟨hz.2.2, hz.1⟩) (fun y hy => (hd.2 y hy).mono fun z hz => ⟨hz.2.2, hz.1⟩)
          obtain ⟨hal, hae⟩ := flat_al gs.reverse (xs.map fun x => (cOf x).events).reverse (by rw [List.length_reverse, List.length_reverse, List.length_map, hJ.hgl]) (rev_al hJ.hgl hrw)
          refine ⟨((hJ.kw.outA (B := fun z => D + 3 ≤ z) (hkE.mono fun z _ h => low2 z (by omega)) (fun z hz => by omega)).outA (B := fun z => z = b20 ∨ z = b2 ∨ z = b3 ∨ z = w25.heap.size) (hk101E.mono fun z _ h => by omega) (fun z hz => by omega)), .inr ⟨⟨⟨hxn, hr0⟩, fun i hi x hx => hJ.hok i (by omega) x hx, by rw [← hxn]; exact hprev⟩, u, v101, flatG gs.reverse, rfl, ?_, hal, ?_, hae⟩⟩
          · unfold storyS; rw [List.length_reverse]; exact hOu.sl
          · have h := hOe.sl
            rw [hal] at h; exact h
      · rintro w108 hI108 hD108
        obtain ⟨_, hn, h1, h2, h3⟩ := hI108
        refine retAC (stV 0 nilV nilV) (.int .i64 3) rfl rfl rfl rfl rfl rfl rfl rfl (((Keep.putObj _ w25.heap.size _).blk' h1 (show b2 ≠ w25.heap.size by omega)).all) (((Keep.putObj _ w25.heap.size _).blk' h2 (show b3 ≠ w25.heap.size by omega)).cell rfl) ?_
        exact ⟨h3.new (Keep.putObj _ w25.heap.size _) (by omega), .inl ⟨hn, rfl⟩⟩
      · exact fun j w1 h => by cases h.1
end Go.Proofs.YtigehkfdfecfoaaDoor.B
