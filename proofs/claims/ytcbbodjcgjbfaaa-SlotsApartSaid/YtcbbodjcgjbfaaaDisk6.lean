/-
  A disk: Read, by a range over a function.
-/
import Derived.Test.YtcbbodjcgjbfaaaDisk5
namespace Go.Proofs.Ytcbbodjcgjbfaaa.B
open Go
set_option linter.unusedVariables false
set_option maxHeartbeats 2000000
set_option maxRecDepth 100000
attribute [local irreducible] W OpsW OpsQ retP
theorem seen_none {p : Nat} : ∀ (T : List (Nat × Sec)) (L : List Sec), (∀ j (h : j < T.length), T[j].1 ≠ p) → (seen L T)[p]? = L[p]?
  | [], L, _ => rfl
  | x :: T, L, h => by
    rw [seen, seen_none T _ (fun j hj => h (j + 1) (by simp; omega)), List.getElem?_set_ne (show x.1 ≠ p from h 0 (by simp))]
theorem seen_some {p : Nat} : ∀ (T : List (Nat × Sec)) (L : List Sec) (j : Nat) (hj : j < T.length), p < L.length → T[j].1 = p → (∀ i (h : i < T.length), j < i → T[i].1 ≠ p) → (seen L T)[p]? = some T[j].2
  | [], _, j, hj, _, _, _ => absurd hj (by simp)
  | x :: T, L, 0, hj, hp, h1, h2 => by
    rw [seen, seen_none T _ (fun j hj => h2 (j + 1) (by simp; omega) (by omega))]
    have h1 : x.1 = p := h1
    rw [h1, List.getElem?_set_self hp]; rfl
  | x :: T, L, j + 1, hj, hp, h1, h2 => by
    rw [seen, seen_some T _ j (by simpa using hj) (by rw [List.length_set]; exact hp) h1 (fun i hi hji => h2 (i + 1) (by simp; omega) (by omega))]; rfl

theorem bk_make (w : World) (v : Value) (hv : one v = true) :
    Ret Try.prog 21 [v].toArray w fun r w' => ∃ b1, r = .func (.func 30) #[] #[.pointer (some ⟨b1, 0, none⟩)] ∧ b1 = w.heap.size ∧ w'.heap.size = b1 + 1 ∧ Blk w' b1 [v] 48 ∧ Keep All w w' := by
  refine enter (fn := Try.f21) (n := 4) Try.func21 rfl rfl (by simp) ?_
  refine W_seq ?_
  refine W_region ?_
  refine o_box (cs := [v]) rfl (cells_one hv) rfl ?_; intro w1 b1 e1 hB1 hk1 hs1
  refine o_asc rfl ?_
  refine ops_nil ?_
  refine W_seq ?_
  refine W_region ?_
  refine op_run (r_makeFunc) rfl ?_
  refine o_ast rfl ?_
  refine ops_nil ?_
  refine W_ret ?_
  refine ret1 (.func (.func 30) #[] #[.pointer (some ⟨b1, 0, none⟩)]) rfl ?_ ?_; rfl
  exact ⟨b1, rfl, e1, hs1, hB1, hk1⟩
/-- What Backward hands over in round k. -/
def bkE (T : List (Nat × Sec)) (k : Nat) (args : Array Value) (_ : World) : Prop := ∃ h : T.length - 1 - k < T.length, args = #[.int .i64 ((T.length - 1 - k : Nat) : Int), .agg (wrR T[T.length - 1 - k]).toArray]
def bkR (T : List (Nat × Sec)) (b1 : Nat) (v : Value) (w : World) : Prop := Blk w b1 [v] 48 ∧ Sl w v T.length 65 (rows wrR T)

theorem bk_walk (T : List (Nat × Sec)) (hTl : T.length < 1000000) (b1 : Nat) (v : Value) (l : Nat) (J : Nat → World → Prop) (Jx : World → Prop) (w : World)
    (hJR : ∀ k w, J k w → bkR T b1 v w) (hJ : ∀ k w w', J k w → Keep All w w' → J k w') (hJx : ∀ w w', Jx w → Keep All w w' → Jx w')
    (hY : ∀ k args w, J k w → k < T.length → bkE T k args w → YieldsB Try.prog l args w fun b w' => (b = true → J (k + 1) w') ∧ (b = false → Jx w')) (h0 : J 0 w) :
    Ret Try.prog 30 [.func (.yield l) #[] #[], .pointer (some ⟨b1, 0, none⟩)].toArray w fun _ w' => J T.length w' ∨ Jx w' := by
  obtain ⟨a, c, rfl, hac, hcm⟩ := (hJR _ _ h0).2.form
  obtain ⟨z, hz, hzs⟩ := ti_wr
  refine enter (fn := Try.f30) (n := 19) Try.func30 rfl rfl (by simp) ?_
  refine W_seq ?_
  refine W_region ?_
  refine op_run (r_load rfl rfl rfl ((hJR _ _ h0).1.cell rfl)) rfl ?_
  refine op_run (r_len rfl rfl rfl) rfl ?_
  refine op_run ((r_sub rfl rfl).val (congrArg (Value.int .i64) (show IntKind.i64.wrap ((T.length : Int) - 1) = (T.length : Int) - 1 from wrap_i64 (by omega) (by omega)))) rfl ?_
  refine o_ast rfl ?_
  refine ops_nil ?_
  refine W_block ?_
  refine W_loop [3] [3, 7, 8, 9, 10, 11, 12, 13, 14, 15, 16, 17, 18] (fun vs w' => ∃ k : Nat, vs = [.int .i64 ((T.length : Int) - 1 - (k : Int))] ∧ k ≤ T.length ∧ J k w') (fun vs _ => match vs with | [.int _ i] => (i + 1).toNat | _ => 0) ⟨0, congrArg (fun z : Int => [Value.int .i64 z]) (show (T.length : Int) - 1 = (T.length : Int) - 1 - ((0 : Nat) : Int) by omega), by omega, h0⟩ ?_
  rintro J0 vs w3 ⟨k, rfl, hk, hJ3⟩ -
  refine W_seq ?_
  refine W_seq ?_
  refine W_region ?_
  refine o_mvt rfl ?_
  refine op_run (r_geq rfl rfl) rfl ?_
  refine ops_nil ?_
  refine W_cond_p rfl (fun h3 => ?_) (fun h3 => ?_)
  · refine W_skip ?_
    refine W_seq ?_
    refine W_block ?_
    refine W_seq ?_
    refine W_region ?_
    refine o_mvt rfl ?_
    refine o_mvt rfl ?_
    have hkT : T.length - 1 - k < T.length := by omega
    have ek : (T.length : Int) - 1 - (k : Int) = ((T.length - 1 - k : Nat) : Int) := by omega
    obtain ⟨b9, off9, rfl, hc9⟩ := rows_at' wrR_len (hJR _ _ hJ3).2 hkT (by omega)
    refine op_run (r_load rfl rfl rfl ((hJR _ _ hJ3).1.cell rfl)) rfl ?_
    refine o_mvt rfl ?_
    refine op_run (r_idxS rfl rfl rfl hz (by omega) (by omega)) rfl ?_
    refine op_run (r_loadA (wrR T[T.length - 1 - k]) rfl rfl rfl (by rw [wrR_len]; exact hz) (by rw [ek, Int.toNat_natCast]; exact hc9)) rfl ?_
    refine op_yield rfl rfl (hY k _ w3 hJ3 (by omega) ⟨hkT, by rw [← ek]; rfl⟩) ?_; rintro b7 w7 ⟨hT7, hF7⟩
    refine op_run (r_not rfl) rfl ?_
    refine ops_nil ?_
    refine W_cond rfl (fun h8 => ?_) (fun h8 => ?_)
    · refine W_ret ?_
      refine ret0' rfl ?_
      exact .inr (hF7 (by simpa using h8))
    · refine W_skip ?_
      refine W_region ?_
      refine o_mvt rfl ?_
      refine op_run ((r_sub rfl rfl).val (congrArg (Value.int .i64) (show IntKind.i64.wrap ((T.length : Int) - 1 - (k : Int) - 1) = (T.length : Int) - 1 - ((k + 1 : Nat) : Int) from (wrap_i64 (by omega) (by omega)).trans (by omega)))) rfl ?_
      refine o_ast rfl ?_
      refine ops_nil ?_
      refine ⟨by (repeat (first | with_reducible exact offM_refl _ _ | refine offM_updc rfl ?_ | refine offM_upd rfl ?_ | refine offM_updo rfl ?_ | refine offM_updo_none ?_ | refine offM_head rfl rfl ?_)), ⟨k + 1, rfl, by omega, hT7 (by simpa using h8)⟩, ?_⟩
      show ((T.length : Int) - 1 - ((k + 1 : Nat) : Int) + 1).toNat < ((T.length : Int) - 1 - (k : Int) + 1).toNat
      omega
  · refine W_exit ?_
    refine ret0 rfl ?_
    have e : k = T.length := by omega
    subst e
    exact .inl hJ3
theorem bk_seq (T : List (Nat × Sec)) (hTl : T.length < 1000000) (b1 : Nat) (v : Value) : SeqW Try.prog 30 #[.pointer (some ⟨b1, 0, none⟩)] T.length (bkE T) (bkR T b1 v) :=
  fun l J Jx w h1 h2 h3 h4 h5 => by have h := bk_walk T hTl b1 v l J Jx w h1 h2 h3 h4 h5; simpa using h
/-- What stays while Read looks for a write. -/
structure RdI (w : World) (b g b1 b2 b3 b12 N c : Nat) (vl : Value) (ex : List Value) (L : List Sec) (T : List (Nat × Sec)) (f p : Nat) (w' : World) : Prop where
  hB : Blk w' b [.slice (some ⟨g, 0, none⟩) N c, vl, .int .i64 f] 50
  hG : Blk w' g (rows secR L ++ ex) 28
  hT : Own w' 53 65 vl T.length (rows wrR T)
  h1 : Blk w' b1 [.int .i64 p] 3
  h2 : Blk w' b2 (List.replicate 64 (c8 0)) 28
  h3 : Blk w' b3 [.int .i64 0] 31
  h12 : Blk w' b12 [vl] 48
  kw : Keep All w w'
theorem RdI.keep {w : World} {b g b1 b2 b3 b12 N c : Nat} {vl : Value} {ex : List Value} {L : List Sec} {T : List (Nat × Sec)} {f p l : Nat} {wa wb : World} (h : RdI w b g b1 b2 b3 b12 N c vl ex L T f p wa) (hk : Keep (· ≠ l) wa wb) (hb : b ≠ l ∧ g ≠ l ∧ b1 ≠ l ∧ b2 ≠ l ∧ b3 ≠ l ∧ b12 ≠ l) (hv : InB (· ≠ l) vl) (hl : w.heap.size ≤ l) : RdI w b g b1 b2 b3 b12 N c vl ex L T f p wb :=
  ⟨hk.blk' h.hB hb.1, hk.blk' h.hG hb.2.1, h.hT.keep hk hv, hk.blk' h.h1 hb.2.2.1, hk.blk' h.h2 hb.2.2.2.1, hk.blk' h.h3 hb.2.2.2.2.1, hk.blk' h.h12 hb.2.2.2.2.2, h.kw.new hk hl⟩
theorem RdI.all {w : World} {b g b1 b2 b3 b12 N c : Nat} {vl : Value} {ex : List Value} {L : List Sec} {T : List (Nat × Sec)} {f p : Nat} {wa wb : World} (h : RdI w b g b1 b2 b3 b12 N c vl ex L T f p wa) (hk : Keep All wa wb) : RdI w b g b1 b2 b3 b12 N c vl ex L T f p wb :=
  ⟨hk.blk' h.hB trivial, hk.blk' h.hG trivial, h.hT.keep hk (fun _ _ => trivial), hk.blk' h.h1 trivial, hk.blk' h.h2 trivial, hk.blk' h.h3 trivial, hk.blk' h.h12 trivial, h.kw.trans hk⟩

theorem dk_Read (w : World) (b : Nat) (A : Nat → Prop) (N : Nat) (L : List Sec) (T : List (Nat × Sec)) (f : Nat) (at_ : Int) (h : DkC w b A N L T f) (hTl : T.length < 1000000) :
    Ret Try.prog 14 [.pointer (some ⟨b, 0, none⟩), .int .i64 at_].toArray w fun r w' => ∃ (s : Sec) (e : Int), r = .tuple #[.agg (secR s).toArray, .int .i64 e] ∧
      (((0 ≤ at_ ∧ at_ < N) ∧ e = 0 ∧ (seen L T)[at_.toNat]? = some s) ∨ (¬ (0 ≤ at_ ∧ at_ < N) ∧ e = 2 ∧ s = Sec.zero)) ∧ Keep All w w' := by
  obtain ⟨z, hz, hzs⟩ := ti_wr
  refine enterM (fn := Try.f14) (n := 36) Try.func14 rfl rfl (by simp) ?_
  refine W_seq ?_
  refine W_region ?_
  refine o_box (cs := [.int .i64 at_]) rfl rfl rfl ?_; intro w1 b1 e1 hB1 hk1 hs1
  refine o_alloc ti_sec rfl rfl ?_; intro w2 b2 e2 hB2 hk2 hs2
  refine o_alloc rfl rfl rfl ?_; intro w3 b3 e3 hB3 hk3 hs3
  have hk3a : Keep All w w3 := (hk1.trans hk2).trans hk3
  have h1 := hk3.blk' (hk2.blk' hB1 trivial) trivial
  have h2 := hk3.blk' hB2 trivial
  have hD3 := h.keep hk3a (fun _ _ => trivial)
  refine ops_nil ?_
  refine W_seq ?_
  refine W_seq ?_
  refine W_region ?_
  refine o_mvt rfl ?_
  refine op_run (r_load rfl rfl rfl (h1.cell rfl)) rfl ?_
  refine op_call rfl rfl rfl (dk_there w3 b A N L T f at_ hD3) ?_; rintro v5 w5 ⟨rfl, rfl⟩
  refine o_ast rfl ?_
  refine ops_nil ?_
  refine W_seq ?_
  refine W_region ?_
  refine o_mvt rfl ?_
  refine op_run (r_neq rfl rfl) rfl ?_
  refine ops_nil ?_
  refine W_cond_p rfl (fun h6 => ?_) (fun h6 => ?_)
  · refine W_seq ?_
    refine W_region ?_
    have hout : ¬ (0 ≤ at_ ∧ at_ < N) := fun hc => h6 (by rw [if_pos hc])
    refine op_run (r_buildA (List.replicate 64 (c8 0)) (List.replicate 64 (c8 0)) ([]) rfl rfl rfl rfl rfl (rfl)) rfl ?_
    refine o_mvt rfl ?_
    refine o_storeA (cs := List.replicate 64 (c8 0)) rfl rfl (by first | rfl | exact dgR_one _ | exact refR_one _ | exact secR_one _ | exact all_c8 _) (by first | rfl | (rw [dgR_len]; rfl) | (rw [refR_len]; rfl) | (rw [secR_len]; rfl) | (rw [List.length_map, tagF_len]; rfl)) h2 (by exact Nat.le_refl _) rfl ?_; intro w8 hB8 hk8 hs8
    rw [splice_all rfl] at hB8
    refine o_store (v := .int .i64 2) rfl (by show (Value.int .i64 (if 0 ≤ at_ ∧ at_ < N then 0 else 2)) = _; rw [if_neg hout]) rfl rfl (hk8.blk' hB3 (show b3 ≠ b2 by omega)) (by exact Nat.le_refl _) rfl ?_; intro w9 hB9 hk9 hs9
    refine ops_nil ?_
    refine W_ret ?_
    refine retAC (List.replicate 64 (c8 0)) (.int .i64 2) rfl rfl rfl rfl rfl rfl rfl rfl ((hk9.blk' hB8 (show b2 ≠ b3 by omega)).all) (hB9.cell rfl) ?_
    exact ⟨Sec.zero, 2, rfl, .inr ⟨hout, rfl, rfl⟩, (hk3a.new hk8 (by omega)).new hk9 (by omega)⟩
  · refine W_skip ?_
    refine W_seq2 ?_
    refine W2_seq ?_
    refine W_region ?_
    refine o_mvt rfl ?_
    refine op_run (r_nilCheck rfl) rfl ?_
    refine op_run (r_fieldAddr rfl rfl rfl rfl rfl) rfl ?_
    have hin0 : 0 ≤ at_ ∧ at_ < N := by
      by_cases hc : 0 ≤ at_ ∧ at_ < N
      · exact hc
      · rw [if_neg hc] at h6; exact absurd h6 (by decide)
    obtain ⟨p, rfl⟩ := Int.eq_ofNat_of_zero_le hin0.1
    have hpN : p < N := by omega
    obtain ⟨g, c, ex, vl, hB, hG, hT, hin, hgb, hAb, hAg, hNc, hcm, hL, hTn, hN1, hN2, hf⟩ := hD3
    obtain ⟨a9, c9, rfl, _, _⟩ := hT.form
    refine op_run (r_load rfl rfl rfl (hB.cell rfl)) rfl ?_
    refine op_call rfl rfl rfl (bk_make w5 (.slice a9 T.length c9) rfl) ?_; rintro v12 w12 ⟨b12, rfl, hb12, hs12, hB12, hk12⟩
    have hR0 : RdI w b g b1 b2 b3 b12 N c (.slice a9 T.length c9) ex L T f p w12 := ⟨hk12.blk' hB trivial, hk12.blk' hG trivial, hT.keep hk12 (fun _ _ => trivial), hk12.blk' h1 trivial, hk12.blk' h2 trivial, hk12.blk' hB3 trivial, hB12, hk3a.trans hk12⟩
    have hlw := hk3a.size
    have hbl := hB.lt
    have hgl := hG.lt
    have hTlt := hT.lt
    refine ops_nil ?_
    refine W_range rfl rfl (bk_seq T hTl b12 (.slice a9 T.length c9)) (fun k args w' h => by obtain ⟨_, rfl⟩ := h; rfl) (fun k w' => RdI w b g b1 b2 b3 b12 N c (.slice a9 T.length c9) ex L T f p w' ∧ ∀ j (h : j < T.length), T.length - k ≤ j → T[j].1 ≠ p) (fun e w' => e = .ret ∧ ∃ j, ∃ hj : j < T.length, T[j].1 = p ∧ (∀ i (h : i < T.length), j < i → T[i].1 ≠ p) ∧ Blk w' b2 (secR T[j].2) 28 ∧ Blk w' b3 [.int .i64 0] 31 ∧ Keep All w w') ?_ ?_ ?_ ?_ ?_ ?_ ?_ ?_
    · exact fun k w' h => ⟨h.1.h12, h.1.hT.sl⟩
    · exact fun k wa wb h hk => ⟨h.1.keep hk (by omega) (fun j hj => by have := hTlt j hj; omega) (by omega), h.2⟩
    · exact fun e wa wb ⟨he, j, hj, h1, h2, h3, h4, h5⟩ hk => ⟨he, j, hj, h1, h2, hk.blk' h3 (by omega), hk.blk' h4 (by omega), h5.new hk (by omega)⟩
    · exact fun w' hk hs => ⟨hR0.all hk, fun j hj h => by omega⟩
    · rintro k18 args18 w18 hI18 hN18 hE18 hs18
      obtain ⟨hj, rfl⟩ := hE18
      obtain ⟨hR, hno⟩ := hI18
      refine W_region ?_
      refine o_alloc (zl := z.cells.toList) hz (by simp) rfl ?_; intro w19 b19 e19 hB19 hk19 hs19
      refine o_storeA (cs := wrR T[T.length - 1 - k18]) rfl rfl (wrR_one _) (by rw [wrR_len]; exact hz) hB19 (by rw [wrR_len, Array.length_toList, hzs]; exact Nat.le_refl _) rfl ?_; intro w20 hB20 hk20 hs20
      rw [splice_all (by rw [wrR_len, Array.length_toList, hzs])] at hB20
      have hkD : Keep (fun b => b = w12.heap.size ∨ b = w12.heap.size + 1) w18 w20 := hk19.all.trans (hk20.mono fun k _ hk e => by omega)
      have hR20 := (hR.all hk19).keep hk20 (by omega) (fun j hj => by have := hTlt j hj; omega) (by omega)
      refine ops_nil ?_
      refine ⟨hkD, ?_⟩; intro w21 hk21 hs21
      have hR21 := hR20.keep hk21 (by omega) (fun j hj => by have := hTlt j hj; omega) (by omega)
      have hB21 := hk21.blk' hB20 (show b19 ≠ w12.heap.size + 1 by omega)
      refine W_block ?_
      refine W_seq ?_
      refine W_region ?_
      refine op_run (r_fieldAddr rfl rfl rfl rfl rfl) rfl ?_
      refine op_run (r_load rfl rfl rfl (hB21.cell rfl)) rfl ?_
      refine op_run (r_load rfl rfl rfl (hR21.h1.cell rfl)) rfl ?_
      refine op_run (r_eql rfl rfl) rfl ?_
      refine ops_nil ?_
      refine W_cond_p rfl (fun h24 => ?_) (fun h24 => ?_)
      · refine W_seq ?_
        refine W_region ?_
        refine op_run (r_fieldAddr rfl rfl rfl rfl rfl) rfl ?_
        refine op_run (r_loadA (secR T[T.length - 1 - k18].2) rfl rfl rfl (by rw [secR_len]; rfl) (hB21.from 1 (fun j hj => by rw [Nat.add_comm]; rfl))) rfl ?_
        refine o_storeA (cs := secR T[T.length - 1 - k18].2) rfl rfl (secR_one _) (by rw [secR_len]; rfl) hR21.h2 (by rw [secR_len, List.length_replicate]; exact Nat.le_refl _) rfl ?_; intro w26 hB26 hk26 hs26
        rw [splice_all (by rw [secR_len, List.length_replicate])] at hB26
        refine o_store (v := (.int .i64 0)) rfl rfl rfl rfl (hk26.blk' hR21.h3 (show b3 ≠ b2 by omega)) (by exact Nat.le_refl _) rfl ?_; intro w27 hB27 hk27 hs27
        refine ops_nil ?_
        refine W_ret ?_
        refine ⟨(hk26.mono fun k _ hk e => by omega).trans (hk27.mono fun k _ hk e => by omega), rfl, T.length - 1 - k18, hj, by omega, fun i hi h => hno i hi (by omega), hk27.blk' hB26 (show b2 ≠ b3 by omega), hB27, (hR21.kw.new hk26 (by omega)).new hk27 (by omega)⟩
      · refine W_skip ?_
        refine ⟨Keep.refl _, hR21, fun j hj h => ?_⟩
        by_cases e : j = T.length - 1 - k18
        · subst e; omega
        · exact hno j hj (by omega)
    · rintro w30 hI30 hD30
      obtain ⟨hR30, hno30⟩ := hI30.resolve_right (fun h => by cases h.1)
      have hno30 : ∀ j (h : j < T.length), T[j].1 ≠ p := fun j hj => hno30 j hj (by omega)
      obtain ⟨s, hs⟩ : ∃ s, L[p]? = some s := ⟨L[p]'(by omega), by simp [hL, hpN]⟩
      have hslL : Sl w30 (.slice (some ⟨g, 0, none⟩) L.length c) L.length 64 (rows secR L) := lasts_sl hR30.hG rfl (by omega) hcm
      obtain ⟨bq, oq, eq, hcq⟩ := rows_at' secR_len (i := p) hslL (by omega) (by omega)
      cases eq
      have hLp : L[p]'(by omega) = s := by rw [List.getElem?_eq_getElem (by omega)] at hs; injection hs
      rw [hLp] at hcq
      refine W_seq ?_
      refine W_gate 7 (fun w' => Keep All w30 w') (by kernel_rfl) (Keep.drawn _) (fun hS => ?_)
      refine gt_mvt 0 rfl (by kernel_rfl) (by kernel_rfl) (by kernel_rfl) (by kernel_rfl) rfl hS ?_
      refine gt_run 1 (fun w' hS' => (r_nilCheck rfl)) rfl (by kernel_rfl) (by kernel_rfl) (by kernel_rfl) (by kernel_rfl) rfl hS ?_
      refine gt_run 2 (fun w' hS' => (r_fieldAddr rfl rfl rfl rfl rfl)) rfl (by kernel_rfl) (by kernel_rfl) (by kernel_rfl) (by kernel_rfl) rfl hS ?_
      refine gt_run 3 (fun w' hS' => (r_load rfl rfl rfl ((hS'.blk' hR30.hB trivial).cell rfl))) rfl (by kernel_rfl) (by kernel_rfl) (by kernel_rfl) (by kernel_rfl) rfl hS ?_
      refine gt_run 4 (fun w' hS' => (r_load rfl rfl rfl ((hS'.blk' hR30.h1 trivial).cell rfl))) rfl (by kernel_rfl) (by kernel_rfl) (by kernel_rfl) (by kernel_rfl) rfl hS ?_
      refine gt_run 5 (fun w' hS' => (r_idxS rfl rfl rfl ti_sec (by omega) (by omega))) rfl (by kernel_rfl) (by kernel_rfl) (by kernel_rfl) (by kernel_rfl) rfl hS ?_
      refine gt_run 6 (fun w' hS' => (r_loadA (secR s) rfl rfl rfl (by rw [secR_len]; rfl) (by rw [Int.toNat_natCast]; exact fun j v hv => hS'.cell (hcq j v hv) trivial))) rfl (by kernel_rfl) (by kernel_rfl) (by kernel_rfl) (by kernel_rfl) rfl hS ?_
      refine gt_past 7 (by kernel_rfl) (by kernel_rfl) (one_of rfl ?_)
      refine o_storeA (cs := secR s) rfl rfl (secR_one _) (by rw [secR_len]; rfl) (hS.blk' hR30.h2 trivial) (by rw [secR_len, List.length_replicate]; exact Nat.le_refl _) rfl ?_; intro w36 hB36 hk36 hs36
      rw [splice_all (by rw [secR_len, List.length_replicate])] at hB36
      refine ops_nil ?_
      refine gt_past 8 (by kernel_rfl) (by kernel_rfl) (one_of rfl ?_)
      refine o_store (v := (.int .i64 0)) rfl rfl rfl rfl (hk36.blk' (hS.blk' hR30.h3 trivial) (show b3 ≠ b2 by omega)) (by exact Nat.le_refl _) rfl ?_; intro w37 hB37 hk37 hs37
      refine ops_nil ?_
      refine gt_done (by kernel_rfl) ?_
      refine W_ret ?_
      refine ⟨hk37.get (hk36.get (hS.get hD30 trivial) (show w12.heap.size ≠ b2 by omega)) (show w12.heap.size ≠ b3 by omega), ?_⟩
      refine retAC (secR s) (.int .i64 0) rfl rfl rfl rfl rfl rfl rfl (by rw [secR_len]; rfl) (((Keep.putObj w37 w12.heap.size _).blk' (hk37.blk' hB36 (show b2 ≠ b3 by omega)) (show b2 ≠ w12.heap.size by omega)).all) (((Keep.putObj w37 w12.heap.size _).blk' hB37 (show b3 ≠ w12.heap.size by omega)).cell rfl) ?_
      exact ⟨s, 0, rfl, .inl ⟨hin0, rfl, by rw [Int.toNat_natCast, seen_none T L hno30]; exact hs⟩, (((hR30.kw.trans hS).new hk36 (by omega)).new hk37 (by omega)).new (Keep.putObj w37 w12.heap.size _) (by omega)⟩
    · rintro w40 hI40 hD40
      obtain ⟨_, j, hj, hjp, hjn, hb2, hb3, hkw⟩ := hI40
      refine retAC (secR T[j].2) (.int .i64 0) rfl rfl rfl rfl rfl rfl rfl (by rw [secR_len]; rfl) (((Keep.putObj w40 w12.heap.size _).blk' hb2 (show b2 ≠ w12.heap.size by omega)).all) (((Keep.putObj w40 w12.heap.size _).blk' hb3 (show b3 ≠ w12.heap.size by omega)).cell rfl) ?_
      exact ⟨T[j].2, 0, rfl, .inl ⟨hin0, rfl, by rw [Int.toNat_natCast]; exact seen_some T L j hj (by omega) hjp hjn⟩, hkw.new (Keep.putObj w40 w12.heap.size _) (by omega)⟩
    · exact fun j w1 h => by cases h.1
end Go.Proofs.Ytcbbodjcgjbfaaa.B
