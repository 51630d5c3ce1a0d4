/-
  index.Decode.
-/
import Derived.Test.YtkmciohghhffnaaIdx3
namespace Go.Proofs.Ytkmciohghhffnaa.B
open Go
set_option linter.unusedVariables false
set_option maxHeartbeats 2000000
set_option maxRecDepth 100000
attribute [local irreducible] W OpsW OpsQ retP
/-- Items ahead of others. -/
def preI (acc : List Itm) : Option (List Itm × List UInt8) → Option (List Itm × List UInt8)
  | none => none
  | some r => some (acc ++ r.1, r.2)
theorem preI_nil (o : Option (List Itm × List UInt8)) : preI [] o = o := by cases o <;> rfl
theorem itmsR_no {k : Nat} {last : Option Dig} {bs : List UInt8} (h : (itmR bs false).2.2 = true ∨ ¬ okI last (itmR bs false).1) : itmsR (k + 1) last bs = none := by
  unfold itmsR; exact if_pos h
theorem itmsR_ok {k : Nat} {last : Option Dig} {bs : List UInt8} {acc : List Itm} (h1 : (itmR bs false).2.2 = false) (h2 : okI last (itmR bs false).1) :
    preI acc (itmsR (k + 1) last bs) = preI (acc ++ [(itmR bs false).1]) (itmsR k (some (itmR bs false).1.1) (itmR bs false).2.1) := by
  conv => lhs; unfold itmsR
  simp only
  rw [if_neg (by rintro (h | h); rw [h1] at h; cases h; exact h h2)]
  cases itmsR k (some (itmR bs false).1.1) (itmR bs false).2.1 with
  | none => rfl
  | some r => show some (acc ++ (_ :: r.1), r.2) = some ((acc ++ [_]) ++ r.1, r.2); rw [List.append_assoc]; rfl
theorem idx_none {xs : List UInt8} {m : Nat} {bs2 : List UInt8} {bad2 : Bool} (hN : numR xs.length xs false = (m, bs2, bad2)) (h : bad2 = true ∨ itmsR m none bs2 = none) : idxR xs = none := by
  unfold idxR
  simp only
  rw [hN]
  show (if bad2 = true then none else _) = none
  split
  · rfl
  · rename_i hb
    rcases h with h | h
    · exact absurd h hb
    · show (match itmsR m none bs2 with | none => none | some r => _) = none
      rw [h]
theorem idx_some {xs : List UInt8} {m : Nat} {bs2 rest : List UInt8} {L : List Itm} (hN : numR xs.length xs false = (m, bs2, false)) (h : itmsR m none bs2 = some (L, rest)) : idxR xs = if rest = [] then some L else none := by
  unfold idxR
  simp only
  rw [hN]
  show (match itmsR m none bs2 with | none => none | some r => _) = _
  rw [h]
/-- The last fingerprint so far. -/
def lastO (l : List Itm) : Option Dig := l.getLast?.map (·.1)
theorem lastO_snoc (l : List Itm) (x : Itm) : lastO (l ++ [x]) = some x.1 := by unfold lastO; rw [List.getLast?_concat]; rfl
theorem mapP_snocI {α β γ : Type} (f : β → γ) (l : List (α × β)) (a : α) (b : β) : mapP f l ++ [(a, f b)] = mapP f (l ++ [(a, b)]) := by unfold mapP; rw [List.map_append]; rfl
theorem IdxW.kA {w w' : World} {mb bm : Nat} {l : List Itm} {A : Nat → Prop} (h : IdxW w mb bm l) (hk : Keep A w w') (h1 : A mb) (h2 : A bm) : IdxW w' mb bm l := ⟨hk.blk' h.m h1, h.u.keep hk h2⟩
/-- What Decode tells. -/
def DecX (w : World) (xs : List UInt8) (r : Value) (w' : World) : Prop :=
  (idxR xs = none ∧ r = .tuple #[.pointer none, .int .i64 3] ∧ Keep All w w') ∨ ∃ mb bm l, idxR xs = some l ∧ r = .tuple #[.pointer (some ⟨mb, 0, none⟩), .int .i64 0] ∧ IdxW w' mb bm l ∧ UpI l ∧ Keep All w w'
theorem ix_Decode (w : World) (v : Value) (xs : List UInt8) (hx : By w v xs) (hl : xs.length ≤ 1000000) : Ret Try.prog 9 [v].toArray w (DecX w xs) := by
  obtain ⟨N2, hN2⟩ : ∃ N, numR xs.length xs false = N := ⟨_, rfl⟩
  obtain ⟨m, bs2, bad2⟩ := N2
  have hm : m ≤ xs.length := by have := numR_le xs.length xs false; rw [hN2] at this; exact this
  obtain ⟨a0, c0, rfl, hc0, hcm0⟩ := hx.form
  refine enter (fn := Try.f9) (n := 86) Try.func9 rfl rfl (by simp) ?_
  refine W_seq ?_
  refine W_region ?_
  refine o_asc rfl ?_
  refine o_asc rfl ?_
  refine ops_nil ?_
  refine W_seq ?_
  refine W_region ?_
  refine o_mvt rfl ?_
  refine op_call rfl rfl rfl (pack_From w _ xs hx (by omega)) ?_; rintro v1 w1 ⟨ib, rfl, hib, hR1, hk1⟩
  have hibl : ib < w1.heap.size := by obtain ⟨_, hB, _⟩ := hR1; exact hB.lt
  obtain ⟨A, hA⟩ : ∃ A : Nat → Prop, (fun k => w.heap.size ≤ k ∧ k < ib) = A := ⟨_, rfl⟩
  rw [hA] at hR1
  have hAib : ∀ k, A k → w.heap.size ≤ k ∧ k < ib := fun k hk => by rw [← hA] at hk; exact hk
  have hAb : ¬ A ib := fun h => by have := hAib _ h; omega
  refine op_call rfl rfl rfl (ix_New w1) ?_; rintro v2 w2 ⟨mb, bm, rfl, hM2, hk2, hbm, hmb, hne⟩
  have hR2 := hR1.keep hk2 trivial (fun _ _ => trivial)
  have hbml := hM2.u.lt
  have hmbl := hM2.m.lt
  refine o_ast rfl ?_
  refine o_ast rfl ?_
  refine ops_nil ?_
  refine W_seq ?_
  refine W_region ?_
  refine o_alloc rfl rfl rfl ?_; intro w3 b3 e3 hB3 hk3 hs3
  have hB3' : Blk w3 b3 (dgR Dig.zero) 41 := hB3
  have hR3 := hR2.keep hk3 trivial (fun _ _ => trivial)
  refine ops_nil ?_
  refine W_seq ?_
  refine W_region ?_
  refine o_mvt rfl ?_
  refine o_mvt rfl ?_
  refine op_run (r_len rfl rfl rfl) rfl ?_
  refine op_run ((r_conv rfl rfl rfl).val (conv_len xs.length (by omega))) rfl ?_
  refine op_call rfl rfl rfl (in_Number w3 ib A xs false xs.length hAb hR3) ?_; rintro v4 w4 ⟨rfl, hR4, hk4⟩
  rw [hN2] at hR4 ⊢
  have hR4 : InC w4 ib A bs2 bad2 := hR4
  have hz1 := hk1.size
  have hz2 := hk2.size
  have hz4 := hk4.size
  have hB4 := hk4.blk' hB3' (show b3 ≠ ib by omega)
  have hM4 := (hM2.k hk3).kA hk4 (show mb ≠ ib by omega) (show bm ≠ ib by omega)
  have hkw4 : Keep All w w4 := ((hk1.trans hk2).trans hk3).new hk4 (by omega)
  refine o_ast rfl ?_
  refine ops_nil ?_
  refine W_seq ?_
  refine W_seq ?_
  refine W_region ?_
  refine o_asc rfl ?_
  refine ops_nil ?_
  refine W_block ?_
  refine W_loop [8] [2, 3, 8, 9, 10, 11, 20, 21, 22, 23, 24, 25, 26, 27, 28, 29, 30, 31, 32, 33, 34, 35, 36, 37, 38, 39, 40, 41, 42, 43, 44, 45, 46, 47, 48, 49, 50, 51, 52, 53, 54, 55, 56, 57, 58, 59, 60, 61, 62, 63, 64, 65, 66, 67, 68, 69, 70, 71, 72, 73, 74, 75, 76, 77, 78, 79, 80, 81] (fun vs w' => ∃ (i : Nat) (l : List Itm) (last : Dig) (rest : List UInt8) (bd : Bool), vs = [.int .u64 i] ∧ i ≤ m ∧ l.length = i ∧ IdxW w' mb bm l ∧ InC w' ib A rest bd ∧ Blk w' b3 (dgR last) 41 ∧ Keep All w w' ∧ w4.heap.size ≤ w'.heap.size ∧ UpI l ∧ (∀ x ∈ l, ¬ last.val < x.1.val) ∧ (∀ d, lastO l = some d → d = last) ∧ (bd = false → bad2 = false ∧ itmsR m none bs2 = preI l (itmsR (m - i) (lastO l) rest)) ∧ (bd = true → bad2 = true ∨ itmsR m none bs2 = none)) (fun vs _ => match vs with | [.int _ y] => m - y.toNat | _ => 0) ⟨0, [], Dig.zero, bs2, bad2, rfl, Nat.zero_le _, rfl, hM4, hR4, hB4, hkw4, Nat.le_refl _, List.Pairwise.nil, (fun x hx => by cases hx), (fun d hd => by cases hd), (fun e => ⟨e, by rw [preI_nil]; rfl⟩), (fun e => .inl e)⟩ ?_
  rintro J5 vs w5 ⟨i, l, last, rest, bd, rfl, hi, hli, hM5, hR5, hB5, hkw5, hz5, hup, hlst, hlo, hgo, hno⟩ -
  refine W_seq ?_
  refine W_cut [27] [20, 21, 22, 23, 24, 25, 26, 27] (fun vs w6 => vs = [.bool (decide (i < m ∧ bd = false))] ∧ w6 = w5) ?_ ?_
  · refine W_region ?_
    refine o_mvt rfl ?_
    refine o_mvt rfl ?_
    refine op_run (r_lss rfl rfl) rfl ?_
    refine o_mvt rfl ?_
    refine g_split rfl rfl rfl (fun g7 => ?_) (fun g7 => ?_)
    · refine o_mvt (g_yes rfl rfl rfl g7) ?_
      refine op_call rfl rfl (g_yes rfl rfl rfl g7) (in_Wrong w5 ib A rest bd hR5) ?_; rintro v8 w8 ⟨rfl, rfl⟩
      refine op_run (r_not rfl) (g_yes rfl rfl rfl g7) ?_
      refine o_pkTt rfl g7 rfl ?_
      refine ops_nil ?_
      exact ⟨by (repeat (first | with_reducible exact offM_refl _ _ | refine offM_updc rfl ?_ | refine offM_upd rfl ?_ | refine offM_updo rfl ?_ | refine offM_updo_none ?_ | refine offM_head rfl rfl ?_)), congrArg (fun b => [Value.bool b]) (by have g := of_decide_eq_true g7; rw [show decide (i < m ∧ bd = false) = decide (bd = false) by rw [decide_eq_decide]; exact ⟨fun h => h.2, fun h => ⟨by omega, h⟩⟩]; cases bd <;> rfl), rfl⟩
    · refine op_skip (g_no rfl rfl rfl g7) ?_
      refine op_skip (g_no rfl rfl rfl g7) ?_
      refine op_skip (g_no rfl rfl rfl g7) ?_
      refine o_pkFc rfl g7 rfl ?_
      refine ops_nil ?_
      exact ⟨by (repeat (first | with_reducible exact offM_refl _ _ | refine offM_updc rfl ?_ | refine offM_upd rfl ?_ | refine offM_updo rfl ?_ | refine offM_updo_none ?_ | refine offM_head rfl rfl ?_)), congrArg (fun b => [Value.bool b]) (by have g := of_decide_eq_false g7; symm; apply decide_eq_false; rintro ⟨h, _⟩; omega), rfl⟩
  · rintro J11 vs w11 ⟨rfl, rfl⟩ -
    refine W_cond rfl (fun h12 => ?_) (fun h12 => ?_)
    · refine W_skip ?_
      refine W_seq ?_
      refine W_block ?_
      refine W_seq ?_
      refine W_region ?_
      refine o_mvt rfl ?_
      obtain ⟨him, hbd⟩ := of_decide_eq_true h12
      subst hbd
      obtain ⟨hb2, hC⟩ := hgo rfl
      obtain ⟨k, hk⟩ : ∃ k, m - i = k + 1 := ⟨m - i - 1, by omega⟩
      rw [hk] at hC
      have hinc : IntKind.u64.wrap ((i : Int) + 1) = ((i + 1 : Nat) : Int) := by rw [wrap_u64]; omega
      refine op_call rfl rfl rfl (in_Digest w11 ib A rest false hAb (fun k hk => by have := hAib k hk; omega) hR5) ?_; rintro v13 w13 ⟨rfl, hR13, hk13⟩
      obtain ⟨D, hD⟩ : ∃ D, digR rest false = D := ⟨_, rfl⟩
      rw [hD] at hR13 ⊢
      have hz13 := hk13.size
      have hM13 := hM5.kA hk13 (show mb ≠ ib by omega) (show bm ≠ ib by omega)
      have hB13 := hk13.blk' hB5 (show b3 ≠ ib by omega)
      have hkw13 : Keep All w w13 := hkw5.new hk13 (by omega)
      refine o_alloc rfl rfl rfl ?_; intro w14 b14 e14 hB14 hk14 hs14
      have hB14' : Blk w14 b14 (List.replicate 32 (c8 0)) 41 := hB14
      refine o_storeA (cs := dgR D.1) rfl rfl (by first | rfl | exact binV_one _ | exact dgR_one _ | exact refR_one _ | exact secR_one _ | exact all_c8 _ | exact useR_one _ | exact dgR_one _) (by first | rfl | (rw [binV_len]; rfl) | (rw [dgR_len]; rfl) | (rw [refR_len]; rfl) | (rw [secR_len]; rfl) | (rw [List.length_map, tagF_len]; rfl) | (rw [dgR_len]; rfl)) hB14' (by exact Nat.le_of_eq (by simp [dgR_len])) rfl ?_; intro w15 hB15 hk15 hs15
      have hB15' : Blk w15 b14 (dgR D.1) 41 := by
        have h := hB15
        rwa [splice_all (by rw [dgR_len]; rfl)] at h
      have hk15' : Keep All w13 w15 := hk14.new hk15 (by omega)
      have hz15 := hk15'.size
      refine ops_nil ?_
      refine W_seq ?_
      refine W_region ?_
      refine o_alloc rfl rfl rfl ?_; intro w16 b16 e16 hB16 hk16 hs16
      have hB16' : Blk w16 b16 (useR ⟨0, 0, 0⟩) 79 := hB16
      have hk16' : Keep All w13 w16 := hk15'.trans hk16
      have hR16 := hR13.keep hk16' trivial (fun _ _ => trivial)
      have hl14 := hB15'.lt
      refine ops_nil ?_
      refine W_seq ?_
      refine W_region ?_
      refine o_mvt rfl ?_
      refine op_call rfl rfl rfl (in_Number w16 ib A D.2.1 D.2.2 2147483648 hAb hR16) ?_; rintro v17 w17 ⟨rfl, hR17, hk17⟩
      obtain ⟨a, ha⟩ : ∃ a, numR 2147483648 D.2.1 D.2.2 = a := ⟨_, rfl⟩
      rw [ha] at hR17 ⊢
      have ham : a.1 ≤ 2147483648 := by rw [← ha]; exact numR_le _ _ _
      refine op_run ((r_conv rfl rfl rfl).val (congrArg (Value.int .i64) (conv_i64 a.1 (by omega)))) rfl ?_
      refine op_run ((r_sub rfl rfl).val (congrArg (Value.int .i64) (show IntKind.i64.wrap (((a.1 : Nat) : Int) - 1) = ((a.1 : Nat) : Int) - 1 from wrap_i64 (by omega) (by omega)))) rfl ?_
      refine o_mvt rfl ?_
      refine op_call rfl rfl rfl (in_Number w17 ib A a.2.1 a.2.2 65535 hAb hR17) ?_; rintro v18 w18 ⟨rfl, hR18, hk18⟩
      obtain ⟨s, hs⟩ : ∃ s, numR 65535 a.2.1 a.2.2 = s := ⟨_, rfl⟩
      rw [hs] at hR18 ⊢
      have hsm : s.1 ≤ 65535 := by rw [← hs]; exact numR_le _ _ _
      refine op_run ((r_conv rfl rfl rfl).val (congrArg (Value.int .i64) (conv_i64 s.1 (by omega)))) rfl ?_
      refine o_mvt rfl ?_
      refine op_call rfl rfl rfl (in_Number w18 ib A s.2.1 s.2.2 2147483647 hAb hR18) ?_; rintro v19 w19 ⟨rfl, hR19, hk19⟩
      obtain ⟨n, hn⟩ : ∃ n, numR 2147483647 s.2.1 s.2.2 = n := ⟨_, rfl⟩
      rw [hn] at hR19 ⊢
      have hnm : n.1 ≤ 2147483647 := by rw [← hn]; exact numR_le _ _ _
      have hk1619 : Keep (· ≠ ib) w16 w19 := (hk17.trans hk18).trans hk19
      have hB19 := hk1619.blk' hB16' (show b16 ≠ ib by omega)
      refine op_run ((r_conv rfl rfl rfl).val (congrArg (Value.int .i64) (conv_i64 n.1 (by omega)))) rfl ?_
      refine op_run (r_fieldAddr rfl rfl rfl rfl rfl) rfl ?_
      refine op_run (r_fieldAddr rfl rfl rfl rfl rfl) rfl ?_
      refine o_store (v := (.int .i64 (((a.1 : Nat) : Int) - 1))) rfl rfl rfl rfl hB19 (by show 0 < 3; decide) rfl ?_; intro w20 hB20 hk20 hs20
      refine op_run (r_fieldAddr rfl rfl rfl rfl rfl) rfl ?_
      refine op_run (r_fieldAddr rfl rfl rfl rfl rfl) rfl ?_
      refine o_store (v := (.int .i64 ((s.1 : Nat) : Int))) rfl rfl rfl rfl hB20 (by show 1 < 3; decide) rfl ?_; intro w21 hB21 hk21 hs21
      refine op_run (r_fieldAddr rfl rfl rfl rfl rfl) rfl ?_
      refine o_store (v := (.int .i64 ((n.1 : Nat) : Int))) rfl rfl rfl rfl hB21 (by show 2 < 3; decide) rfl ?_; intro w22 hB22 hk22 hs22
      obtain ⟨U, hU⟩ : ∃ U : UV, (⟨((a.1 : Nat) : Int) - 1, ((s.1 : Nat) : Int), ((n.1 : Nat) : Int)⟩ : UV) = U := ⟨_, rfl⟩
      have hB22' : Blk w22 b16 (useR U) 79 := by rw [← hU]; exact hB22
      have hX : itmR rest false = ((D.1, U), n.2) := by
        unfold itmR
        simp only
        rw [hD, ha, hs, hn, hU]
      have hz16 := hk16'.size
      have hz19 := hk1619.size
      have hk1922 : Keep (· ≠ b16) w19 w22 := (hk20.trans hk21).trans hk22
      have hAb16 : ∀ k, A k → k ≠ b16 := fun k hk => by have := hAib k hk; omega
      have hR22 := hR19.keep hk1922 (show ib ≠ b16 by omega) hAb16
      have hM22 := ((hM13.k hk16').kA hk1619 (show mb ≠ ib by omega) (show bm ≠ ib by omega)).kA hk1922 (show mb ≠ b16 by omega) (show bm ≠ b16 by omega)
      have hBL22 := hk1922.blk' (hk1619.blk' (hk16'.blk' hB13 trivial) (show b3 ≠ ib by omega)) (show b3 ≠ b16 by omega)
      have hBF22 := hk1922.blk' (hk1619.blk' (hk16.blk' hB15' trivial) (show b14 ≠ ib by omega)) (show b14 ≠ b16 by omega)
      have hkw22 : Keep All w w22 := ((hkw13.trans hk16').new hk1619 (by omega)).new hk1922 (by omega)
      have hz22 := hk1922.size
      refine ops_nil ?_
      refine W_cut [11] [11, 47, 48, 49, 50, 51, 52, 53, 54, 55, 56] (fun vs w23 => vs = [.bool (decide (U.bin < 0 ∧ 0 < U.slot))] ∧ w23 = w22) ?_ ?_
      · refine W_region ?_
        refine op_run (r_fieldAddr rfl rfl rfl rfl rfl) rfl ?_
        refine op_run (r_fieldAddr rfl rfl rfl rfl rfl) rfl ?_
        refine op_run (r_load rfl rfl rfl (hB22'.cell rfl)) rfl ?_
        refine op_run (r_lss rfl rfl) rfl ?_
        refine o_mvt rfl ?_
        refine g_split rfl rfl rfl (fun g25 => ?_) (fun g25 => ?_)
        · refine op_run (r_fieldAddr rfl rfl rfl rfl rfl) (g_yes rfl rfl rfl g25) ?_
          refine op_run (r_fieldAddr rfl rfl rfl rfl rfl) (g_yes rfl rfl rfl g25) ?_
          refine op_run (r_load rfl rfl rfl (hB22'.cell rfl)) (g_yes rfl rfl rfl g25) ?_
          refine op_run (r_gtr rfl rfl) (g_yes rfl rfl rfl g25) ?_
          refine o_pkTt rfl g25 rfl ?_
          refine o_ast rfl ?_
          refine ops_nil ?_
          exact ⟨by (repeat (first | with_reducible exact offM_refl _ _ | refine offM_updc rfl ?_ | refine offM_upd rfl ?_ | refine offM_updo rfl ?_ | refine offM_updo_none ?_ | refine offM_head rfl rfl ?_)), congrArg (fun b => [Value.bool b]) (by have g := of_decide_eq_true g25; rw [decide_eq_decide]; exact ⟨fun h => ⟨g, h⟩, fun h => h.2⟩), rfl⟩
        · refine op_skip (g_no rfl rfl rfl g25) ?_
          refine op_skip (g_no rfl rfl rfl g25) ?_
          refine op_skip (g_no rfl rfl rfl g25) ?_
          refine op_skip (g_no rfl rfl rfl g25) ?_
          refine o_pkFc rfl g25 rfl ?_
          refine o_ast rfl ?_
          refine ops_nil ?_
          exact ⟨by (repeat (first | with_reducible exact offM_refl _ _ | refine offM_updc rfl ?_ | refine offM_upd rfl ?_ | refine offM_updo rfl ?_ | refine offM_updo_none ?_ | refine offM_head rfl rfl ?_)), congrArg (fun b => [Value.bool b]) (by have g := of_decide_eq_false g25; symm; apply decide_eq_false; rintro ⟨h, _⟩; exact g h), rfl⟩
      · rintro J29 vs w29 ⟨rfl, rfl⟩ -
        refine W_seq ?_
        refine W_cut [72] [57, 58, 59, 60, 61, 62, 63, 64, 65, 66, 67, 68, 69, 70, 71, 72] (fun vs w30 => vs = [.bool (decide ((U.bin < 0 ∧ 0 < U.slot) ∨ U.n = 0 ∨ (0 < i ∧ ¬ last.val < D.1.val)))] ∧ Keep All w29 w30) ?_ ?_
        · refine W_region ?_
          refine o_mvt rfl ?_
          refine o_mvt rfl ?_
          refine g_split rfl rfl rfl (fun g31 => ?_) (fun g31 => ?_)
          · refine op_run (r_fieldAddr rfl rfl rfl rfl rfl) (g_yes rfl rfl rfl g31) ?_
            refine op_run (r_load rfl rfl rfl (hB22'.cell rfl)) (g_yes rfl rfl rfl g31) ?_
            refine op_run (r_eql rfl rfl) (g_yes rfl rfl rfl g31) ?_
            refine o_pkFt rfl g31 rfl ?_
            refine o_mvt rfl ?_
            refine g_split rfl rfl rfl (fun g33 => ?_) (fun g33 => ?_)
            · refine o_mvt (g_yes rfl rfl rfl g33) ?_
              refine op_run (r_gtr rfl rfl) (g_yes rfl rfl rfl g33) ?_
              refine o_mvt (g_yes rfl rfl rfl g33) ?_
              refine g_split rfl rfl rfl (fun g34 => ?_) (fun g34 => ?_)
              · refine op_run (r_loadA (dgR last) rfl rfl rfl (by first | rfl | (rw [binV_len]; rfl) | (rw [dgR_len]; rfl) | (rw [refR_len]; rfl) | (rw [secR_len]; rfl) | (rw [List.length_map, tagF_len]; rfl) | (rw [dgR_len]; rfl)) ((Blk.all hBL22))) (g_yes rfl rfl rfl g34) ?_
                refine op_run (r_loadA (dgR D.1) rfl rfl rfl (by first | rfl | (rw [binV_len]; rfl) | (rw [dgR_len]; rfl) | (rw [refR_len]; rfl) | (rw [secR_len]; rfl) | (rw [List.length_map, tagF_len]; rfl) | (rw [dgR_len]; rfl)) ((Blk.all hBF22))) (g_yes rfl rfl rfl g34) ?_
                refine op_call rfl rfl (g_yes rfl rfl rfl g34) (ix_less w29 last D.1) ?_; rintro v37 w37 ⟨rfl, hw37⟩
                refine op_run (r_geq rfl rfl) (g_yes rfl rfl rfl g34) ?_
                refine o_pkTt rfl g34 (g_yes rfl rfl rfl g33) ?_
                refine o_pkFt rfl g33 rfl ?_
                refine ops_nil ?_
                exact ⟨by (repeat (first | with_reducible exact offM_refl _ _ | refine offM_updc rfl ?_ | refine offM_upd rfl ?_ | refine offM_updo rfl ?_ | refine offM_updo_none ?_ | refine offM_head rfl rfl ?_)), congrArg (fun b => [Value.bool b]) (by
                  have q1 : ¬ (U.bin < 0 ∧ 0 < U.slot) := by simpa using g31
                  have q2 : ¬ U.n = 0 := by simpa using g33
                  have q3 : 0 < i := by have := of_decide_eq_true g34; omega
                  rw [decide_eq_decide]
                  have h := cmp_lt last.val D.1.val
                  exact ⟨fun hh => .inr (.inr ⟨q3, fun hlt => by have := h.2 hlt; omega⟩), fun hh => by
                    rcases hh with hh | hh | hh
                    · exact absurd hh q1
                    · exact absurd hh q2
                    · exact Classical.byContradiction fun hc => hh.2 (h.1 (by omega))⟩), by rw [hw37]; exact ((Keep.alloc _ _).trans (Keep.alloc _ _)).trans ⟨rfl, rfl, rfl, Nat.le_refl _, fun _ _ _ => rfl⟩⟩
              · refine op_skip (g_no rfl rfl rfl g34) ?_
                refine op_skip (g_no rfl rfl rfl g34) ?_
                refine op_skip (g_no rfl rfl rfl g34) ?_
                refine op_skip (g_no rfl rfl rfl g34) ?_
                refine o_pkFc rfl g34 (g_yes rfl rfl rfl g33) ?_
                refine o_pkFt rfl g33 rfl ?_
                refine ops_nil ?_
                exact ⟨by (repeat (first | with_reducible exact offM_refl _ _ | refine offM_updc rfl ?_ | refine offM_upd rfl ?_ | refine offM_updo rfl ?_ | refine offM_updo_none ?_ | refine offM_head rfl rfl ?_)), congrArg (fun b => [Value.bool b]) (by
                  have q1 : ¬ (U.bin < 0 ∧ 0 < U.slot) := by simpa using g31
                  have q2 : ¬ U.n = 0 := by simpa using g33
                  have q3 : ¬ 0 < i := by have := of_decide_eq_false g34; omega
                  symm; apply decide_eq_false
                  rintro (hh | hh | hh)
                  · exact q1 hh
                  · exact q2 hh
                  · exact q3 hh.1), Keep.refl _⟩
            · refine op_skip (g_no rfl rfl rfl g33) ?_
              refine op_skip (g_no rfl rfl rfl g33) ?_
              refine op_skip (g_no rfl rfl rfl g33) ?_
              refine op_skip (g_und rfl rfl rfl) ?_
              refine op_skip (g_und rfl rfl rfl) ?_
              refine op_skip (g_und rfl rfl rfl) ?_
              refine op_skip (g_und rfl rfl rfl) ?_
              refine op_skip (g_no rfl rfl rfl g33) ?_
              refine o_pkTc rfl g33 rfl ?_
              refine ops_nil ?_
              exact ⟨by (repeat (first | with_reducible exact offM_refl _ _ | refine offM_updc rfl ?_ | refine offM_upd rfl ?_ | refine offM_updo rfl ?_ | refine offM_updo_none ?_ | refine offM_head rfl rfl ?_)), congrArg (fun b => [Value.bool b]) (by
                have q2 : U.n = 0 := by simpa using g33
                symm; exact decide_eq_true (.inr (.inl q2))), Keep.refl _⟩
          · refine op_skip (g_no rfl rfl rfl g31) ?_
            refine op_skip (g_no rfl rfl rfl g31) ?_
            refine op_skip (g_no rfl rfl rfl g31) ?_
            refine o_pkTc rfl g31 rfl ?_
            refine o_mvt rfl ?_
            refine op_skip (g_no rfl rfl rfl rfl) ?_
            refine op_skip (g_no rfl rfl rfl rfl) ?_
            refine op_skip (g_no rfl rfl rfl rfl) ?_
            refine op_skip (g_und rfl rfl rfl) ?_
            refine op_skip (g_und rfl rfl rfl) ?_
            refine op_skip (g_und rfl rfl rfl) ?_
            refine op_skip (g_und rfl rfl rfl) ?_
            refine op_skip (g_no rfl rfl rfl rfl) ?_
            refine o_pkTc rfl rfl rfl ?_
            refine ops_nil ?_
            exact ⟨by (repeat (first | with_reducible exact offM_refl _ _ | refine offM_updc rfl ?_ | refine offM_upd rfl ?_ | refine offM_updo rfl ?_ | refine offM_updo_none ?_ | refine offM_head rfl rfl ?_)), congrArg (fun b => [Value.bool b]) (by
              have q1 : U.bin < 0 ∧ 0 < U.slot := by simpa using g31
              symm; exact decide_eq_true (.inl q1)), Keep.refl _⟩
        · rintro J42 vs w42 ⟨rfl, hk42⟩ -
          refine W_cond rfl (fun h43 => ?_) (fun h43 => ?_)
          · refine W_seq ?_
            refine W_region ?_
            refine o_asc rfl ?_
            refine o_asc rfl ?_
            refine ops_nil ?_
            refine W_ret ?_
            refine ret2 (.pointer none) (.int .i64 3) rfl ?_ ?_ ?_; rfl; rfl
            have h43 := of_decide_eq_true h43
            refine .inl ⟨idx_none hN2 (.inr ?_), rfl, hkw22.trans hk42⟩
            rw [hC, itmsR_no]
            · rfl
            · rw [hX]
              refine .inr ?_
              rintro ⟨o1, o2, o3⟩
              rcases h43 with h | h | h
              · exact o2 h
              · exact o3 h
              · cases hlc : lastO l with
                | none =>
                  have : l = [] := by
                    unfold lastO at hlc
                    cases hg : l.getLast? with
                    | none => exact List.getLast?_eq_none_iff.1 hg
                    | some x => rw [hg] at hlc; cases hlc
                  rw [this] at hli
                  have := h.1
                  simp at hli
                  omega
                | some d =>
                  have e := hlo d hlc
                  subst e
                  exact h.2 (o1 d (by rw [hlc]; rfl))
          · refine W_skip ?_
            have h43 := of_decide_eq_false h43
            have hok : okI (lastO l) (D.1, U) := by
              refine ⟨fun d hd => ?_, fun h => h43 (.inl h), fun h => h43 (.inr (.inl h))⟩
              have e := hlo d hd
              subst e
              refine Classical.byContradiction fun hh => h43 (.inr (.inr ⟨?_, hh⟩))
              cases l with
              | nil => cases hd
              | cons y l => rw [← hli]; exact Nat.succ_pos _
            have hltall : ∀ x ∈ l, x.1.val < D.1.val := fun x hx => by
              have h1 := hlst x hx
              have hlt : last.val < D.1.val := by
                refine Classical.byContradiction fun hh => h43 (.inr (.inr ⟨?_, hh⟩))
                cases l with
                | nil => cases hx
                | cons y l => rw [← hli]; exact Nat.succ_pos _
              rcases List.le_iff_lt_or_eq.1 (List.not_lt.1 h1) with h2 | h2
              · exact List.lt_trans h2 hlt
              · rw [h2]; exact hlt
            have hfresh : getA (mapP useV l) D.1 = none := by
              rw [getA_look]
              cases hv : lookP l D.1 with
              | none => rfl
              | some v => exact absurd (hltall _ (lookP_mem hv)) (List.lt_irrefl _)
            have hM42 := hM22.k hk42
            have hBL42 := hk42.blk' hBL22 trivial
            have hBF42 := hk42.blk' hBF22 trivial
            have hBU42 := hk42.blk' hB22' trivial
            have hz42 := hk42.size
            refine W_gate 10 (fun w' => Keep (· ≠ bm) w42 w') (by kernel_rfl) ((Keep.drawn w42).all) (fun hS => ?_)
            refine gt_mvt 0 rfl (by kernel_rfl) (by kernel_rfl) (by kernel_rfl) (by kernel_rfl) rfl hS ?_
            refine gt_run 1 (fun w' hS' => (r_nilCheck rfl)) rfl (by kernel_rfl) (by kernel_rfl) (by kernel_rfl) (by kernel_rfl) rfl hS ?_
            refine gt_run 2 (fun w' hS' => (r_fieldAddr rfl rfl rfl rfl rfl)) rfl (by kernel_rfl) (by kernel_rfl) (by kernel_rfl) (by kernel_rfl) rfl hS ?_
            refine gt_run 3 (fun w' hS' => (r_load rfl rfl rfl (((hS'.blk' hM42.m (show mb ≠ bm by omega)).cell rfl)))) rfl (by kernel_rfl) (by kernel_rfl) (by kernel_rfl) (by kernel_rfl) rfl hS ?_
            refine gt_run 4 (fun w' hS' => (r_loadA (dgR D.1) rfl rfl rfl (by first | rfl | (rw [binV_len]; rfl) | (rw [dgR_len]; rfl) | (rw [refR_len]; rfl) | (rw [secR_len]; rfl) | (rw [List.length_map, tagF_len]; rfl) | (rw [dgR_len]; rfl)) ((Blk.all (hS'.blk' hBF42 (show b14 ≠ bm by omega)))))) rfl (by kernel_rfl) (by kernel_rfl) (by kernel_rfl) (by kernel_rfl) rfl hS ?_
            refine gt_run 5 (fun w' hS' => (r_loadA (useR U) rfl rfl rfl (by first | rfl | (rw [binV_len]; rfl) | (rw [dgR_len]; rfl) | (rw [refR_len]; rfl) | (rw [secR_len]; rfl) | (rw [List.length_map, tagF_len]; rfl) | (rw [dgR_len]; rfl)) ((Blk.all (hS'.blk' hBU42 (show b16 ≠ bm by omega)))))) rfl (by kernel_rfl) (by kernel_rfl) (by kernel_rfl) (by kernel_rfl) rfl hS ?_
            refine gt_run 6 (fun w' hS' => (r_loadA (dgR D.1) rfl rfl rfl (by first | rfl | (rw [binV_len]; rfl) | (rw [dgR_len]; rfl) | (rw [refR_len]; rfl) | (rw [secR_len]; rfl) | (rw [List.length_map, tagF_len]; rfl) | (rw [dgR_len]; rfl)) ((Blk.all (hS'.blk' hBF42 (show b14 ≠ bm by omega)))))) rfl (by kernel_rfl) (by kernel_rfl) (by kernel_rfl) (by kernel_rfl) rfl hS ?_
            refine gt_one 7 (by kernel_rfl) (one_of rfl ?_)
            refine o_mapEntryG (a := D.1) (keyOk_D) rfl rfl rfl ti_use (((hM42.k (Keep.drawn w42)).u)) (hfresh) rfl ?_; intro w50 s50 hE50 hk50 hs50
            refine ops_nil ⟨(hS.trans hk50), fun hS => ?_⟩
            refine gt_run 8 (fun w' hS' => (r_extract rfl rfl)) rfl (by kernel_rfl) (by kernel_rfl) (by kernel_rfl) (by kernel_rfl) rfl hS ?_
            refine gt_one 9 (by kernel_rfl) (one_of rfl ?_)
            refine o_entryStoreG (v := (useV U)) rfl rfl rfl (hE50) rfl ?_; intro w52 hM52 hk52 hs52
            refine ops_nil ⟨(hS.trans hk52), fun hS => ?_⟩
            refine gt_past 10 (by kernel_rfl) (by kernel_rfl) (one_of rfl ?_)
            refine o_storeA (cs := dgR D.1) rfl rfl (by first | rfl | exact binV_one _ | exact dgR_one _ | exact refR_one _ | exact secR_one _ | exact all_c8 _ | exact useR_one _ | exact dgR_one _) (by first | rfl | (rw [binV_len]; rfl) | (rw [dgR_len]; rfl) | (rw [refR_len]; rfl) | (rw [secR_len]; rfl) | (rw [List.length_map, tagF_len]; rfl) | (rw [dgR_len]; rfl)) (hS.blk' hBL42 (show b3 ≠ bm by omega)) (by exact Nat.le_of_eq (by simp [dgR_len])) rfl ?_; intro w54 hB54 hk54 hs54
            refine ops_nil ?_
            refine gt_done (by kernel_rfl) ?_
            refine W_region ?_
            refine o_mvt rfl ?_
            refine op_run (r_add rfl rfl) rfl ?_
            refine o_ast rfl ?_
            refine ops_nil ?_
            have hB54' : Blk w54 b3 (dgR D.1) 41 := by
              have h := hB54
              rwa [splice_all (by rw [dgR_len, dgR_len])] at h
            have hzS := hS.size
            have hz54 := hk54.size
            have hMm := hM52
            rw [mapP_snocI] at hMm
            have hM54 : IdxW w54 mb bm (l ++ [(D.1, U)]) := ⟨hk54.blk' (hS.blk' hM42.m (show mb ≠ bm by omega)) (show mb ≠ b3 by omega), hMm.keep hk54 (show bm ≠ b3 by omega)⟩
            have hAbm : ∀ k, A k → k ≠ bm := fun k hk => by have := hAib k hk; omega
            have hAb3 : ∀ k, A k → k ≠ b3 := fun k hk => by have := hAib k hk; omega
            have hR54 := ((hR22.keep hk42 trivial (fun _ _ => trivial)).keep hS (show ib ≠ bm by omega) hAbm).keep hk54 (show ib ≠ b3 by omega) hAb3
            refine ⟨by (repeat (first | with_reducible exact offM_refl _ _ | refine offM_updc rfl ?_ | refine offM_upd rfl ?_ | refine offM_updo rfl ?_ | refine offM_updo_none ?_ | refine offM_head rfl rfl ?_)), ⟨i + 1, l ++ [(D.1, U)], D.1, n.2.1, n.2.2, congrArg (fun z : Int => [Value.int .u64 z]) hinc, by omega, by rw [List.length_append, hli]; rfl, hM54, hR54, hB54', ?_, by omega, ?_, ?_, ?_, ?_, ?_⟩, ?_⟩
            · exact (((hkw22.trans hk42).new hS (by omega))).new hk54 (by omega)
            · unfold UpI
              rw [List.pairwise_append]
              exact ⟨hup, List.pairwise_singleton _ _, fun x hx y hy => by rw [List.mem_singleton.1 hy]; exact hltall x hx⟩
            · intro x hx
              rcases List.mem_append.1 hx with hx | hx
              · exact fun hh => List.lt_asymm hh (hltall x hx)
              · rw [List.mem_singleton.1 hx]; exact List.lt_irrefl _
            · intro d hd
              rw [lastO_snoc] at hd
              exact (Option.some.inj hd).symm
            · intro e
              refine ⟨hb2, ?_⟩
              rw [hC, show m - (i + 1) = k by omega, lastO_snoc]
              have h4 := itmsR_ok (k := k) (last := lastO l) (bs := rest) (acc := l) (by rw [hX]; exact e) (by rw [hX]; exact hok)
              rw [hX] at h4
              exact h4
            · intro e
              exact .inr (by rw [hC, itmsR_no (.inl (by rw [hX]; exact e))]; rfl)
            · show m - (IntKind.u64.wrap ((i : Int) + 1)).toNat < m - (i : Int).toNat
              rw [hinc]; omega
    · refine W_exit ?_
      refine W_seq ?_
      refine W_seq ?_
      refine W_region ?_
      refine o_mvt rfl ?_
      refine op_call rfl rfl rfl (in_Done w11 ib A rest bd hR5) ?_; rintro v56 w56 ⟨rfl, hk56⟩
      refine op_run (r_neq rfl rfl) rfl ?_
      refine ops_nil ?_
      refine W_cond_p rfl (fun h57 => ?_) (fun h57 => ?_)
      · refine W_seq ?_
        refine W_region ?_
        refine o_asc rfl ?_
        refine o_asc rfl ?_
        refine ops_nil ?_
        refine W_ret ?_
        refine ret2 (.pointer none) (.int .i64 3) rfl ?_ ?_ ?_; rfl; rfl
        refine .inl ⟨?_, rfl, hkw5.trans hk56⟩
        cases hbd : bd with
        | true => exact idx_none hN2 (hno hbd)
        | false =>
          obtain ⟨hb2, hC⟩ := hgo hbd
          have hie : i = m := by
            have := of_decide_eq_false h12
            exact Classical.byContradiction fun hh => this ⟨by omega, hbd⟩
          rw [hie, Nat.sub_self] at hC
          rw [hb2] at hN2
          rw [idx_some hN2 hC, if_neg]
          intro hr
          have hr : rest = [] := hr
          apply h57
          rw [if_neg]
          rw [hbd, hr]
          rintro (h | h)
          · cases h
          · exact absurd h (by decide)
      · refine W_skip ?_
        refine W_seq ?_
        refine W_region ?_
        refine o_mvt rfl ?_
        refine o_ast rfl ?_
        refine o_asc rfl ?_
        refine ops_nil ?_
        refine W_ret ?_
        refine ret2 (.pointer (some ⟨mb, 0, none⟩)) (.int .i64 0) rfl ?_ ?_ ?_; rfl; rfl
        have hcc : ¬ (bd = true ∨ 0 < rest.length) := fun hh => h57 (by rw [if_pos hh]; decide)
        have hbd : bd = false := by
          cases hb : bd with
          | false => rfl
          | true => exact absurd (.inl hb) hcc
        have hrest : rest = [] := by
          cases hr : rest with
          | nil => rfl
          | cons a b => rw [hr] at hcc; exact absurd (.inr (Nat.succ_pos _)) hcc
        obtain ⟨hb2, hC⟩ := hgo hbd
        have hie : i = m := by
          have := of_decide_eq_false h12
          exact Classical.byContradiction fun hh => this ⟨by omega, hbd⟩
        rw [hie, Nat.sub_self] at hC
        rw [hb2] at hN2
        refine .inr ⟨mb, bm, l, ?_, rfl, hM5.k hk56, hup, hkw5.trans hk56⟩
        rw [idx_some hN2 hC, if_pos hrest]
        show some (l ++ []) = _
        rw [List.append_nil]
end Go.Proofs.Ytkmciohghhffnaa.B
