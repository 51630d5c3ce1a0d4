/-
  sporranref01.In: what the document reads back: numbers, bytes, digests.
-/
import Derived.Test.YtkmciohghhffnaaMRef
import Derived.Test.YtkmciohghhffnaaMPack
import Derived.Test.YtkmciohghhffnaaPackCan
namespace Go.Proofs.Ytkmciohghhffnaa.B
open Go
set_option linter.unusedVariables false
set_option maxHeartbeats 2000000
set_option maxRecDepth 100000
attribute [local irreducible] W OpsW OpsQ retP
/-! ### The plain law -/
theorem numR_can' {most : Nat} {bs r : List UInt8} {v : Nat} (h : decN most 0 0 bs = some (v, r)) : ∃ y, bs = encN y ++ r ∧ v = y ∧ y < 2 ^ 64 ∧ y ≤ most := by
  obtain ⟨y, h4, h5, _, h6, h7⟩ := decN_can bs most 0 0 _ _ (by decide) h
  obtain rfl : v = y := by simpa using h5
  exact ⟨v, h4, rfl, h6, h7⟩
/-- The number that bytes tell. -/
def valN : List UInt8 → Nat
  | [] => 0
  | x :: xs => x.toNat % 128 + 128 * valN xs
theorem encN_span : ∀ y : Nat, ∃ (init : List UInt8) (z : UInt8), encN y = init ++ [z] ∧ (∀ x ∈ init, 128 ≤ x.toNat) ∧ z.toNat < 128 ∧ valN (encN y) = y := by
  intro y
  induction y using Nat.strongRecOn with
  | ind y ih =>
    by_cases h : y < 128
    · have e : y.toUInt8.toNat = y := by simp; omega
      rw [encN_last h]
      exact ⟨[], _, rfl, fun x hx => by (cases hx), by omega, by unfold valN valN; omega⟩
    · obtain ⟨init, z, h1, h2, h3, h4⟩ := ih (y / 128) (by omega)
      have e : (y % 128 + 128).toUInt8.toNat = y % 128 + 128 := by simp; omega
      rw [encN_more (by omega)]
      refine ⟨(y % 128 + 128).toUInt8 :: init, z, by rw [h1]; rfl, ?_, h3, ?_⟩
      · intro x hx
        rcases List.mem_cons.1 hx with rfl | hx
        · omega
        · exact h2 x hx
      · unfold valN; rw [h4, e]; omega
theorem span_uniq : ∀ (s t : List UInt8) (z u : UInt8) (p q : List UInt8), (∀ x ∈ s, 128 ≤ x.toNat) → z.toNat < 128 → (∀ x ∈ t, 128 ≤ x.toNat) → u.toNat < 128 → s ++ z :: p = t ++ u :: q → s = t ∧ z = u ∧ p = q
  | [], [], z, u, p, q, _, _, _, _, h => by injection h with h1 h2; exact ⟨rfl, h1, h2⟩
  | [], y :: t, z, u, p, q, _, h2, h3, _, h => by
    injection h with h1 _; have := h3 y (List.mem_cons_self ..); rw [← h1] at this; omega
  | x :: s, [], z, u, p, q, h1, _, _, h4, h => by
    injection h with h5 _; have := h1 x (List.mem_cons_self ..); rw [h5] at this; omega
  | x :: s, y :: t, z, u, p, q, h1, h2, h3, h4, h => by
    injection h with h5 h6
    obtain ⟨rfl, rfl, rfl⟩ := span_uniq s t z u p q (fun w hw => h1 w (List.mem_cons_of_mem _ hw)) h2 (fun w hw => h3 w (List.mem_cons_of_mem _ hw)) h4 h6
    exact ⟨by rw [h5], rfl, rfl⟩
/-- Nothing is read where none of the first bytes, ten at most, is the last of a number. -/
theorem numR_long {most : Nat} {bs : List UInt8} {bad : Bool} (h : ∀ j, j < 10 → j < bs.length → 128 ≤ (bs.getD j 0).toNat) : numR most bs bad = (0, [], true) := by
  apply numR_none
  cases hd : decN most 0 0 bs with
  | none => rfl
  | some p =>
    obtain ⟨v, r⟩ := p
    obtain ⟨y, hy, _, h64, _⟩ := numR_can' hd
    obtain ⟨init, z, h1, h2, h3, _⟩ := encN_span y
    have hl := encN_len10 h64
    rw [h1, List.length_append] at hl
    have hg : bs.getD init.length 0 = z := by
      rw [hy, h1, List.append_assoc, List.getD_eq_getElem?_getD, List.getElem?_append_right (Nat.le_refl _), Nat.sub_self]; rfl
    have := h init.length (by simp only [List.length_cons, List.length_nil] at hl; omega) (by rw [hy, h1]; simp only [List.length_append, List.length_cons, List.length_nil]; omega)
    rw [hg] at this; omega
/-- What is read is what stands up to the first byte below 128, if that is the number's. -/
theorem numR_seg {most : Nat} {seg tail : List UInt8} {z : UInt8} (hs : ∀ x ∈ seg, 128 ≤ x.toNat) (hz : z.toNat < 128) (bad : Bool) :
    numR most (seg ++ z :: tail) bad = if encN (valN (seg ++ [z]) % 2 ^ 64) = seg ++ [z] ∧ valN (seg ++ [z]) % 2 ^ 64 ≤ most then (valN (seg ++ [z]) % 2 ^ 64, tail, bad) else (0, [], true) := by
  split
  · rename_i h
    have e : seg ++ z :: tail = encN (valN (seg ++ [z]) % 2 ^ 64) ++ tail := by rw [h.1]; simp
    rw [e]
    exact numR_some (dec_enc _ most tail (Nat.mod_lt _ (by decide)) h.2)
  · rename_i h
    apply numR_none
    cases hd : decN most 0 0 (seg ++ z :: tail) with
    | none => rfl
    | some p =>
      exfalso
      obtain ⟨v, r⟩ := p
      obtain ⟨y, hy, _, h64, hm⟩ := numR_can' hd
      obtain ⟨init, u, h1, h2, h3, h4⟩ := encN_span y
      rw [h1, List.append_assoc] at hy
      obtain ⟨rfl, rfl, rfl⟩ := span_uniq _ _ _ _ _ _ hs hz h2 h3 hy
      rw [h1] at h4
      apply h
      rw [h4, Nat.mod_eq_of_lt h64]
      exact ⟨h1, hm⟩
/-! ### The In -/
theorem By.keepE {C : Nat → Prop} {w w' : World} {v : Value} {bs : List UInt8} (h : By w v bs) (hk : Keep C w w') (hC : bs ≠ [] → InB C v) : By w' v bs := by
  cases bs with
  | nil =>
    obtain ⟨x0, c, rfl, h5, h6, h7, h8, h9⟩ := h
    exact ⟨x0, c, rfl, h5, h6, h7, h8, fun x hx i u hu => by cases hu⟩
  | cons y ys => exact h.keep hk (hC (by simp))
theorem By.ltE {w : World} {v : Value} {bs : List UInt8} (h : By w v bs) : bs ≠ [] → InB (· < w.heap.size) v := by
  intro hne b hb
  obtain ⟨x0, c, rfl, h5, h6, h7, h8, h9⟩ := h
  cases x0 with
  | none => cases hb
  | some x =>
    obtain rfl : x.block = b := Option.some.inj hb
    cases bs with
    | nil => exact absurd rfl hne
    | cons y ys => exact World.block_lt_of_cell? w ⟨x.block, x.off + 0, none⟩ (h9 x rfl 0 (c8 y) rfl).2
def RIn (w : World) (b : Nat) (A : Nat → Prop) (rest : List UInt8) (bad : Bool) : Prop :=
  ∃ (vb : Value) (bs : List UInt8) (at_ : Nat), Blk w b [vb, .int .i64 at_, .bool bad] 87 ∧ By w vb bs ∧ (bs ≠ [] → InB A vb) ∧ at_ ≤ bs.length ∧ bs.length ≤ 2 ^ 46 ∧ rest = if bad = true then [] else bs.drop at_
theorem RIn.keep {w w' : World} {b : Nat} {A C : Nat → Prop} {rest : List UInt8} {bad : Bool} (h : RIn w b A rest bad) (hk : Keep C w w') (hb : C b) (hA : ∀ k, A k → C k) : RIn w' b A rest bad := by
  obtain ⟨vb, bs, a, h1, h2, h3, h4⟩ := h
  exact ⟨vb, bs, a, hk.blk' h1 hb, h2.keepE hk (fun h => (h3 h).mono hA), h3, h4⟩
theorem RIn.keep' {w w' : World} {b : Nat} {A C : Nat → Prop} {rest : List UInt8} {bad : Bool} (h : RIn w b A rest bad) (hk : Keep C w w') (hb : C b) (hA : ∀ k, k < w.heap.size → A k → C k) : RIn w' b A rest bad := by
  obtain ⟨vb, bs, a, h1, h2, h3, h4⟩ := h
  exact ⟨vb, bs, a, hk.blk' h1 hb, h2.keepE hk (fun h z hz => hA z (h2.ltE h z hz) (h3 h z hz)), h3, h4⟩
theorem RIn.k {w w' : World} {b : Nat} {A : Nat → Prop} {rest : List UInt8} {bad : Bool} (h : RIn w b A rest bad) (hk : Keep All w w') : RIn w' b A rest bad := h.keep hk trivial (fun _ _ => trivial)
theorem RIn.new {w : World} {b : Nat} {A : Nat → Prop} {vb : Value} {bs : List UInt8} (h : Blk w b [vb, .int .i64 0, .bool false] 87) (hv : By w vb bs) (hA : bs ≠ [] → InB A vb) (hl : bs.length ≤ 2 ^ 46) : RIn w b A bs false :=
  ⟨vb, bs, 0, h, hv, hA, Nat.zero_le _, hl, by simp⟩
theorem RIn.lt {w : World} {b : Nat} {A : Nat → Prop} {rest : List UInt8} {bad : Bool} (h : RIn w b A rest bad) : b < w.heap.size := by
  obtain ⟨_, _, _, h1, _⟩ := h; exact h1.lt
theorem RIn.off {w w' : World} {b : Nat} {A : Nat → Prop} {rest : List UInt8} {bad : Bool} (h : RIn w b A rest bad) {b' : Nat} (hk : Keep (· ≠ b') w w') (hb : b ≠ b') (hA : ¬ A b') : RIn w' b A rest bad :=
  h.keep hk hb (fun k hk e => hA (e ▸ hk))
theorem getD_lt {l : List UInt8} {i : Nat} (h : i < l.length) : l.getD i 0 = l[i] := by simp [List.getD_eq_getElem?_getD, h]
theorem valN_step {l : List UInt8} {n k : Nat} (hk : k < n + 1) (hn : n < l.length) : (l.drop (n + 1 - (k + 1))).take (k + 1) = l.getD (n - k) 0 :: (l.drop (n + 1 - k)).take k := by
  have h1 : n - k < l.length := by omega
  rw [show n + 1 - (k + 1) = n - k by omega, List.drop_eq_getElem_cons h1, List.take_succ_cons, getD_lt h1, show n - k + 1 = n + 1 - k by omega]
theorem rn_Number (w : World) (b : Nat) (A : Nat → Prop) (rest : List UInt8) (bad : Bool) (most : Nat) (hAb : ¬ A b) (h : RIn w b A rest bad) :
    Ret Try.prog 40 [.pointer (some ⟨b, 0, none⟩), .int .u64 most].toArray w fun r w' =>
      r = .int .u64 (numR most rest bad).1 ∧ RIn w' b A (numR most rest bad).2.1 (numR most rest bad).2.2 ∧ Keep (· ≠ b) w w' := by
  obtain ⟨vb, bs, at_, hB, hx, hIA, hat, h46, hrest⟩ := h
  have hxl := hx.len_le
  obtain ⟨a, c, rfl, hc, hcm⟩ := hx.form
  have hne : bs ≠ [] → InB (· ≠ b) (.slice a bs.length c) := fun h => (hIA h).mono fun k hk e => hAb (e ▸ hk)
  refine enter (fn := Try.f40) (n := 107) Try.func40 rfl rfl (by simp) ?_
  refine W_seq ?_
  refine W_region ?_
  refine o_asc rfl ?_
  refine ops_nil ?_
  refine W_seq ?_
  refine W_region ?_
  refine o_mvt rfl ?_
  refine op_run (r_nilCheck rfl) rfl ?_
  refine op_run (r_fieldAddr rfl rfl rfl rfl rfl) rfl ?_
  refine op_run (r_load rfl rfl rfl (hB.cell rfl)) rfl ?_
  refine o_ast rfl ?_
  refine ops_nil ?_
  refine W_seq ?_
  refine W_block ?_
  refine W_loop [5] [5, 12, 13, 14, 15, 16, 17, 18, 19, 20, 21, 22, 23, 24, 25, 26, 27, 28, 29, 30] (fun vs w' => ∃ n : Nat, vs = [.int .i64 n] ∧ at_ ≤ n ∧ n ≤ bs.length ∧ (∀ j, at_ ≤ j → j < n → 128 ≤ (bs.getD j 0).toNat) ∧ w' = w) (fun vs _ => match vs with | [.int _ y] => bs.length - y.toNat | _ => 0) ⟨at_, rfl, Nat.le_refl _, hat, fun j h1 h2 => absurd h1 (by omega), rfl⟩ ?_
  rintro J2 vs w2 ⟨n, rfl, hn1, hn2, hge, rfl⟩ -
  refine W_seq ?_
  refine W_cut [28] [12, 13, 14, 15, 16, 17, 18, 19, 20, 21, 22, 23, 24, 25, 26, 27, 28] (fun vs w3 => vs = [.bool (decide (n < bs.length ∧ 128 ≤ (bs.getD n 0).toNat))] ∧ w3 = w2) ?_ ?_
  · refine W_region ?_
    refine o_mvt rfl ?_
    refine o_mvt rfl ?_
    refine op_run (r_nilCheck rfl) rfl ?_
    refine op_run (r_fieldAddr rfl rfl rfl rfl rfl) rfl ?_
    refine op_run (r_load rfl rfl rfl (hB.cell rfl)) rfl ?_
    refine op_run (r_len rfl rfl rfl) rfl ?_
    refine op_run (r_lss rfl rfl) rfl ?_
    refine o_mvt rfl ?_
    refine g_split rfl rfl rfl (fun g5 => ?_) (fun g5 => ?_)
    · refine o_mvt (g_yes rfl rfl rfl g5) ?_
      refine op_run (r_nilCheck rfl) (g_yes rfl rfl rfl g5) ?_
      refine op_run (r_fieldAddr rfl rfl rfl rfl rfl) (g_yes rfl rfl rfl g5) ?_
      have k5 := of_decide_eq_true g5
      have hnl : n < bs.length := by omega
      obtain ⟨b0, off0, c0, e0, _, _, hcell⟩ := hx.at (by omega)
      cases e0
      refine op_run (r_load rfl rfl rfl (hB.cell rfl)) (g_yes rfl rfl rfl g5) ?_
      refine o_mvt (g_yes rfl rfl rfl g5) ?_
      refine op_run (r_idxS1 rfl rfl rfl rfl (by omega) (by omega)) (g_yes rfl rfl rfl g5) ?_
      refine op_run (r_load rfl rfl rfl (hcell n _ (get_c8 hnl))) (g_yes rfl rfl rfl g5) ?_
      refine op_run (r_geq rfl rfl) (g_yes rfl rfl rfl g5) ?_
      refine o_pkTt rfl g5 rfl ?_
      refine ops_nil ?_
      exact ⟨by (repeat (first | with_reducible exact offM_refl _ _ | refine offM_updc rfl ?_ | refine offM_upd rfl ?_ | refine offM_updo rfl ?_ | refine offM_updo_none ?_ | refine offM_head rfl rfl ?_)), congrArg (fun b => [Value.bool b]) (by rw [decide_eq_decide, getD_lt hnl]; omega), rfl⟩
    · refine op_skip (g_no rfl rfl rfl g5) ?_
      refine op_skip (g_no rfl rfl rfl g5) ?_
      refine op_skip (g_no rfl rfl rfl g5) ?_
      refine op_skip (g_no rfl rfl rfl g5) ?_
      refine op_skip (g_no rfl rfl rfl g5) ?_
      refine op_skip (g_no rfl rfl rfl g5) ?_
      refine op_skip (g_no rfl rfl rfl g5) ?_
      refine op_skip (g_no rfl rfl rfl g5) ?_
      refine o_pkFc rfl g5 rfl ?_
      refine ops_nil ?_
      exact ⟨by (repeat (first | with_reducible exact offM_refl _ _ | refine offM_updc rfl ?_ | refine offM_upd rfl ?_ | refine offM_updo rfl ?_ | refine offM_updo_none ?_ | refine offM_head rfl rfl ?_)), congrArg (fun b => [Value.bool b]) (by have k5 := of_decide_eq_false g5; symm; exact decide_eq_false fun h => k5 (by omega)), rfl⟩
  · rintro J11 vs w11 ⟨rfl, rfl⟩ -
    refine W_cond_p rfl (fun h12 => ?_) (fun h12 => ?_)
    · refine W_skip ?_
      refine W_block ?_
      refine W_region ?_
      refine o_mvt rfl ?_
      refine op_run (r_add rfl rfl) rfl ?_
      refine o_ast rfl ?_
      refine ops_nil ?_
      have hinc := inc64' n (by omega)
      refine ⟨by (repeat (first | with_reducible exact offM_refl _ _ | refine offM_updc rfl ?_ | refine offM_upd rfl ?_ | refine offM_updo rfl ?_ | refine offM_updo_none ?_ | refine offM_head rfl rfl ?_)), ⟨n + 1, congrArg (fun z : Int => [Value.int .i64 z]) hinc, by omega, by omega, fun j h1 h2 => ?_, rfl⟩, ?_⟩
      · by_cases hj : j = n
        · subst hj; exact h12.2
        · exact hge j h1 (by omega)
      · show bs.length - (IntKind.i64.wrap ((n : Int) + 1)).toNat < bs.length - (n : Int).toNat
        rw [hinc]; omega
    · refine W_exit ?_
      refine W_seq ?_
      refine W_cut [52] [31, 32, 33, 34, 35, 36, 37, 38, 39, 40, 41, 42, 43, 44, 45, 46, 47, 48, 49, 50, 51, 52] (fun vs w14 => vs = [.bool (decide (bad = true ∨ bs.length ≤ n ∨ 9 < n - at_))] ∧ w14 = w11) ?_ ?_
      · refine W_region ?_
        refine o_mvt rfl ?_
        refine op_run (r_nilCheck rfl) rfl ?_
        refine op_run (r_fieldAddr rfl rfl rfl rfl rfl) rfl ?_
        refine op_run (r_load rfl rfl rfl (hB.cell rfl)) rfl ?_
        refine o_mvt rfl ?_
        refine g_split rfl rfl rfl (fun g16 => ?_) (fun g16 => ?_)
        · refine o_mvt (g_yes rfl rfl rfl g16) ?_
          refine o_mvt (g_yes rfl rfl rfl g16) ?_
          refine op_run (r_nilCheck rfl) (g_yes rfl rfl rfl g16) ?_
          refine op_run (r_fieldAddr rfl rfl rfl rfl rfl) (g_yes rfl rfl rfl g16) ?_
          refine op_run (r_load rfl rfl rfl (hB.cell rfl)) (g_yes rfl rfl rfl g16) ?_
          refine op_run (r_len rfl rfl rfl) (g_yes rfl rfl rfl g16) ?_
          refine op_run (r_geq rfl rfl) (g_yes rfl rfl rfl g16) ?_
          refine o_pkFt rfl g16 rfl ?_
          refine o_mvt rfl ?_
          refine g_split rfl rfl rfl (fun g18 => ?_) (fun g18 => ?_)
          · refine o_mvt (g_yes rfl rfl rfl g18) ?_
            refine o_mvt (g_yes rfl rfl rfl g18) ?_
            refine op_run (r_nilCheck rfl) (g_yes rfl rfl rfl g18) ?_
            refine op_run (r_fieldAddr rfl rfl rfl rfl rfl) (g_yes rfl rfl rfl g18) ?_
            refine op_run (r_load rfl rfl rfl (hB.cell rfl)) (g_yes rfl rfl rfl g18) ?_
            refine op_run ((r_sub rfl rfl).val (congrArg (Value.int .i64) (show IntKind.i64.wrap ((n : Int) - (at_ : Int)) = ((n - at_ : Nat) : Int) from (wrap_i64 (by omega) (by omega)).trans (by omega)))) (g_yes rfl rfl rfl g18) ?_
            refine op_run (r_gtr rfl rfl) (g_yes rfl rfl rfl g18) ?_
            refine o_pkFt rfl g18 rfl ?_
            refine ops_nil ?_
            exact ⟨by (repeat (first | with_reducible exact offM_refl _ _ | refine offM_updc rfl ?_ | refine offM_upd rfl ?_ | refine offM_updo rfl ?_ | refine offM_updo_none ?_ | refine offM_head rfl rfl ?_)), congrArg (fun b => [Value.bool b]) (by
              have k18 := of_decide_eq_false g18
              rw [decide_eq_decide, g16]
              constructor
              · intro h; exact .inr (.inr (by omega))
              · rintro (h | h | h)
                · cases h
                · omega
                · omega), rfl⟩
          · refine op_skip (g_no rfl rfl rfl g18) ?_
            refine op_skip (g_no rfl rfl rfl g18) ?_
            refine op_skip (g_no rfl rfl rfl g18) ?_
            refine op_skip (g_no rfl rfl rfl g18) ?_
            refine op_skip (g_no rfl rfl rfl g18) ?_
            refine op_skip (g_no rfl rfl rfl g18) ?_
            refine op_skip (g_no rfl rfl rfl g18) ?_
            refine o_pkTc rfl g18 rfl ?_
            refine ops_nil ?_
            exact ⟨by (repeat (first | with_reducible exact offM_refl _ _ | refine offM_updc rfl ?_ | refine offM_upd rfl ?_ | refine offM_updo rfl ?_ | refine offM_updo_none ?_ | refine offM_head rfl rfl ?_)), congrArg (fun b => [Value.bool b]) (by have k18 := of_decide_eq_true g18; symm; exact decide_eq_true (.inr (.inl (by omega)))), rfl⟩
        · refine op_skip (g_no rfl rfl rfl g16) ?_
          refine op_skip (g_no rfl rfl rfl g16) ?_
          refine op_skip (g_no rfl rfl rfl g16) ?_
          refine op_skip (g_no rfl rfl rfl g16) ?_
          refine op_skip (g_no rfl rfl rfl g16) ?_
          refine op_skip (g_no rfl rfl rfl g16) ?_
          refine op_skip (g_no rfl rfl rfl g16) ?_
          refine o_pkTc rfl g16 rfl ?_
          refine o_mvt rfl ?_
          refine op_skip (g_no rfl rfl rfl rfl) ?_
          refine op_skip (g_no rfl rfl rfl rfl) ?_
          refine op_skip (g_no rfl rfl rfl rfl) ?_
          refine op_skip (g_no rfl rfl rfl rfl) ?_
          refine op_skip (g_no rfl rfl rfl rfl) ?_
          refine op_skip (g_no rfl rfl rfl rfl) ?_
          refine op_skip (g_no rfl rfl rfl rfl) ?_
          refine o_pkTc rfl rfl rfl ?_
          refine ops_nil ?_
          exact ⟨by (repeat (first | with_reducible exact offM_refl _ _ | refine offM_updc rfl ?_ | refine offM_upd rfl ?_ | refine offM_updo rfl ?_ | refine offM_updo_none ?_ | refine offM_head rfl rfl ?_)), congrArg (fun b => [Value.bool b]) (by symm; exact decide_eq_true (.inl g16)), rfl⟩
      · rintro J23 vs w23 ⟨rfl, rfl⟩ -
        refine W_cond_p rfl (fun h24 => ?_) (fun h24 => ?_)
        · refine W_seq ?_
          refine W_region ?_
          refine o_mvt rfl ?_
          refine op_run (r_nilCheck rfl) rfl ?_
          refine op_run (r_fieldAddr rfl rfl rfl rfl rfl) rfl ?_
          refine o_store (v := .bool true) rfl rfl rfl rfl hB (by exact Nat.lt_of_sub_eq_succ rfl) rfl ?_; intro w25 hB25 hk25 hs25
          have hB25 : Blk w25 b [.slice a bs.length c, .int .i64 at_, .bool true] 87 := hB25
          refine ops_nil ?_
          refine W_seq ?_
          refine W_region ?_
          refine o_asc rfl ?_
          refine ops_nil ?_
          refine W_ret ?_
          refine ret1 (.int .u64 0) rfl ?_ ?_; rfl
          have hnr : numR most rest bad = (0, [], true) := by
            rcases h24 with h | h
            · rw [hrest, if_pos h]; exact numR_none rfl
            · cases bad with
              | true => rw [hrest, if_pos rfl]; exact numR_none rfl
              | false =>
                rw [hrest, if_neg (by simp)]
                refine numR_long fun j hj1 hj2 => ?_
                rw [List.length_drop] at hj2
                have := hge (at_ + j) (by omega) (by omega)
                rwa [List.getD_eq_getElem?_getD, List.getElem?_drop, ← List.getD_eq_getElem?_getD]
          rw [hnr]
          exact ⟨rfl, ⟨_, bs, at_, hB25, By.keepE (bs := bs) hx hk25 hne, hIA, hat, h46, rfl⟩, hk25⟩
        · refine W_skip ?_
          refine W_seq ?_
          refine W_region ?_
          refine o_asc rfl ?_
          refine ops_nil ?_
          refine W_seq ?_
          refine W_seq ?_
          refine W_region ?_
          refine o_mvt rfl ?_
          refine o_ast rfl ?_
          refine ops_nil ?_
          refine W_block ?_
          obtain rfl : bad = false := by cases bad with
            | true => exact absurd (.inl rfl) h24
            | false => rfl
          have hnl : n < bs.length := by omega
          have hlast : (bs.getD n 0).toNat < 128 := by omega
          refine W_loop [6, 7] [6, 7, 57, 58, 59, 60, 61, 62, 63, 64, 65, 66, 67, 68, 69, 70, 71, 72, 73, 74, 75, 76] (fun vs w' => ∃ (k v : Nat) (i : Int), vs = [.int .u64 v, .int .i64 i] ∧ i = (n : Int) - k ∧ v = valN ((bs.drop (n + 1 - k)).take k) % 2 ^ 64 ∧ k ≤ n + 1 - at_ ∧ w' = w23) (fun vs _ => match vs with | [_, .int _ y] => (y + 1).toNat | _ => 0) ⟨0, 0, _, rfl, by omega, by rw [List.take_zero]; rfl, by omega, rfl⟩ ?_
          rintro J27 vs w27 ⟨k, v, i, rfl, hi, hv, hkn, rfl⟩ -
          refine W_seq ?_
          refine W_seq ?_
          refine W_region ?_
          refine o_mvt rfl ?_
          refine o_mvt rfl ?_
          refine op_run (r_nilCheck rfl) rfl ?_
          refine op_run (r_fieldAddr rfl rfl rfl rfl rfl) rfl ?_
          refine op_run (r_load rfl rfl rfl (hB.cell rfl)) rfl ?_
          refine op_run (r_geq rfl rfl) rfl ?_
          refine ops_nil ?_
          refine W_cond_p rfl (fun h29 => ?_) (fun h29 => ?_)
          · refine W_skip ?_
            refine W_seq ?_
            refine W_block ?_
            refine W_region ?_
            refine o_mvt rfl ?_
            refine op_run ((r_mul rfl rfl).val (congrArg (Value.int .u64) (show IntKind.u64.wrap ((v : Int) * 128) = ((v * 128 % 2 ^ 64 : Nat) : Int) from by rw [wrap_u64]; omega))) rfl ?_
            refine o_mvt rfl ?_
            refine op_run (r_nilCheck rfl) rfl ?_
            refine op_run (r_fieldAddr rfl rfl rfl rfl rfl) rfl ?_
            obtain rfl : i = ((n - k : Nat) : Int) := by omega
            have hj : n - k < bs.length := by omega
            obtain ⟨b0, off0, c0, e0, _, _, hcell⟩ := hx.at (by omega)
            cases e0
            have hv64 : v < 2 ^ 64 := by rw [hv]; exact Nat.mod_lt _ (by decide)
            refine op_run (r_load rfl rfl rfl (hB.cell rfl)) rfl ?_
            refine o_mvt rfl ?_
            refine op_run (r_idxS1 rfl rfl rfl rfl (by omega) (by omega)) rfl ?_
            refine op_run (r_load rfl rfl rfl (hcell (n - k) _ (get_c8 hj))) rfl ?_
            refine op_run (r_rem rfl rfl (by decide)) rfl ?_
            refine op_run ((r_conv rfl rfl rfl).val (congrArg (Value.int .u64) (show IntKind.u64.wrap (((bs[n - k].toNat : Nat) : Int).tmod 128) = ((bs[n - k].toNat % 128 : Nat) : Int) from by rw [wrap_u64, Int.tmod_eq_emod_of_nonneg (by omega)]; omega))) rfl ?_
            refine op_run ((r_add rfl rfl).val (congrArg (Value.int .u64) (show IntKind.u64.wrap (((v * 128 % 2 ^ 64 : Nat) : Int) + ((bs[n - k].toNat % 128 : Nat) : Int)) = (((v * 128 + bs[n - k].toNat % 128) % 2 ^ 64 : Nat) : Int) from by rw [wrap_u64]; omega))) rfl ?_
            refine o_ast rfl ?_
            refine ops_nil ?_
            refine W_region ?_
            refine o_mvt rfl ?_
            refine op_run ((r_sub rfl rfl).val (congrArg (Value.int .i64) (show IntKind.i64.wrap (((n - k : Nat) : Int) - 1) = ((n - k : Nat) : Int) - 1 from wrap_i64 (by omega) (by omega)))) rfl ?_
            refine o_ast rfl ?_
            refine ops_nil ?_
            refine ⟨by (repeat (first | with_reducible exact offM_refl _ _ | refine offM_updc rfl ?_ | refine offM_upd rfl ?_ | refine offM_updo rfl ?_ | refine offM_updo_none ?_ | refine offM_head rfl rfl ?_)), ⟨k + 1, _, _, rfl, by omega, ?_, by omega, rfl⟩, ?_⟩
            · rw [valN_step (by omega) hnl, getD_lt hj]
              unfold valN
              rw [hv]
              generalize valN ((bs.drop (n + 1 - k)).take k) = y
              omega
            · show (((n - k : Nat) : Int) - 1 + 1).toNat < (((n - k : Nat) : Int) + 1).toNat
              omega
          · refine W_exit ?_
            refine W_seq ?_
            have hke : k = n + 1 - at_ := by omega
            have hseg : (bs.drop at_).take (n - at_) ++ [bs.getD n 0] = (bs.drop at_).take (n + 1 - at_) := by
              have h1 : n - at_ < (bs.drop at_).length := by rw [List.length_drop]; omega
              rw [show n + 1 - at_ = n - at_ + 1 by omega, List.take_succ_eq_append_getElem h1, List.getElem_drop, getD_lt hnl]
              simp only [show at_ + (n - at_) = n by omega]
            have hcut : rest = (bs.drop at_).take (n - at_) ++ bs.getD n 0 :: bs.drop (n + 1) := by
              rw [hrest, if_neg (by simp)]
              have h0 := List.take_append_drop (n + 1 - at_) (bs.drop at_)
              rw [← hseg, List.drop_drop, show at_ + (n + 1 - at_) = n + 1 by omega] at h0
              exact h0.symm.trans (by simp)
            have hsge : ∀ x ∈ (bs.drop at_).take (n - at_), 128 ≤ x.toNat := by
              intro x hx
              obtain ⟨j, hj, rfl⟩ := List.getElem_of_mem hx
              rw [List.length_take, List.length_drop] at hj
              have := hge (at_ + j) (by omega) (by omega)
              rw [getD_lt (by omega)] at this
              simpa using this
            have hvv : v = valN ((bs.drop at_).take (n - at_) ++ [bs.getD n 0]) % 2 ^ 64 := by rw [hseg, hv, hke, show n + 1 - (n + 1 - at_) = at_ by omega]
            have hnr := numR_seg (most := most) (tail := bs.drop (n + 1)) hsge hlast false
            rw [← hcut, ← hvv] at hnr
            have hv64 : v < 2 ^ 64 := by rw [hv]; exact Nat.mod_lt _ (by decide)
            refine W_cut [97] [77, 78, 79, 80, 81, 82, 83, 84, 85, 86, 87, 88, 89, 90, 91, 92, 93, 94, 95, 96, 97] (fun vs w34 => vs = [.bool (decide (¬ (encN v = (bs.drop at_).take (n - at_) ++ [bs.getD n 0] ∧ v ≤ most)))] ∧ Keep All w27 w34) ?_ ?_
            · refine W_held (fun w' => Keep All w27 w') (by kernel_rfl) (Keep.drawn w27) (fun hS => ?_)
              refine any_mvt 1 rfl (by kernel_rfl) (by kernel_rfl) (by kernel_rfl) rfl hS ?_
              refine any_mvt 3 rfl (by kernel_rfl) (by kernel_rfl) (by kernel_rfl) rfl hS ?_
              refine any_run 4 (fun w' hS' => (r_nilCheck rfl)) rfl (by kernel_rfl) (by kernel_rfl) (by kernel_rfl) rfl hS ?_
              refine any_run 5 (fun w' hS' => (r_fieldAddr rfl rfl rfl rfl rfl)) rfl (by kernel_rfl) (by kernel_rfl) (by kernel_rfl) rfl hS ?_
              refine any_run 6 (fun w' hS' => (r_load rfl rfl rfl (((hS'.blk' hB trivial).cell rfl)))) rfl (by kernel_rfl) (by kernel_rfl) (by kernel_rfl) rfl hS ?_
              refine any_mvt 7 rfl (by kernel_rfl) (by kernel_rfl) (by kernel_rfl) rfl hS ?_
              refine any_run 8 (fun w' hS' => (r_nilCheck rfl)) rfl (by kernel_rfl) (by kernel_rfl) (by kernel_rfl) rfl hS ?_
              refine any_run 9 (fun w' hS' => (r_fieldAddr rfl rfl rfl rfl rfl)) rfl (by kernel_rfl) (by kernel_rfl) (by kernel_rfl) rfl hS ?_
              refine any_run 10 (fun w' hS' => (r_load rfl rfl rfl (((hS'.blk' hB trivial).cell rfl)))) rfl (by kernel_rfl) (by kernel_rfl) (by kernel_rfl) rfl hS ?_
              refine any_mvt 11 rfl (by kernel_rfl) (by kernel_rfl) (by kernel_rfl) rfl hS ?_
              refine any_run 12 (fun w' hS' => ((r_add rfl rfl).val (congrArg (Value.int .i64) (show IntKind.i64.wrap ((n : Int) + 1) = ((n + 1 : Nat) : Int) from (wrap_i64 (by omega) (by omega)).trans (by omega))))) rfl (by kernel_rfl) (by kernel_rfl) (by kernel_rfl) rfl hS ?_
              refine any_run 13 (fun w' hS' => (r_sliceS_lohi rfl rfl rfl rfl rfl (by omega) (by omega) (by omega))) rfl (by kernel_rfl) (by kernel_rfl) (by kernel_rfl) rfl hS ?_
              refine any_one 0 (by kernel_rfl) (one_of rfl ?_)
              refine o_bs0 rfl rfl rfl ?_; intro w39 b39 e39 hB39 hk39 hs39
              have hS39 := hS.trans hk39
              refine ops_nil ⟨hS39, fun hS => ?_⟩
              refine any_one 2 (by kernel_rfl) (one_of rfl ?_)
              refine op_call rfl rfl rfl (ref01_Number w39 _ [] v hv64 (Own.blk (n := 0) hB39 rfl (Nat.zero_le _)) (by decide)) ?_; rintro v41 w41 ⟨hown41, hk41, hb41⟩
              refine ops_nil ⟨hS39.own hk41 (fun z hz _ => by obtain rfl : b39 = z := Option.some.inj hz; have e : b39 = w27.heap.size := e39; omega), fun hS => ?_⟩
              refine any_one 14 (by kernel_rfl) (one_of rfl ?_)
              refine op_call rfl rfl rfl (ref01_Same w41 v41 _ (encN v) ((bs.take (n + 1)).drop at_) (OwnB.by_ hown41) (By.sub (xs := bs) (hx.keep hS (fun _ _ => trivial)) (l := at_) (h := n + 1) (m := c) (by omega) (by omega) (by omega) (Nat.le_refl _))) ?_; rintro v43 w43 ⟨rfl, hk43⟩
              have hdt : (bs.take (n + 1)).drop at_ = (bs.drop at_).take (n - at_) ++ [bs.getD n 0] := by rw [List.drop_take, hseg]
              rw [hdt]
              refine ops_nil ⟨hS.trans hk43, fun hS => ?_⟩
              refine any_run 15 (fun w' hS' => (r_not rfl)) rfl (by kernel_rfl) (by kernel_rfl) (by kernel_rfl) rfl hS ?_
              refine any_mvt 16 rfl (by kernel_rfl) (by kernel_rfl) (by kernel_rfl) rfl hS ?_
              refine a_split 93 false rfl (fun g45 => ?_) (fun g45 => ?_)
              · refine any_mvt 17 rfl (by kernel_rfl) (by kernel_rfl) (by kernel_rfl) (g_yes rfl rfl rfl (by rw [g45] <;> rfl)) hS ?_
                refine any_mvt 18 rfl (by kernel_rfl) (by kernel_rfl) (by kernel_rfl) (g_yes rfl rfl rfl (by rw [g45] <;> rfl)) hS ?_
                refine any_run 19 (fun w' hS' => (r_gtr rfl rfl)) rfl (by kernel_rfl) (by kernel_rfl) (by kernel_rfl) (g_yes rfl rfl rfl (by rw [g45] <;> rfl)) hS ?_
                refine any_run 20 (fun w' hS' => (r_pickF rfl (by rw [g45] <;> rfl))) rfl (by kernel_rfl) (by kernel_rfl) (by kernel_rfl) rfl hS ?_
                refine any_done (by kernel_rfl) ?_
                exact ⟨by (repeat (first | with_reducible exact offM_refl _ _ | refine offM_updc rfl ?_ | refine offM_upd rfl ?_ | refine offM_updo rfl ?_ | refine offM_updo_none ?_ | refine offM_head rfl rfl ?_)), congrArg (fun b => [Value.bool b]) (by
                  have k45 := of_decide_eq_true (by simpa using g45 : decide (encN v = (bs.drop at_).take (n - at_) ++ [bs.getD n 0]) = true)
                  rw [decide_eq_decide]
                  constructor
                  · intro h hh; have := hh.2; omega
                  · intro h; exact Classical.byContradiction fun hh => h ⟨k45, by omega⟩), hS⟩
              · refine any_skip 17 rfl (by kernel_rfl) (by kernel_rfl) (by kernel_rfl) (g_no rfl rfl rfl (by rw [g45] <;> rfl)) hS ?_
                refine any_skip 18 rfl (by kernel_rfl) (by kernel_rfl) (by kernel_rfl) (g_no rfl rfl rfl (by rw [g45] <;> rfl)) hS ?_
                refine any_skip 19 rfl (by kernel_rfl) (by kernel_rfl) (by kernel_rfl) (g_no rfl rfl rfl (by rw [g45] <;> rfl)) hS ?_
                refine any_run 20 (fun w' hS' => (r_pickT rfl (by rw [g45] <;> rfl))) rfl (by kernel_rfl) (by kernel_rfl) (by kernel_rfl) rfl hS ?_
                refine any_done (by kernel_rfl) ?_
                exact ⟨by (repeat (first | with_reducible exact offM_refl _ _ | refine offM_updc rfl ?_ | refine offM_upd rfl ?_ | refine offM_updo rfl ?_ | refine offM_updo_none ?_ | refine offM_head rfl rfl ?_)), congrArg (fun b => [Value.bool b]) (by
                  have k45 := of_decide_eq_false (by simpa using g45 : decide (encN v = (bs.drop at_).take (n - at_) ++ [bs.getD n 0]) = false)
                  symm; exact decide_eq_true fun hh => k45 hh.1), hS⟩
            · rintro J48 vs w48 ⟨rfl, hk48⟩ -
              refine W_cond_p rfl (fun h49 => ?_) (fun h49 => ?_)
              · refine W_seq ?_
                refine W_region ?_
                refine o_mvt rfl ?_
                refine op_run (r_nilCheck rfl) rfl ?_
                refine op_run (r_fieldAddr rfl rfl rfl rfl rfl) rfl ?_
                refine o_store (v := .bool true) rfl rfl rfl rfl (hk48.blk' hB trivial) (by exact Nat.lt_of_sub_eq_succ rfl) rfl ?_; intro w50 hB50 hk50 hs50
                have hB50 : Blk w50 b [.slice a bs.length c, .int .i64 at_, .bool true] 87 := hB50
                refine ops_nil ?_
                refine W_seq ?_
                refine W_region ?_
                refine o_asc rfl ?_
                refine ops_nil ?_
                refine W_ret ?_
                refine ret1 (.int .u64 0) rfl ?_ ?_; rfl
                rw [if_neg h49] at hnr
                rw [hnr]
                exact ⟨rfl, ⟨_, bs, at_, hB50, By.keepE (bs := bs) (hx.keep hk48 (fun _ _ => trivial)) hk50 hne, hIA, hat, h46, rfl⟩, hk48.all.trans hk50⟩
              · refine W_skip ?_
                refine W_seq ?_
                refine W_region ?_
                refine o_mvt rfl ?_
                refine o_mvt rfl ?_
                refine op_run ((r_add rfl rfl).val (congrArg (Value.int .i64) (show IntKind.i64.wrap ((n : Int) + 1) = ((n + 1 : Nat) : Int) from (wrap_i64 (by omega) (by omega)).trans (by omega)))) rfl ?_
                refine op_run (r_nilCheck rfl) rfl ?_
                refine op_run (r_fieldAddr rfl rfl rfl rfl rfl) rfl ?_
                refine o_store (v := .int .i64 ((n + 1 : Nat) : Int)) rfl rfl rfl rfl (hk48.blk' hB trivial) (by exact Nat.lt_of_sub_eq_succ rfl) rfl ?_; intro w52 hB52 hk52 hs52
                have hB52 : Blk w52 b [.slice a bs.length c, .int .i64 ((n + 1 : Nat) : Int), .bool false] 87 := hB52
                refine ops_nil ?_
                refine W_seq ?_
                refine W_region ?_
                refine o_mvt rfl ?_
                refine o_ast rfl ?_
                refine ops_nil ?_
                refine W_ret ?_
                refine ret1 (.int .u64 v) rfl ?_ ?_; rfl
                rw [if_pos (Decidable.not_not.1 h49)] at hnr
                rw [hnr]
                exact ⟨rfl, ⟨_, bs, n + 1, hB52, By.keepE (bs := bs) (hx.keep hk48 (fun _ _ => trivial)) hk52 hne, hIA, by omega, h46, by simp⟩, hk48.all.trans hk52⟩
theorem splice_set {zl cs : List Value} {k : Nat} (hk : k < cs.length) (hz : k < zl.length) : (splice zl 0 (cs.take k)).set k cs[k] = splice zl 0 (cs.take (k + 1)) := by
  unfold splice
  have h1 : (cs.take k).length = k := by rw [List.length_take]; omega
  have h2 : (cs.take (k + 1)).length = k + 1 := by rw [List.length_take]; omega
  rw [List.take_zero, List.nil_append, List.nil_append, h1, h2, Nat.zero_add, Nat.zero_add, List.set_append_right _ _ (by omega), h1, Nat.sub_self, List.drop_eq_getElem_cons hz, List.set_cons_zero, List.take_succ_eq_append_getElem hk, List.append_assoc]
  rfl
theorem rn_take (w : World) (b : Nat) (A : Nat → Prop) (rest : List UInt8) (bad : Bool) (n : Nat) (hAb : ¬ A b) (h : RIn w b A rest bad) (hn63 : n < 2 ^ 63) :
    Ret Try.prog 70 [.pointer (some ⟨b, 0, none⟩), .int .i64 n].toArray w fun r w' =>
      By w' r (tkR n rest bad).1 ∧ InB (fun k => w.heap.size ≤ k ∧ k < w'.heap.size) r ∧ RIn w' b A (tkR n rest bad).2.1 (tkR n rest bad).2.2 ∧ Keep (· ≠ b) w w' := by
  obtain ⟨vb, bs, at_, hB, hx, hIA, hat, h46, hrest⟩ := h
  have hxl := hx.len_le
  obtain ⟨a, c, rfl, hc, hcm⟩ := hx.form
  have hne : bs ≠ [] → InB (· ≠ b) (.slice a bs.length c) := fun h => (hIA h).mono fun k hk e => hAb (e ▸ hk)
  have hbl := hB.lt
  have hcond : (bad = true ∨ rest.length < n) ↔ (bad = true ∨ bs.length - at_ < n) := by
    rw [hrest]
    cases bad with
    | true => simp
    | false => simp only [Bool.false_eq_true, if_false, false_or, List.length_drop]
  refine enter (fn := Try.f70) (n := 58) Try.func70 rfl rfl (by simp) ?_
  refine W_seq ?_
  refine W_region ?_
  refine o_asc rfl ?_
  refine ops_nil ?_
  refine W_seq ?_
  refine W_cut [27] [6, 7, 8, 9, 10, 11, 12, 13, 14, 15, 16, 17, 18, 19, 20, 21, 22, 23, 24, 25, 26, 27] (fun vs w1 => vs = [.bool (decide (bad = true ∨ bs.length - at_ < n))] ∧ Keep All w w1) ?_ ?_
  · refine W_quiet (Keep All w) (by kernel_rfl) (by kernel_rfl) (Keep.drawn _) ?_
    refine q_mvt rfl ?_
    refine q_run (fun _ _ => (r_nilCheck rfl)) rfl ?_
    refine q_run (fun _ _ => (r_fieldAddr rfl rfl rfl rfl rfl)) rfl ?_
    refine q_run (fun _ hk => r_load rfl rfl rfl (hk.cell (hB.cell rfl) trivial)) rfl ?_
    refine q_mvt rfl ?_
    refine q_split rfl rfl rfl (fun g4 => ?_) (fun g4 => ?_)
    · refine q_mvt (g_yes rfl rfl rfl g4) ?_
      refine q_run (fun _ _ => (r_lss rfl rfl)) (g_yes rfl rfl rfl g4) ?_
      refine q_pkFt rfl g4 rfl ?_
      refine q_mvt rfl ?_
      refine q_split rfl rfl rfl (fun g5 => ?_) (fun g => absurd g (by simp))
      refine q_mvt (g_yes rfl rfl rfl g5) ?_
      refine q_run (fun _ _ => (r_nilCheck rfl)) (g_yes rfl rfl rfl g5) ?_
      refine q_run (fun _ _ => (r_fieldAddr rfl rfl rfl rfl rfl)) (g_yes rfl rfl rfl g5) ?_
      refine q_run (fun _ hk => r_load rfl rfl rfl (hk.cell (hB.cell rfl) trivial)) (g_yes rfl rfl rfl g5) ?_
      refine q_run (fun _ _ => (r_len rfl rfl rfl)) (g_yes rfl rfl rfl g5) ?_
      refine q_mvt (g_yes rfl rfl rfl g5) ?_
      refine q_run (fun _ _ => (r_nilCheck rfl)) (g_yes rfl rfl rfl g5) ?_
      refine q_run (fun _ _ => (r_fieldAddr rfl rfl rfl rfl rfl)) (g_yes rfl rfl rfl g5) ?_
      refine q_run (fun _ hk => r_load rfl rfl rfl (hk.cell (hB.cell rfl) trivial)) (g_yes rfl rfl rfl g5) ?_
      refine q_run (fun _ _ => ((r_sub rfl rfl).val (congrArg (Value.int .i64) (show IntKind.i64.wrap ((bs.length : Int) - (at_ : Int)) = ((bs.length - at_ : Nat) : Int) from (wrap_i64 (by omega) (by omega)).trans (by omega))))) (g_yes rfl rfl rfl g5) ?_
      refine q_mvt (g_yes rfl rfl rfl g5) ?_
      refine q_run (fun _ _ => (r_lss rfl rfl)) (g_yes rfl rfl rfl g5) ?_
      refine q_pkFt rfl g5 rfl ?_
      refine q_nil ?_; intro w8 hk8
      exact ⟨by (repeat (first | with_reducible exact offM_refl _ _ | refine offM_updc rfl ?_ | refine offM_upd rfl ?_ | refine offM_updo rfl ?_ | refine offM_updo_none ?_ | refine offM_head rfl rfl ?_)), congrArg (fun b => [Value.bool b]) (by
        rw [decide_eq_decide, g4]
        constructor
        · intro h; exact .inr (by omega)
        · rintro (h | h)
          · cases h
          · omega), hk8⟩
    · refine q_skip (g_no rfl rfl rfl g4) ?_
      refine q_skip (g_no rfl rfl rfl g4) ?_
      refine q_pkTc rfl g4 rfl ?_
      refine q_mvt rfl ?_
      refine q_skip (g_no rfl rfl rfl rfl) ?_
      refine q_skip (g_no rfl rfl rfl rfl) ?_
      refine q_skip (g_no rfl rfl rfl rfl) ?_
      refine q_skip (g_no rfl rfl rfl rfl) ?_
      refine q_skip (g_no rfl rfl rfl rfl) ?_
      refine q_skip (g_no rfl rfl rfl rfl) ?_
      refine q_skip (g_no rfl rfl rfl rfl) ?_
      refine q_skip (g_no rfl rfl rfl rfl) ?_
      refine q_skip (g_no rfl rfl rfl rfl) ?_
      refine q_skip (g_no rfl rfl rfl rfl) ?_
      refine q_skip (g_no rfl rfl rfl rfl) ?_
      refine q_skip (g_no rfl rfl rfl rfl) ?_
      refine q_pkTc rfl rfl rfl ?_
      refine q_nil ?_; intro w10 hk10
      exact ⟨by (repeat (first | with_reducible exact offM_refl _ _ | refine offM_updc rfl ?_ | refine offM_upd rfl ?_ | refine offM_updo rfl ?_ | refine offM_updo_none ?_ | refine offM_head rfl rfl ?_)), congrArg (fun b => [Value.bool b]) (by symm; exact decide_eq_true (.inl g4)), hk10⟩
  · rintro J12 vs w12 ⟨rfl, hk12⟩ -
    refine W_cond_p rfl (fun h13 => ?_) (fun h13 => ?_)
    · refine W_seq ?_
      refine W_region ?_
      refine o_mvt rfl ?_
      refine op_run (r_nilCheck rfl) rfl ?_
      refine op_run (r_fieldAddr rfl rfl rfl rfl rfl) rfl ?_
      refine o_store (v := .bool true) rfl rfl rfl rfl (hk12.blk' hB trivial) (by exact Nat.lt_of_sub_eq_succ rfl) rfl ?_; intro w14 hB14 hk14 hs14
      have hB14 : Blk w14 b [.slice a bs.length c, .int .i64 at_, .bool true] 87 := hB14
      refine ops_nil ?_
      refine W_seq ?_
      refine W_region ?_
      refine o_bs0 rfl rfl rfl ?_; intro w15 b15 e15 hB15 hk15 hs15
      refine o_ast rfl ?_
      refine ops_nil ?_
      refine W_ret ?_
      refine ret1 (.slice (some ⟨b15, 0, none⟩) 0 0) rfl ?_ ?_; rfl
      have ht : tkR n rest bad = ([], [], true) := if_pos (hcond.2 h13)
      rw [ht]
      refine ⟨OwnB.by_ (xs := []) (Own.blk (n := 0) hB15 rfl (Nat.zero_le _)), fun z hz => ?_, ⟨_, bs, at_, hk15.blk' hB14 trivial, (By.keepE (bs := bs) (hx.keep hk12 (fun _ _ => trivial)) hk14 hne).keep hk15 (fun _ _ => trivial), hIA, hat, h46, rfl⟩, (hk12.all.trans hk14).trans hk15.all⟩
      obtain rfl : b15 = z := Option.some.inj hz
      have := hk12.size; have := hk14.size; exact ⟨by omega, by omega⟩
    · refine W_skip ?_
      refine W_seq ?_
      have hnb : bad = false := by cases bad with
        | true => exact absurd (.inl rfl) h13
        | false => rfl
      subst hnb
      have hnl : n ≤ bs.length - at_ := by omega
      have hB12 := hk12.blk' hB trivial
      have hx12 : By w12 (.slice a bs.length c) bs := hx.keep hk12 (fun _ _ => trivial)
      refine W_held (fun w' => Keep All w12 w') (by kernel_rfl) (Keep.drawn w12) (fun hS => ?_)
      refine any_mvt 1 rfl (by kernel_rfl) (by kernel_rfl) (by kernel_rfl) rfl hS ?_
      refine any_run 2 (fun w' hS' => (r_nilCheck rfl)) rfl (by kernel_rfl) (by kernel_rfl) (by kernel_rfl) rfl hS ?_
      refine any_run 3 (fun w' hS' => (r_fieldAddr rfl rfl rfl rfl rfl)) rfl (by kernel_rfl) (by kernel_rfl) (by kernel_rfl) rfl hS ?_
      refine any_run 4 (fun w' hS' => (r_load rfl rfl rfl (((hS'.blk' hB12 trivial).cell rfl)))) rfl (by kernel_rfl) (by kernel_rfl) (by kernel_rfl) rfl hS ?_
      refine any_mvt 5 rfl (by kernel_rfl) (by kernel_rfl) (by kernel_rfl) rfl hS ?_
      refine any_run 6 (fun w' hS' => (r_nilCheck rfl)) rfl (by kernel_rfl) (by kernel_rfl) (by kernel_rfl) rfl hS ?_
      refine any_run 7 (fun w' hS' => (r_fieldAddr rfl rfl rfl rfl rfl)) rfl (by kernel_rfl) (by kernel_rfl) (by kernel_rfl) rfl hS ?_
      refine any_run 8 (fun w' hS' => (r_load rfl rfl rfl (((hS'.blk' hB12 trivial).cell rfl)))) rfl (by kernel_rfl) (by kernel_rfl) (by kernel_rfl) rfl hS ?_
      refine any_mvt 9 rfl (by kernel_rfl) (by kernel_rfl) (by kernel_rfl) rfl hS ?_
      refine any_run 10 (fun w' hS' => (r_nilCheck rfl)) rfl (by kernel_rfl) (by kernel_rfl) (by kernel_rfl) rfl hS ?_
      refine any_run 11 (fun w' hS' => (r_fieldAddr rfl rfl rfl rfl rfl)) rfl (by kernel_rfl) (by kernel_rfl) (by kernel_rfl) rfl hS ?_
      refine any_run 12 (fun w' hS' => (r_load rfl rfl rfl (((hS'.blk' hB12 trivial).cell rfl)))) rfl (by kernel_rfl) (by kernel_rfl) (by kernel_rfl) rfl hS ?_
      refine any_mvt 13 rfl (by kernel_rfl) (by kernel_rfl) (by kernel_rfl) rfl hS ?_
      refine any_run 14 (fun w' hS' => ((r_add rfl rfl).val (congrArg (Value.int .i64) (show IntKind.i64.wrap ((at_ : Int) + (n : Int)) = ((at_ + n : Nat) : Int) from (wrap_i64 (by omega) (by omega)).trans (by omega))))) rfl (by kernel_rfl) (by kernel_rfl) (by kernel_rfl) rfl hS ?_
      refine any_run 15 (fun w' hS' => (r_sliceS_lohi rfl rfl rfl rfl rfl (by omega) (by omega) (by omega))) rfl (by kernel_rfl) (by kernel_rfl) (by kernel_rfl) rfl hS ?_
      refine any_one 0 (by kernel_rfl) (one_of rfl ?_)
      refine o_bs0 rfl rfl rfl ?_; intro w22 b22 e22 hB22 hk22 hs22
      have hS22 := hS.trans hk22
      refine ops_nil ⟨hS22, fun hS => ?_⟩
      refine any_one 16 (by kernel_rfl) (one_of rfl ?_)
      refine o_appS (v := .slice (some ⟨b22, 0, none⟩) 0 0) (m := 0) (xs := []) rfl rfl (By.sub (xs := bs) (hx12.keep hS (fun _ _ => trivial)) (l := at_) (h := at_ + n) (m := c) (by omega) (by omega) (by omega) (Nat.le_refl _)) rfl ti_u8 rfl rfl (Own.blk (n := 0) hB22 rfl (Nat.zero_le _)) (all_c8 _) (by rw [List.length_drop, List.length_take]; unfold maxLen; omega) (by rw [List.length_drop, List.length_take]; omega) rfl ?_; intro v24 w24 hown24 hk24 hb24
      have hown24 : OwnB w24 5 v24 ((bs.take (at_ + n)).drop at_) := by have h := OwnB.app (xs := []) hown24; exact h
      refine ops_nil ⟨hS.own hk24 (fun z hz _ => by obtain rfl : b22 = z := Option.some.inj hz; have e : b22 = w12.heap.size := e22; omega), fun hS => ?_⟩
      have hsz24 : w12.heap.size ≤ w24.heap.size := hS.size
      refine any_ast 17 rfl (by kernel_rfl) (by kernel_rfl) (by kernel_rfl) rfl hS ?_
      refine any_done (by kernel_rfl) ?_
      refine W_seq ?_
      refine W_region ?_
      refine o_mvt rfl ?_
      refine op_run (r_nilCheck rfl) rfl ?_
      refine op_run (r_fieldAddr rfl rfl rfl rfl rfl) rfl ?_
      refine op_run (r_load rfl rfl rfl ((hS.blk' hB12 trivial).cell rfl)) rfl ?_
      refine o_mvt rfl ?_
      refine op_run ((r_add rfl rfl).val (congrArg (Value.int .i64) (show IntKind.i64.wrap ((at_ : Int) + (n : Int)) = ((at_ + n : Nat) : Int) from (wrap_i64 (by omega) (by omega)).trans (by omega)))) rfl ?_
      refine op_run (r_nilCheck rfl) rfl ?_
      refine op_run (r_fieldAddr rfl rfl rfl rfl rfl) rfl ?_
      refine o_store (v := .int .i64 ((at_ + n : Nat) : Int)) rfl rfl rfl rfl (hS.blk' hB12 trivial) (by exact Nat.lt_of_sub_eq_succ rfl) rfl ?_; intro w27 hB27 hk27 hs27
      have hB27 : Blk w27 b [.slice a bs.length c, .int .i64 ((at_ + n : Nat) : Int), .bool false] 87 := hB27
      refine ops_nil ?_
      refine W_seq ?_
      refine W_region ?_
      refine o_mvt rfl ?_
      refine o_ast rfl ?_
      refine ops_nil ?_
      refine W_ret ?_
      refine ret1 v24 rfl ?_ ?_; rfl
      have hz12 := hk12.size
      have hin24 : InB (fun k => w12.heap.size ≤ k) v24 := fun z hz => by
        rcases hb24 z hz with h | h
        · obtain rfl : b22 = z := Option.some.inj h; have e : b22 = w12.heap.size := e22; omega
        · have := hk22.size; have e : w12.heap.size ≤ z := Nat.le_trans hS22.size h; exact e
      have ht : tkR n rest false = (rest.take n, rest.drop n, false) := if_neg (fun hh => h13 (hcond.1 hh))
      rw [ht]
      have hr : rest = bs.drop at_ := by rw [hrest]; simp
      have e1 : rest.take n = (bs.take (at_ + n)).drop at_ := by rw [hr, List.drop_take, Nat.add_sub_cancel_left]
      have e2 : rest.drop n = bs.drop (at_ + n) := by rw [hr, List.drop_drop]
      show By w27 v24 (rest.take n) ∧ _
      rw [e1]
      refine ⟨(OwnB.by_ hown24).keep hk27 (fun z hz e => by have := hin24 z hz; omega), fun z hz => ⟨by have := hin24 z hz; omega, by have := hown24.lt z hz; have := hk27.size; omega⟩, ⟨_, bs, at_ + n, hB27, By.keepE (bs := bs) (hx12.keep hS (fun _ _ => trivial)) hk27 hne, hIA, by omega, h46, by rw [if_neg (by simp)]; exact e2⟩, (hk12.all.trans hS.all).trans hk27⟩
theorem rn_Done (w : World) (b : Nat) (A : Nat → Prop) (rest : List UInt8) (bad : Bool) (h : RIn w b A rest bad) :
    Ret Try.prog 42 [.pointer (some ⟨b, 0, none⟩)].toArray w fun r w' => r = .int .i64 (if bad = true ∨ 0 < rest.length then 3 else 0) ∧ Keep All w w' := by
  obtain ⟨vb, bs, at_, hB, hx, hIA, hat, h46, hrest⟩ := h
  have hxl := hx.len_le
  obtain ⟨a, c, rfl, hc, hcm⟩ := hx.form
  have hcond : (bad = true ∨ 0 < rest.length) ↔ (bad = true ∨ at_ < bs.length) := by
    rw [hrest]
    cases bad with
    | true => simp
    | false => simp only [Bool.false_eq_true, if_false, false_or, List.length_drop]; omega
  refine enter (fn := Try.f42) (n := 19) Try.func42 rfl rfl (by simp) ?_
  refine W_seq ?_
  refine W_region ?_
  refine o_asc rfl ?_
  refine ops_nil ?_
  refine W_seq ?_
  refine W_cut [18] [3, 4, 5, 6, 7, 8, 9, 10, 11, 12, 13, 14, 15, 16, 17, 18] (fun vs w1 => vs = [.bool (decide (bad = true ∨ at_ < bs.length))] ∧ Keep All w w1) ?_ ?_
  · refine W_quiet (Keep All w) (by kernel_rfl) (by kernel_rfl) (Keep.drawn _) ?_
    refine q_mvt rfl ?_
    refine q_run (fun _ _ => (r_nilCheck rfl)) rfl ?_
    refine q_run (fun _ _ => (r_fieldAddr rfl rfl rfl rfl rfl)) rfl ?_
    refine q_run (fun _ hk => r_load rfl rfl rfl (hk.cell (hB.cell rfl) trivial)) rfl ?_
    refine q_mvt rfl ?_
    refine q_split rfl rfl rfl (fun g4 => ?_) (fun g4 => ?_)
    · refine q_mvt (g_yes rfl rfl rfl g4) ?_
      refine q_run (fun _ _ => (r_nilCheck rfl)) (g_yes rfl rfl rfl g4) ?_
      refine q_run (fun _ _ => (r_fieldAddr rfl rfl rfl rfl rfl)) (g_yes rfl rfl rfl g4) ?_
      refine q_run (fun _ hk => r_load rfl rfl rfl (hk.cell (hB.cell rfl) trivial)) (g_yes rfl rfl rfl g4) ?_
      refine q_mvt (g_yes rfl rfl rfl g4) ?_
      refine q_run (fun _ _ => (r_nilCheck rfl)) (g_yes rfl rfl rfl g4) ?_
      refine q_run (fun _ _ => (r_fieldAddr rfl rfl rfl rfl rfl)) (g_yes rfl rfl rfl g4) ?_
      refine q_run (fun _ hk => r_load rfl rfl rfl (hk.cell (hB.cell rfl) trivial)) (g_yes rfl rfl rfl g4) ?_
      refine q_run (fun _ _ => (r_len rfl rfl rfl)) (g_yes rfl rfl rfl g4) ?_
      refine q_run (fun _ _ => (r_lss rfl rfl)) (g_yes rfl rfl rfl g4) ?_
      refine q_pkFt rfl g4 rfl ?_
      refine q_nil ?_; intro w7 hk7
      exact ⟨by (repeat (first | with_reducible exact offM_refl _ _ | refine offM_updc rfl ?_ | refine offM_upd rfl ?_ | refine offM_updo rfl ?_ | refine offM_updo_none ?_ | refine offM_head rfl rfl ?_)), congrArg (fun b => [Value.bool b]) (by
        rw [decide_eq_decide, g4]
        constructor
        · intro h; exact .inr (by omega)
        · rintro (h | h)
          · cases h
          · omega), hk7⟩
    · refine q_skip (g_no rfl rfl rfl g4) ?_
      refine q_skip (g_no rfl rfl rfl g4) ?_
      refine q_skip (g_no rfl rfl rfl g4) ?_
      refine q_skip (g_no rfl rfl rfl g4) ?_
      refine q_skip (g_no rfl rfl rfl g4) ?_
      refine q_skip (g_no rfl rfl rfl g4) ?_
      refine q_skip (g_no rfl rfl rfl g4) ?_
      refine q_skip (g_no rfl rfl rfl g4) ?_
      refine q_skip (g_no rfl rfl rfl g4) ?_
      refine q_skip (g_no rfl rfl rfl g4) ?_
      refine q_pkTc rfl g4 rfl ?_
      refine q_nil ?_; intro w9 hk9
      exact ⟨by (repeat (first | with_reducible exact offM_refl _ _ | refine offM_updc rfl ?_ | refine offM_upd rfl ?_ | refine offM_updo rfl ?_ | refine offM_updo_none ?_ | refine offM_head rfl rfl ?_)), congrArg (fun b => [Value.bool b]) (by symm; exact decide_eq_true (.inl g4)), hk9⟩
  · rintro J11 vs w11 ⟨rfl, hk11⟩ -
    refine W_cond_p rfl (fun h12 => ?_) (fun h12 => ?_)
    · refine W_seq ?_
      refine W_region ?_
      refine o_asc rfl ?_
      refine ops_nil ?_
      refine W_ret ?_
      refine ret1 (.int .i64 3) rfl ?_ ?_; rfl
      exact ⟨by rw [if_pos (hcond.2 h12)], hk11⟩
    · refine W_skip ?_
      refine W_seq ?_
      refine W_region ?_
      refine o_asc rfl ?_
      refine ops_nil ?_
      refine W_ret ?_
      refine ret1 (.int .i64 0) rfl ?_ ?_; rfl
      exact ⟨by rw [if_neg (fun hh => h12 (hcond.1 hh))], hk11⟩
theorem rn_Digest (w : World) (b : Nat) (A : Nat → Prop) (rest : List UInt8) (bad : Bool) (hAb : ¬ A b) (hAl : ∀ k, A k → k < w.heap.size) (h : RIn w b A rest bad) :
    Ret Try.prog 41 [.pointer (some ⟨b, 0, none⟩)].toArray w fun r w' => r = .agg (dgR (digR rest bad).1).toArray ∧ RIn w' b A (digR rest bad).2.1 (digR rest bad).2.2 ∧ Keep (· ≠ b) w w' := by
  have hbl := h.lt
  refine enter (fn := Try.f41) (n := 22) Try.func41 rfl rfl (by simp) ?_
  refine W_seq ?_
  refine W_region ?_
  refine o_alloc rfl rfl rfl ?_; intro w1 b1 e1 hB1 hk1 hs1
  refine ops_nil ?_
  refine W_seq ?_
  refine W_region ?_
  refine op_run (r_buildA ((dgR Dig.zero)) (_) ([]) rfl rfl rfl rfl rfl (rfl)) rfl ?_
  refine o_alloc rfl rfl rfl ?_; intro w3 b3 e3 hB3 hk3 hs3
  refine o_storeA (cs := dgR Dig.zero) rfl rfl (by first | rfl | exact binV_one _ | exact dgR_one _ | exact refR_one _ | exact secR_one _ | exact all_c8 _) (by first | rfl | (rw [binV_len]; rfl) | (rw [dgR_len]; rfl) | (rw [refR_len]; rfl) | (rw [secR_len]; rfl) | (rw [List.length_map, tagF_len]; rfl)) hB3 (by exact Nat.le_of_eq (by simp [dgR_len])) rfl ?_; intro w4 hB4 hk4 hs4
  have hB4 : Blk w4 b3 (dgR Dig.zero) 41 := by
    have h := hB4
    rwa [splice_all (by simp [dgR_len])] at h
  have hz1 := hk1.size
  have h4 : RIn w4 b A rest bad := ((h.k hk1).k hk3).keep' hk4 (by omega) (fun k _ hA e => by have := hAl k hA; omega)
  refine ops_nil ?_
  refine W_seq ?_
  refine W_region ?_
  refine o_mvt rfl ?_
  refine op_call rfl rfl rfl (rn_take w4 b A rest bad 32 hAb h4 (by decide)) ?_; rintro v5 w5 ⟨hby, hin5, hR5, hk5⟩
  have hB5 := hk5.blk' hB4 (show b3 ≠ b by omega)
  have hsnd : (tkR 32 rest bad).2 = (digR rest bad).2 := (digR_snd rest bad).symm
  have hfst := digR_fst rest bad
  obtain ⟨T, hT⟩ : ∃ T, T = (tkR 32 rest bad).1 := ⟨_, rfl⟩
  have hTl : T.length = 0 ∨ T.length = 32 := by
    rw [hT]; unfold tkR; split
    · exact .inl rfl
    · right; rw [List.length_take]; omega
  rw [← hT] at hby hfst
  obtain ⟨aT, cT, rfl, _, _⟩ := hby.form
  have hz5 := hk5.size
  refine o_ast rfl ?_
  refine ops_nil ?_
  refine W_seq ?_
  refine W_seq ?_
  refine W_region ?_
  refine o_asc rfl ?_
  refine ops_nil ?_
  refine W_block ?_
  refine W_loop [5] [5, 9, 10, 11, 12, 13, 14, 15, 16, 17, 18, 19, 20] (fun vs w' => ∃ k : Nat, vs = [.int .i64 k] ∧ k ≤ T.length ∧ Blk w' b3 (splice (dgR Dig.zero) 0 ((T.map c8).take k)) 41 ∧ Keep (· ≠ b3) w5 w') (fun vs _ => match vs with | [.int _ y] => T.length - y.toNat | _ => 0) ⟨0, rfl, Nat.zero_le _, hB5, Keep.refl _⟩ ?_
  rintro J6 vs w6 ⟨k, rfl, hk, hB6, hk6⟩ -
  refine W_seq ?_
  refine W_seq ?_
  refine W_region ?_
  refine o_mvt rfl ?_
  refine o_mvt rfl ?_
  refine op_run (r_len rfl rfl rfl) rfl ?_
  refine op_run (r_lss rfl rfl) rfl ?_
  refine ops_nil ?_
  refine W_cond_p rfl (fun h7 => ?_) (fun h7 => ?_)
  · refine W_skip ?_
    refine W_seq ?_
    refine W_block ?_
    refine W_region ?_
    refine o_mvt rfl ?_
    refine o_mvt rfl ?_
    refine o_mvt rfl ?_
    have hkT : k < T.length := by omega
    obtain ⟨bT, oT, cT', eT, _, _, hcT⟩ := hby.at (by omega)
    cases eT
    refine op_run (r_idxS1 rfl rfl rfl rfl (by omega) (by omega)) rfl ?_
    refine op_run (r_load rfl rfl rfl (hk6.cell (hcT k _ (get_c8 hkT)) (show bT ≠ b3 from fun e => by have := hin5 bT rfl; omega))) rfl ?_
    refine op_run (r_idxA1 rfl rfl rfl rfl (by omega) (by omega)) rfl ?_
    refine o_store (v := c8 T[k]) rfl rfl rfl rfl hB6 (by rw [splice_len (by rw [List.length_take, List.length_map, dgR_len]; omega), dgR_len, Int.toNat_natCast]; omega) rfl ?_; intro w11 hB11 hk11 hs11
    refine ops_nil ?_
    refine W_region ?_
    refine o_mvt rfl ?_
    refine op_run (r_add rfl rfl) rfl ?_
    refine o_ast rfl ?_
    refine ops_nil ?_
    have hinc := inc64' k (by omega)
    refine ⟨by (repeat (first | with_reducible exact offM_refl _ _ | refine offM_updc rfl ?_ | refine offM_upd rfl ?_ | refine offM_updo rfl ?_ | refine offM_updo_none ?_ | refine offM_head rfl rfl ?_)), ⟨k + 1, congrArg (fun z : Int => [Value.int .i64 z]) hinc, by omega, ?_, hk6.trans hk11⟩, ?_⟩
    · have h := hB11
      rw [Int.toNat_natCast, Nat.zero_add] at h
      rw [← splice_set (by rw [List.length_map]; exact hkT) (by rw [dgR_len]; omega), List.getElem_map]
      exact h
    · show T.length - (IntKind.i64.wrap ((k : Int) + 1)).toNat < T.length - (k : Int).toNat
      rw [hinc]; omega
  · refine W_exit ?_
    refine W_seq ?_
    refine W_region ?_
    have hke : k = T.length := by omega
    have hB13 : Blk w6 b3 (dgR (digR rest bad).1) 41 := by
      have h := hB6
      rw [hke] at h
      have e : (T.map c8).take (min T.length 32) = (T.map c8).take T.length := by
        rcases hTl with h | h
        · rw [h]; rfl
        · rw [h]; rfl
      rw [e] at hfst
      rw [← hfst]; exact h
    have hR6 : RIn w6 b A (digR rest bad).2.1 (digR rest bad).2.2 := by
      rw [← hsnd]; exact hR5.keep' hk6 (by omega) (fun k _ hA e => by have := hAl k hA; omega)
    have hB1' := hk6.blk' (hk5.blk' (hk4.blk' (hk3.blk' hB1 trivial) (show b1 ≠ b3 by omega)) (show b1 ≠ b by omega)) (show b1 ≠ b3 by omega)
    refine op_run (r_loadA (dgR (digR rest bad).1) rfl rfl rfl (by first | rfl | (rw [binV_len]; rfl) | (rw [dgR_len]; rfl) | (rw [refR_len]; rfl) | (rw [secR_len]; rfl) | (rw [List.length_map, tagF_len]; rfl)) (hB13.all)) rfl ?_
    refine o_storeA (cs := dgR (digR rest bad).1) rfl rfl (by first | rfl | exact binV_one _ | exact dgR_one _ | exact refR_one _ | exact secR_one _ | exact all_c8 _) (by first | rfl | (rw [binV_len]; rfl) | (rw [dgR_len]; rfl) | (rw [refR_len]; rfl) | (rw [secR_len]; rfl) | (rw [List.length_map, tagF_len]; rfl)) hB1' (by exact Nat.le_of_eq (by simp [dgR_len])) rfl ?_; intro w14 hB14 hk14 hs14
    have hB14 : Blk w14 b1 (dgR (digR rest bad).1) 41 := by
      have h := hB14
      rwa [splice_all (by simp [dgR_len])] at h
    refine ops_nil ?_
    refine W_ret ?_
    refine retA (dgR (digR rest bad).1) rfl rfl rfl rfl (by first | rfl | (rw [binV_len]; rfl) | (rw [dgR_len]; rfl) | (rw [refR_len]; rfl) | (rw [secR_len]; rfl) | (rw [List.length_map, tagF_len]; rfl)) hB14.all ?_
    refine ⟨rfl, hR6.keep' hk14 (by omega) (fun k _ hA e => by have := hAl k hA; omega), ?_⟩
    have hkk : Keep (fun k => k ≠ b ∧ k ≠ b1 ∧ k ≠ b3) w w14 := (((((hk1.trans hk3).all.trans (hk4.mono fun k _ h => h.2.2)).trans (hk5.mono fun k _ h => h.1)).trans (hk6.mono fun k _ h => h.2.2)).trans (hk14.mono fun k _ h => h.2.1))
    exact hkk.mono fun k hk h => ⟨h, by omega, by omega⟩
end Go.Proofs.Ytkmciohghhffnaa.B
