/-
  Commits of bytes: what is taken, Decode.
-/
import Derived.Test.YtigehkfdfecfoaaDoorCom2
namespace Go.Proofs.YtigehkfdfecfoaaDoor.B
open Go
set_option linter.unusedVariables false
set_option maxHeartbeats 2000000
set_option maxRecDepth 100000
attribute [local irreducible] W OpsW OpsQ retP
section
variable {α : Type} (rd : List UInt8 → Bool → α × List UInt8 × Bool)
theorem lstR_step {m : Nat} (h : 0 < m) (bs : List UInt8) : lstR rd m bs false = ((rd bs false).1 :: (lstR rd (m - 1) (rd bs false).2.1 (rd bs false).2.2).1, (lstR rd (m - 1) (rd bs false).2.1 (rd bs false).2.2).2.1, (lstR rd (m - 1) (rd bs false).2.1 (rd bs false).2.2).2.2) := by
  obtain ⟨k, rfl⟩ : ∃ k, m = k + 1 := ⟨m - 1, by omega⟩
  rw [lstR, if_neg (by simp), Nat.add_sub_cancel]
theorem lstR_stop {m : Nat} {bs : List UInt8} {bad : Bool} (h : m = 0 ∨ bad = true) : lstR rd m bs bad = ([], bs, bad) := by
  rcases h with rfl | rfl
  · rfl
  · cases m with
    | zero => rfl
    | succ m => rw [lstR, if_pos rfl]
/-- So many are taken, and so many are to be. -/
def Tkn (n : Nat) (bs : List UInt8) (bad : Bool) (xs : List α) (k : Nat) (bs' : List UInt8) (bad' : Bool) : Prop :=
  xs.length = k ∧ lstR rd n bs bad = (xs ++ (lstR rd (n - k) bs' bad').1, (lstR rd (n - k) bs' bad').2.1, (lstR rd (n - k) bs' bad').2.2)
theorem Tkn.zero (n : Nat) (bs : List UInt8) (bad : Bool) : Tkn rd n bs bad [] 0 bs bad := ⟨rfl, rfl⟩
theorem Tkn.step {n k : Nat} {bs bs' : List UInt8} {bad : Bool} {xs : List α} (h : Tkn rd n bs bad xs k bs' false) (hk : k < n) : Tkn rd n bs bad (xs ++ [(rd bs' false).1]) (k + 1) (rd bs' false).2.1 (rd bs' false).2.2 := by
  refine ⟨by rw [List.length_append, h.1]; rfl, ?_⟩
  rw [h.2, lstR_step rd (by omega), show n - k - 1 = n - (k + 1) by omega]
  simp
theorem Tkn.stop {n k : Nat} {bs bs' : List UInt8} {bad bad' : Bool} {xs : List α} (h : Tkn rd n bs bad xs k bs' bad') (hk : n = k ∨ bad' = true) : lstR rd n bs bad = (xs, bs', bad') := by
  rw [h.2, lstR_stop rd (by rcases hk with h | h; exact .inl (by omega); exact .inr h)]; simp
end
theorem rows_snocB (l : List Bn) (x : Bn) : rows binV (l ++ [x]) = rows binV l ++ binV x := by rw [rows_app]; simp [rows]
theorem cm_takenB (w : World) (b : Nat) (A : Nat → Prop) (bs : List UInt8) (bad : Bool) (hAb : ¬ A b) (hAl : ∀ k, A k → k < w.heap.size) (h : InC w b A bs bad) :
    Ret Tryd.prog 52 [.pointer (some ⟨b, 0, none⟩), .func (.func 53) #[] #[]].toArray w fun r w' =>
      Own w' 100 35 r (manyR bnR bs bad).1.length (rows binV (manyR bnR bs bad).1) ∧ InC w' b A (manyR bnR bs bad).2.1 (manyR bnR bs bad).2.2 ∧ Keep (· ≠ b) w w' ∧ InB (fun z => w.heap.size ≤ z) r := by
  have hbl : b < w.heap.size := by obtain ⟨_, hB, _⟩ := h; exact hB.lt
  have hn := numR_le 65536 bs bad
  obtain ⟨N, hN⟩ : ∃ N, N = numR 65536 bs bad := ⟨_, rfl⟩
  refine enter (fn := Tryd.f52) (n := 26) Tryd.func52 rfl rfl (by simp) ?_
  refine W_seq ?_
  refine W_region ?_
  refine o_asc rfl ?_
  refine ops_nil ?_
  refine W_seq ?_
  refine W_region ?_
  refine o_mvt rfl ?_
  refine op_call rfl rfl rfl (in_Number w b A bs bad 65536 hAb h) ?_; rintro v1 w1 ⟨rfl, hI1, hk1⟩
  rw [← hN] at hI1 hn ⊢
  have hm : manyR bnR bs bad = lstR bnR N.1 N.2.1 N.2.2 := by rw [hN]; rfl
  rw [hm]
  refine o_ast rfl ?_
  refine ops_nil ?_
  refine W_seq ?_
  refine W_seq ?_
  refine W_region ?_
  refine o_asc rfl ?_
  refine ops_nil ?_
  refine W_block ?_
  refine W_loop [4, 6] [4, 6, 9, 10, 11, 12, 13, 14, 15, 16, 17, 18, 19, 20, 21, 22, 23, 24] (fun vs w' => ∃ (u : Value) (k : Nat) (xs : List Bn) (bs' : List UInt8) (bad' : Bool), vs = [u, .int .u64 k] ∧ k ≤ N.1 ∧ Tkn bnR N.1 N.2.1 N.2.2 xs k bs' bad' ∧ Own w' 100 35 u xs.length (rows binV xs) ∧ InC w' b A bs' bad' ∧ Keep (· ≠ b) w w' ∧ InB (fun z => w.heap.size ≤ z) u) (fun vs _ => match vs with | [_, .int _ y] => N.1 - y.toNat | _ => 0) ⟨.slice none 0 0, 0, [], _, _, rfl, Nat.zero_le _, Tkn.zero .., own_nil _ _ _, hI1, hk1, InB.nil⟩ ?_
  rintro J2 vs w2 ⟨u, k, xs, bs', bad', rfl, hk, hT, hO, hI, hkA, hin⟩ -
  refine W_seq ?_
  refine W_cut [16] [9, 10, 11, 12, 13, 14, 15, 16] (fun vs w3 => vs = [.bool (decide (k < N.1 ∧ bad' = false))] ∧ w3 = w2) ?_ ?_
  · refine W_region ?_
    refine o_mvt rfl ?_
    refine o_mvt rfl ?_
    refine op_run (r_lss rfl rfl) rfl ?_
    refine o_mvt rfl ?_
    refine g_split rfl rfl rfl (fun g4 => ?_) (fun g4 => ?_)
    · refine o_mvt (g_yes rfl rfl rfl g4) ?_
      refine op_call rfl rfl (g_yes rfl rfl rfl g4) (in_Wrong w2 b A _ _ hI) ?_; rintro v5 w5 ⟨rfl, rfl⟩
      refine op_run (r_not rfl) (g_yes rfl rfl rfl g4) ?_
      refine o_pkTt rfl g4 rfl ?_
      refine ops_nil ?_
      exact ⟨by (repeat (first | with_reducible exact offM_refl _ _ | refine offM_updc rfl ?_ | refine offM_upd rfl ?_ | refine offM_updo rfl ?_ | refine offM_updo_none ?_ | refine offM_head rfl rfl ?_)), congrArg (fun b => [Value.bool b]) (by have g4 := of_decide_eq_true g4; have hkn : k < N.1 := (by omega); cases bad' <;> simp [hkn]), rfl⟩
    · refine op_skip (g_no rfl rfl rfl g4) ?_
      refine op_skip (g_no rfl rfl rfl g4) ?_
      refine op_skip (g_no rfl rfl rfl g4) ?_
      refine o_pkFc rfl g4 rfl ?_
      refine ops_nil ?_
      exact ⟨by (repeat (first | with_reducible exact offM_refl _ _ | refine offM_updc rfl ?_ | refine offM_upd rfl ?_ | refine offM_updo rfl ?_ | refine offM_updo_none ?_ | refine offM_head rfl rfl ?_)), congrArg (fun b => [Value.bool b]) (by have g4 := of_decide_eq_false g4; symm; exact decide_eq_false fun hh => g4 (by have := hh.1; omega)), rfl⟩
  · rintro J8 vs w8 ⟨rfl, rfl⟩ -
    refine W_cond_p rfl (fun h9 => ?_) (fun h9 => ?_)
    · refine W_skip ?_
      refine W_seq ?_
      refine W_block ?_
      refine W_region ?_
      refine o_mvt rfl ?_
      refine o_mvt rfl ?_
      refine o_mvt rfl ?_
      obtain ⟨hkn, rfl⟩ := h9
      have hz8 := hkA.size
      refine op_call rfl rfl rfl (bn_Take w8 b A bs' false hAb (fun k hk => by have := hAl k hk; omega) hI) ?_; rintro v10 w10 ⟨rfl, hI10, hk10⟩
      obtain ⟨y, hy⟩ : ∃ y, y = (bnR bs' false).1 := ⟨_, rfl⟩
      have hT' := hT.step bnR hkn
      rw [← hy] at hT' ⊢
      have hO10 := hO.keep hk10 (fun z hz e => by have := hin z hz; omega)
      refine o_bsA1 (binV y) rfl rfl (by rw [binV_len]; exact ti_bin) (by rw [binV_len]; rfl) (by rw [binV_len]; decide) rfl ?_; intro w11 b11 e11 hB11 hk11 hs11
      have hS11 : Sl w11 (.slice (some ⟨b11, 0, none⟩) 1 1) 1 35 (binV y) := (Own.blk (n := 1) (sz := 35) hB11 (binV_len y) (by unfold maxLen; omega)).sl
      have hxl := hT.1
      refine o_appS (v := u) rfl rfl hS11 rfl ti_bin rfl rfl (hO10.keep hk11 (fun _ _ => trivial)) (binV_one y) (by unfold maxLen; omega) (by omega) rfl ?_; intro v12 w12 hown12 hk12 hb12
      have hO12 : Own w12 100 35 v12 (xs ++ [y]).length (rows binV (xs ++ [y])) := by rw [rows_snocB, List.length_append]; exact hown12
      have hz10 := hk10.size
      have hI12 := (hI10.keep hk11 trivial (fun _ _ => trivial)).keep' hk12 (fun e => by have := hin b e.symm; omega) (fun z _ hA e => by have := hin z e.symm; have := hAl z hA; omega)
      refine o_ast rfl ?_
      refine ops_nil ?_
      refine W_region ?_
      refine o_mvt rfl ?_
      refine op_run ((r_add rfl rfl).val (congrArg (Value.int .u64) (show IntKind.u64.wrap ((k : Int) + 1) = ((k + 1 : Nat) : Int) from by rw [wrap_u64]; omega))) rfl ?_
      refine o_ast rfl ?_
      refine ops_nil ?_
      refine ⟨by (repeat (first | with_reducible exact offM_refl _ _ | refine offM_updc rfl ?_ | refine offM_upd rfl ?_ | refine offM_updo rfl ?_ | refine offM_updo_none ?_ | refine offM_head rfl rfl ?_)), ⟨v12, k + 1, xs ++ [y], _, _, rfl, by omega, hT', hO12, hI12, ((hkA.trans hk10).trans hk11.all).own hk12 (fun z hz _ => hin z hz), fun z hz => ?_⟩, ?_⟩
      · rcases hb12 z hz with h | h
        · exact hin z h
        · omega
      · show N.1 - ((k + 1 : Nat) : Int).toNat < N.1 - (k : Int).toNat
        omega
    · refine W_exit ?_
      refine W_seq ?_
      refine W_region ?_
      refine o_mvt rfl ?_
      refine o_ast rfl ?_
      refine ops_nil ?_
      refine W_ret ?_
      refine ret1 u rfl ?_ ?_; rfl
      have hst := hT.stop bnR (by
        by_cases hb : bad' = true
        · exact .inr hb
        · left
          have : ¬ k < N.1 := fun hh => h9 ⟨hh, by simpa using hb⟩
          omega)
      rw [hst]
      exact ⟨hO, hI, hkA, hin⟩
theorem ti_bss : tinfo Tryd.prog 34 = some (some (.slice none 0 0), 1, 24) := by kernel_rfl
theorem cm_ev (w : World) (b : Nat) (A : Nat → Prop) (bs : List UInt8) (bad : Bool) (hAb : ¬ A b) (h : InC w b A bs bad) :
    Ret Tryd.prog 55 [.pointer (some ⟨b, 0, none⟩)].toArray w fun r w' => By w' r (bytsR 65536 bs bad).1 ∧ InB A r ∧ InC w' b A (bytsR 65536 bs bad).2.1 (bytsR 65536 bs bad).2.2 ∧ Keep (· ≠ b) w w' := by
  refine enter (fn := Tryd.f55) (n := 5) Tryd.func55 rfl rfl (by simp) ?_
  refine W_seq ?_
  refine W_region ?_
  refine o_asc rfl ?_
  refine ops_nil ?_
  refine W_seq ?_
  refine W_region ?_
  refine o_mvt rfl ?_
  refine op_call rfl rfl rfl (in_Bytes w b A bs bad 65536 (by decide) hAb h) ?_; rintro v1 w1 hr1
  have hr : By w1 v1 (bytsR 65536 bs bad).1 ∧ InB A v1 ∧ InC w1 b A (bytsR 65536 bs bad).2.1 (bytsR 65536 bs bad).2.2 ∧ Keep (· ≠ b) w w1 := by
    unfold bytsR tkR
    simp only
    split at hr1
    · rename_i hc
      rw [if_pos hc]
      obtain ⟨rfl, h2, h3⟩ := hr1
      exact ⟨Sl.nil _ _, InB.nil, h2, h3⟩
    · rename_i hc
      rw [if_neg hc]
      exact hr1
  refine o_ast rfl ?_
  refine ops_nil ?_
  refine W_ret ?_
  refine ret1 v1 rfl ?_ ?_; rfl
  exact hr
theorem rows1_own {w : World} {e : TypeId} {u : Value} {vks : List Value} {xs : List (List UInt8)} (h : Own w e 1 u vks.length vks) (hl : vks.length = xs.length) (hv : ∀ (i : Nat) (v : Value) (x : List UInt8), vks[i]? = some v → xs[i]? = some x → By w v x) : RowsV w u vks xs :=
  ⟨hl, hl ▸ h.sl, hv⟩
theorem RowsV.keep2 {w w' : World} {C : Nat → Prop} {v : Value} {vks : List Value} {xs : List (List UInt8)} (h : RowsV w v vks xs) (hk : Keep C w w') (h1 : InB C v) (h2 : ∀ u ∈ vks, InB C u) : RowsV w' v vks xs :=
  ⟨h.1, h.2.1.keep hk h1, fun i u x hu hx => (h.2.2 i u x hu hx).keep hk (h2 u (List.mem_of_getElem? hu))⟩
theorem cm_takenE (w : World) (b : Nat) (A : Nat → Prop) (bs : List UInt8) (bad : Bool) (hAb : ¬ A b) (hAl : ∀ k, A k → k < w.heap.size) (h : InC w b A bs bad) :
    Ret Tryd.prog 54 [.pointer (some ⟨b, 0, none⟩), .func (.func 55) #[] #[]].toArray w fun r w' =>
      ∃ vks, RowsV w' r vks (manyR (bytsR 65536) bs bad).1 ∧ (∀ u ∈ vks, InB A u) ∧ InC w' b A (manyR (bytsR 65536) bs bad).2.1 (manyR (bytsR 65536) bs bad).2.2 ∧ Keep (· ≠ b) w w' ∧ InB (fun z => w.heap.size ≤ z) r := by
  have hbl : b < w.heap.size := by obtain ⟨_, hB, _⟩ := h; exact hB.lt
  have hn := numR_le 65536 bs bad
  obtain ⟨N, hN⟩ : ∃ N, N = numR 65536 bs bad := ⟨_, rfl⟩
  refine enter (fn := Tryd.f54) (n := 26) Tryd.func54 rfl rfl (by simp) ?_
  refine W_seq ?_
  refine W_region ?_
  refine o_asc rfl ?_
  refine ops_nil ?_
  refine W_seq ?_
  refine W_region ?_
  refine o_mvt rfl ?_
  refine op_call rfl rfl rfl (in_Number w b A bs bad 65536 hAb h) ?_; rintro v1 w1 ⟨rfl, hI1, hk1⟩
  rw [← hN] at hI1 hn ⊢
  have hm : manyR (bytsR 65536) bs bad = lstR (bytsR 65536) N.1 N.2.1 N.2.2 := by rw [hN]; rfl
  rw [hm]
  refine o_ast rfl ?_
  refine ops_nil ?_
  refine W_seq ?_
  refine W_seq ?_
  refine W_region ?_
  refine o_asc rfl ?_
  refine ops_nil ?_
  refine W_block ?_
  refine W_loop [4, 6] [4, 6, 9, 10, 11, 12, 13, 14, 15, 16, 17, 18, 19, 20, 21, 22, 23, 24] (fun vs w' => ∃ (u : Value) (k : Nat) (xs : List (List UInt8)) (vks : List Value) (bs' : List UInt8) (bad' : Bool), vs = [u, .int .u64 k] ∧ k ≤ N.1 ∧ Tkn (bytsR 65536) N.1 N.2.1 N.2.2 xs k bs' bad' ∧ Own w' 34 1 u vks.length vks ∧ vks.length = xs.length ∧ (∀ (i : Nat) (v : Value) (x : List UInt8), vks[i]? = some v → xs[i]? = some x → By w' v x) ∧ (∀ u ∈ vks, InB A u) ∧ InC w' b A bs' bad' ∧ Keep (· ≠ b) w w' ∧ InB (fun z => w.heap.size ≤ z) u) (fun vs _ => match vs with | [_, .int _ y] => N.1 - y.toNat | _ => 0) ⟨.slice none 0 0, 0, [], [], _, _, rfl, Nat.zero_le _, Tkn.zero .., own_nil _ _ _, rfl, (fun i v x hv => by simp at hv), (fun u hu => by cases hu), hI1, hk1, InB.nil⟩ ?_
  rintro J2 vs w2 ⟨u, k, xs, vks, bs', bad', rfl, hk, hT, hO, hvl, hby, hvA, hI, hkA, hin⟩ -
  refine W_seq ?_
  refine W_cut [16] [9, 10, 11, 12, 13, 14, 15, 16] (fun vs w3 => vs = [.bool (decide (k < N.1 ∧ bad' = false))] ∧ w3 = w2) ?_ ?_
  · refine W_region ?_
    refine o_mvt rfl ?_
    refine o_mvt rfl ?_
    refine op_run (r_lss rfl rfl) rfl ?_
    refine o_mvt rfl ?_
    refine g_split rfl rfl rfl (fun g4 => ?_) (fun g4 => ?_)
    · refine o_mvt (g_yes rfl rfl rfl g4) ?_
      refine op_call rfl rfl (g_yes rfl rfl rfl g4) (in_Wrong w2 b A _ _ hI) ?_; rintro v5 w5 ⟨rfl, rfl⟩
      refine op_run (r_not rfl) (g_yes rfl rfl rfl g4) ?_
      refine o_pkTt rfl g4 rfl ?_
      refine ops_nil ?_
      exact ⟨by (repeat (first | with_reducible exact offM_refl _ _ | refine offM_updc rfl ?_ | refine offM_upd rfl ?_ | refine offM_updo rfl ?_ | refine offM_updo_none ?_ | refine offM_head rfl rfl ?_)), congrArg (fun b => [Value.bool b]) (by have g4 := of_decide_eq_true g4; have hkn : k < N.1 := (by omega); cases bad' <;> simp [hkn]), rfl⟩
    · refine op_skip (g_no rfl rfl rfl g4) ?_
      refine op_skip (g_no rfl rfl rfl g4) ?_
      refine op_skip (g_no rfl rfl rfl g4) ?_
      refine o_pkFc rfl g4 rfl ?_
      refine ops_nil ?_
      exact ⟨by (repeat (first | with_reducible exact offM_refl _ _ | refine offM_updc rfl ?_ | refine offM_upd rfl ?_ | refine offM_updo rfl ?_ | refine offM_updo_none ?_ | refine offM_head rfl rfl ?_)), congrArg (fun b => [Value.bool b]) (by have g4 := of_decide_eq_false g4; symm; exact decide_eq_false fun hh => g4 (by have := hh.1; omega)), rfl⟩
  · rintro J8 vs w8 ⟨rfl, rfl⟩ -
    refine W_cond_p rfl (fun h9 => ?_) (fun h9 => ?_)
    · refine W_skip ?_
      refine W_seq ?_
      refine W_block ?_
      refine W_region ?_
      refine o_mvt rfl ?_
      refine o_mvt rfl ?_
      refine o_mvt rfl ?_
      obtain ⟨hkn, rfl⟩ := h9
      have hz8 := hkA.size
      refine op_call rfl rfl rfl (cm_ev w8 b A bs' false hAb hI) ?_; rintro v10 w10 ⟨hby10, hin10, hI10, hk10⟩
      obtain ⟨y, hy⟩ : ∃ y, y = (bytsR 65536 bs' false).1 := ⟨_, rfl⟩
      have hT' := hT.step (bytsR 65536) hkn
      rw [← hy] at hT' hby10
      have hO10 := hO.keep hk10 (fun z hz e => by have := hin z hz; omega)
      obtain ⟨a10, c10, rfl, _, _⟩ := hby10.form
      refine o_bs1 (v := Value.slice a10 y.length c10) rfl rfl rfl rfl rfl rfl ?_; intro w11 b11 e11 hB11 hk11 hs11
      have hS11 : Sl w11 (.slice (some ⟨b11, 0, none⟩) 1 1) 1 1 [.slice a10 y.length c10] := (Own.blk (n := 1) (sz := 1) hB11 rfl (by unfold maxLen; omega)).sl
      have hxl := hT.1
      refine o_appS (v := u) rfl rfl hS11 rfl ti_bss rfl rfl (hO10.keep hk11 (fun _ _ => trivial)) rfl (by unfold maxLen; omega) (by omega) rfl ?_; intro v12 w12 hown12 hk12 hb12
      have hO12 : Own w12 34 1 v12 (vks ++ [Value.slice a10 y.length c10]).length (vks ++ [Value.slice a10 y.length c10]) := by rw [List.length_append]; exact hown12
      have hz10 := hk10.size
      have hAu : ∀ z, A z → some z ≠ u.ownBlock := fun z hA e => by have := hin z e.symm; have := hAl z hA; omega
      have hI12 := (hI10.keep hk11 trivial (fun _ _ => trivial)).keep' hk12 (fun e => by have := hin b e.symm; omega) (fun z _ hA => hAu z hA)
      have hAb' : ∀ z, A z → z ≠ b := fun z hA e => hAb (e ▸ hA)
      have hby12 : ∀ (i : Nat) (v : Value) (x : List UInt8), (vks ++ [Value.slice a10 y.length c10])[i]? = some v → (xs ++ [y])[i]? = some x → By w12 v x := fun i v x hv hx => by
        by_cases hi : i < xs.length
        · rw [List.getElem?_append_left (by omega)] at hv
          rw [List.getElem?_append_left hi] at hx
          exact (((hby i v x hv hx).keep hk10 ((hvA v (List.mem_of_getElem? hv)).mono hAb')).keep hk11 (fun _ _ => trivial)).keep hk12 ((hvA v (List.mem_of_getElem? hv)).mono hAu)
        · have h1 := (List.getElem?_eq_some_iff.1 hx).1
          rw [List.length_append, List.length_singleton] at h1
          have hie : i = xs.length := by omega
          subst hie
          rw [← hvl, List.getElem?_concat_length] at hv
          rw [List.getElem?_concat_length] at hx
          injection hv with hv; injection hx with hx
          subst hv; subst hx
          exact (hby10.keep hk11 (fun _ _ => trivial)).keep hk12 (hin10.mono hAu)
      refine o_ast rfl ?_
      refine ops_nil ?_
      refine W_region ?_
      refine o_mvt rfl ?_
      refine op_run ((r_add rfl rfl).val (congrArg (Value.int .u64) (show IntKind.u64.wrap ((k : Int) + 1) = ((k + 1 : Nat) : Int) from by rw [wrap_u64]; omega))) rfl ?_
      refine o_ast rfl ?_
      refine ops_nil ?_
      refine ⟨by (repeat (first | with_reducible exact offM_refl _ _ | refine offM_updc rfl ?_ | refine offM_upd rfl ?_ | refine offM_updo rfl ?_ | refine offM_updo_none ?_ | refine offM_head rfl rfl ?_)), ⟨v12, k + 1, xs ++ [y], vks ++ [Value.slice a10 y.length c10], _, _, rfl, by omega, hT', hO12, by rw [List.length_append, List.length_append, hvl]; rfl, hby12, fun v hv => ?_, hI12, ((hkA.trans hk10).trans hk11.all).own hk12 (fun z hz _ => hin z hz), fun z hz => ?_⟩, ?_⟩
      · rcases List.mem_append.1 hv with hv | hv
        · exact hvA v hv
        · obtain rfl := List.mem_singleton.1 hv; exact hin10
      · rcases hb12 z hz with h | h
        · exact hin z h
        · omega
      · show N.1 - ((k + 1 : Nat) : Int).toNat < N.1 - (k : Int).toNat
        omega
    · refine W_exit ?_
      refine W_seq ?_
      refine W_region ?_
      refine o_mvt rfl ?_
      refine o_ast rfl ?_
      refine ops_nil ?_
      refine W_ret ?_
      refine ret1 u rfl ?_ ?_; rfl
      have hst := hT.stop (bytsR 65536) (by
        by_cases hb : bad' = true
        · exact .inr hb
        · left
          have : ¬ k < N.1 := fun hh => h9 ⟨hh, by simpa using hb⟩
          omega)
      rw [hst]
      exact ⟨vks, rows1_own hO hvl hby, hvA, hI, hkA, hin⟩
end Go.Proofs.YtigehkfdfecfoaaDoor.B
