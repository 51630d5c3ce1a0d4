/-
  Trees: the proof of a row, the program's and the document's; are two proofs one?
-/
import Derived.Test.YtnjepmdgbkhoaaaMerkB
namespace Go.Proofs.Ytnjepmdgbkhoaaa.B
open Go
set_option linter.unusedVariables false
set_option maxHeartbeats 2000000
set_option maxRecDepth 100000
attribute [local irreducible] W OpsW OpsQ retP
theorem rows_snoc (ds : List Dig) (d : Dig) : rows dgR (ds ++ [d]) = rows dgR ds ++ dgR d := by unfold rows; rw [List.flatMap_append]; simp
theorem proveD_len : ∀ (n : Nat) (pss : List (List UInt8)) (pos : Nat), pss.length ≤ n → pos < pss.length → (proveD tagD pss pos).length < pss.length := by
  intro n pss pos hn hp
  have h := prove_lead tagD pss.length pss pos pss[pos] (Nat.le_refl _) (List.getElem?_eq_getElem hp)
  have h1 := (lead_up tagD pss.length pss.length pos pss[pos] (proveD tagD pss pos) (Nat.le_refl _)).1
  rw [h] at h1
  have h2 := of_decide_eq_true h1.symm
  have h3 := sides_len pss.length pss.length pos (Nat.le_refl _)
  omega


theorem mk_Prove (w : World) (v : Value) (pss : List (List UInt8)) (pos : Int) (hv : SlR w v 1 (RowB w) pss) (hl : ∀ p ∈ pss, p.length ≤ 100000) (hm : pss.length ≤ 1000000) :
    Ret Try.prog 16 [v, .int .i64 pos].toArray w fun r w' => ∃ (u : Value) (e : Int) (ds : List Dig), r = .tuple #[u, .int .i64 e] ∧ Own w' 23 32 u ds.length (rows dgR ds) ∧ InB (fun b => w.heap.size ≤ b) u ∧ (e, ds) = (if 0 ≤ pos ∧ pos < pss.length then (0, proveD tagD pss pos.toNat) else (2, [])) ∧ Keep All w w' := by
  obtain ⟨a0, c0, rfl, hc0, hcm0⟩ := hv.form
  refine enter (fn := Try.f16) (n := 50) Try.func16 rfl rfl (by simp) ?_
  refine W_seq ?_
  refine W_region ?_
  refine o_asc rfl ?_
  refine o_asc rfl ?_
  refine ops_nil ?_
  refine W_seq ?_
  refine W_cut [14] [7, 8, 9, 10, 11, 12, 13, 14] (fun vs w1 => vs = [.bool (decide (¬ (0 ≤ pos ∧ pos < pss.length)))] ∧ w1 = w) ?_ ?_
  · refine W_region ?_
    refine o_mvt rfl ?_
    refine op_run (r_lss rfl rfl) rfl ?_
    refine o_mvt rfl ?_
    refine g_split rfl rfl rfl (fun g2 => ?_) (fun g2 => ?_)
    · refine o_mvt (g_yes rfl rfl rfl g2) ?_
      refine o_mvt (g_yes rfl rfl rfl g2) ?_
      refine op_run (r_len rfl rfl rfl) (g_yes rfl rfl rfl g2) ?_
      refine op_run (r_geq rfl rfl) (g_yes rfl rfl rfl g2) ?_
      refine o_pkFt rfl g2 rfl ?_
      refine ops_nil ?_
      exact ⟨by (repeat (first | with_reducible exact offM_refl _ _ | refine offM_updc rfl ?_ | refine offM_upd rfl ?_ | refine offM_updo rfl ?_ | refine offM_updo_none ?_ | refine offM_head rfl rfl ?_)), congrArg (fun b => [Value.bool b]) (by have g2 := of_decide_eq_false g2; rw [decide_eq_decide]; omega), rfl⟩
    · refine op_skip (g_no rfl rfl rfl g2) ?_
      refine op_skip (g_no rfl rfl rfl g2) ?_
      refine op_skip (g_no rfl rfl rfl g2) ?_
      refine op_skip (g_no rfl rfl rfl g2) ?_
      refine o_pkTc rfl g2 rfl ?_
      refine ops_nil ?_
      exact ⟨by (repeat (first | with_reducible exact offM_refl _ _ | refine offM_updc rfl ?_ | refine offM_upd rfl ?_ | refine offM_updo rfl ?_ | refine offM_updo_none ?_ | refine offM_head rfl rfl ?_)), congrArg (fun b => [Value.bool b]) (by have g2 := of_decide_eq_true g2; symm; apply decide_eq_true; omega), rfl⟩
  · rintro J5 vs w5 ⟨rfl, rfl⟩ -
    refine W_cond_p rfl (fun h6 => ?_) (fun h6 => ?_)
    · refine W_seq ?_
      refine W_region ?_
      refine o_asc rfl ?_
      refine o_asc rfl ?_
      refine ops_nil ?_
      refine W_ret ?_
      refine ret2 (.slice none 0 0) (.int .i64 2) rfl ?_ ?_ ?_; rfl; rfl
      exact ⟨_, _, [], rfl, own_nil _ _ _, InB.nil, by rw [if_neg h6], Keep.refl _⟩
    · refine W_skip ?_
      refine W_seq ?_
      refine W_block ?_
      have hpc : 0 ≤ pos ∧ pos < pss.length := Decidable.not_not.1 h6
      obtain ⟨k, rfl⟩ := Int.eq_ofNat_of_zero_le hpc.1
      refine W_loop [0, 1, 4, 6] [0, 1, 4, 6, 15, 16, 17, 18, 19, 20, 21, 22, 23, 24, 25, 26, 27, 28, 29, 30, 31, 32, 33, 34, 35, 36, 37, 38, 39, 40, 41, 42, 43, 44, 45, 46] (fun vs w' => ∃ (c : List (List UInt8)) (p : Nat) (acc : List Dig) (ac : Option Addr) (cc : Nat) (u x : Value), vs = [.slice ac c.length cc, .int .i64 p, u, x] ∧ SlR w5 (.slice ac c.length cc) 1 (RowB w5) c ∧ p < c.length ∧ (∀ q ∈ c, q.length ≤ 100000) ∧ acc.length + c.length ≤ pss.length ∧ proveD tagD pss k = proveD tagD c p ++ acc.reverse ∧ Own w' 23 32 u acc.length (rows dgR acc) ∧ InB (fun b => w5.heap.size ≤ b) u ∧ Keep All w5 w') (fun vs _ => match vs with | [.slice _ n _, _, _, _] => n | _ => 0) ⟨pss, k, [], a0, c0, .slice none 0 0, _, rfl, hv, by omega, hl, by simp, by simp, own_nil _ _ _, InB.nil, Keep.refl _⟩ ?_
      rintro J8 vs w8 ⟨c, p, acc, ac, cc, u, x, rfl, hc, hpc', hl', hal, hpd, hO, hin, hkw⟩ -
      refine W_seq ?_
      refine W_seq ?_
      refine W_region ?_
      refine o_mvt rfl ?_
      refine op_run (r_len rfl rfl rfl) rfl ?_
      refine op_run (r_gtr rfl rfl) rfl ?_
      refine ops_nil ?_
      refine W_cond_p rfl (fun h9 => ?_) (fun h9 => ?_)
      · refine W_skip ?_
        refine W_block ?_
        refine W_seq ?_
        refine W_region ?_
        refine o_mvt rfl ?_
        refine op_run (r_len rfl rfl rfl) rfl ?_
        have h2c : 2 ≤ c.length := by omega
        have hsp := splitN_lt h2c
        have hsp0 := splitN_pos c.length
        obtain ⟨_, _, eqc, hcc, hccm⟩ := hc.form
        injection eqc with _ _ eqc; subst eqc
        refine op_call rfl rfl rfl (mk_split w8 c.length h2c (by unfold maxLen at hccm; omega)) ?_; rintro v10 w10 ⟨rfl, rfl⟩
        have hsa : SlR w5 (subSl ac 1 0 (splitN c.length) cc) 1 (RowB w5) (c.take (splitN c.length)) := hc.sub (Nat.zero_le _) (by omega) (by omega) (Nat.le_refl _) (by decide)
        have hsb : SlR w5 (subSl ac 1 (splitN c.length) c.length cc) 1 (RowB w5) (c.drop (splitN c.length)) := by
          have := hc.sub (h := c.length) (show splitN c.length ≤ c.length by omega) (Nat.le_refl _) hcc (Nat.le_refl _) (by decide)
          rwa [List.take_length] at this
        have hla : (c.take (splitN c.length)).length = splitN c.length := by rw [List.length_take]; omega
        have hlb : (c.drop (splitN c.length)).length = c.length - splitN c.length := List.length_drop
        refine o_ast rfl ?_
        refine ops_nil ?_
        refine W_seq ?_
        refine W_seq ?_
        refine W_region ?_
        refine o_mvt rfl ?_
        refine o_mvt rfl ?_
        refine op_run (r_lss rfl rfl) rfl ?_
        refine ops_nil ?_
        refine W_cond_p rfl (fun h11 => ?_) (fun h11 => ?_)
        · refine W_seq ?_
          refine W_held (fun _ => True) (by kernel_rfl) (trivial) (fun hS => ?_)
          refine any_mvt 0 rfl (by kernel_rfl) (by kernel_rfl) (by kernel_rfl) rfl hS ?_
          refine any_mvt 1 rfl (by kernel_rfl) (by kernel_rfl) (by kernel_rfl) rfl hS ?_
          refine any_mvt 2 rfl (by kernel_rfl) (by kernel_rfl) (by kernel_rfl) rfl hS ?_
          refine any_run 3 (fun w' hS' => (r_sliceS_lo rfl rfl rfl rfl (by omega) (by omega))) rfl (by kernel_rfl) (by kernel_rfl) (by kernel_rfl) rfl hS ?_
          refine any_mvt 7 rfl (by kernel_rfl) (by kernel_rfl) (by kernel_rfl) rfl hS ?_
          refine any_mvt 8 rfl (by kernel_rfl) (by kernel_rfl) (by kernel_rfl) rfl hS ?_
          refine any_run 9 (fun w' hS' => (r_sliceS_hi rfl rfl rfl rfl (by omega) (by omega))) rfl (by kernel_rfl) (by kernel_rfl) (by kernel_rfl) rfl hS ?_
          refine any_one 4 (by kernel_rfl) (one_of rfl ?_)
          refine op_call rfl rfl rfl (mk_Root (c.length - splitN c.length) _ _ (c.drop (splitN c.length)) hlb (rowsB_keep hsb (hkw.trans (Keep.drawn w10))) (fun q hq => hl' q (List.mem_of_mem_drop hq))) ?_; rintro v15 w15 ⟨rfl, hk15⟩
          refine ops_nil ⟨trivial, fun hS => ?_⟩
          refine any_one 5 (by kernel_rfl) (one_of rfl ?_)
          refine o_bsA1 (dgR (rootD tagD (c.drop (splitN c.length)))) rfl rfl (by rw [dgR_len]; exact ti_d) (by rw [dgR_len]; rfl) (by rw [dgR_len]; exact Nat.le_of_ble_eq_true rfl) rfl ?_; intro w17 b17 e17 hB17 hk17 hs17
          refine ops_nil ⟨trivial, fun hS => ?_⟩
          refine any_one 6 (by kernel_rfl) (one_of rfl ?_)
          have hkA := (Keep.drawn w10).trans (hk15.trans hk17)
          refine o_app (v := u) (c := 1) (m := acc.length) (dgR (rootD tagD (c.drop (splitN c.length)))) rfl rfl rfl ti_d rfl (by decide) (hO.keep hkA (fun _ _ => trivial)) (by rw [dgR_len]) hB17.all (dgR_one _) (by unfold maxLen; omega) (by omega) rfl ?_; intro v19 w19 hown19 hk19 hb19
          refine ops_nil ⟨trivial, fun hS => ?_⟩
          have hkB : Keep All w5 w19 := (hkw.trans hkA).outA (B := fun k => w5.heap.size ≤ k) (hk19.mono fun b _ h e => h (hin b e.symm)) (fun b hb => hb)
          have hinB : InB (fun b => w5.heap.size ≤ b) v19 := fun b hb => by
            rcases hb19 b hb with h | h
            · exact hin b h
            · have := (hkw.trans hkA).size; omega
          obtain ⟨ax, cx, ex, _, _⟩ := hsa.form
          refine any_ast 10 rfl (by kernel_rfl) (by kernel_rfl) (by kernel_rfl) rfl hS ?_
          refine any_ast 11 rfl (by kernel_rfl) (by kernel_rfl) (by kernel_rfl) rfl hS ?_
          refine any_done (by kernel_rfl) ?_
          refine W_exit ?_
          refine ⟨by (repeat (first | with_reducible exact offM_refl _ _ | refine offM_updc rfl ?_ | refine offM_upd rfl ?_ | refine offM_updo rfl ?_ | refine offM_updo_none ?_ | refine offM_head rfl rfl ?_)), ⟨c.take (splitN c.length), p, acc ++ [rootD tagD (c.drop (splitN c.length))], ax, cx, v19, .int .i64 ((splitN c.length : Nat) : Int), ?_, ex ▸ hsa, by rw [hla]; omega, fun q hq => hl' q (List.mem_of_mem_take hq), by rw [List.length_append, hla]; simp only [List.length_singleton]; omega, ?_, ?_, hinB, hkB⟩, ?_⟩
          · exact congrArg (fun z : Value => [z, Value.int .i64 ((p : Nat) : Int), v19, _]) ex
          · rw [hpd, proveD_l tagD h2c (by omega), List.reverse_append]; simp
          · rw [List.length_append, rows_snoc]; exact hown19
          · show _ < c.length
            have : ((((splitN c.length : Nat) : Int)).toNat - 0) < c.length := by omega
            exact this
        · refine W_skip ?_
          refine W_held (fun _ => True) (by kernel_rfl) (trivial) (fun hS => ?_)
          refine any_mvt 0 rfl (by kernel_rfl) (by kernel_rfl) (by kernel_rfl) rfl hS ?_
          refine any_mvt 1 rfl (by kernel_rfl) (by kernel_rfl) (by kernel_rfl) rfl hS ?_
          refine any_mvt 2 rfl (by kernel_rfl) (by kernel_rfl) (by kernel_rfl) rfl hS ?_
          refine any_run 3 (fun w' hS' => (r_sliceS_hi rfl rfl rfl rfl (by omega) (by omega))) rfl (by kernel_rfl) (by kernel_rfl) (by kernel_rfl) rfl hS ?_
          refine any_mvt 7 rfl (by kernel_rfl) (by kernel_rfl) (by kernel_rfl) rfl hS ?_
          refine any_mvt 8 rfl (by kernel_rfl) (by kernel_rfl) (by kernel_rfl) rfl hS ?_
          refine any_run 9 (fun w' hS' => (r_sliceS_lo rfl rfl rfl rfl (by omega) (by omega))) rfl (by kernel_rfl) (by kernel_rfl) (by kernel_rfl) rfl hS ?_
          refine any_mvt 10 rfl (by kernel_rfl) (by kernel_rfl) (by kernel_rfl) rfl hS ?_
          refine any_mvt 11 rfl (by kernel_rfl) (by kernel_rfl) (by kernel_rfl) rfl hS ?_
          refine any_run 12 (fun w' hS' => ((r_sub rfl rfl).val (congrArg (Value.int .i64) (show IntKind.i64.wrap ((p : Int) - ((splitN c.length : Nat) : Int)) = ((p - splitN c.length : Nat) : Int) from (wrap_i64 (by omega) (by unfold maxLen at hccm; omega)).trans (by omega))))) rfl (by kernel_rfl) (by kernel_rfl) (by kernel_rfl) rfl hS ?_
          refine any_one 4 (by kernel_rfl) (one_of rfl ?_)
          refine op_call rfl rfl rfl (mk_Root (splitN c.length) _ _ (c.take (splitN c.length)) hla (rowsB_keep hsa (hkw.trans (Keep.drawn w10))) (fun q hq => hl' q (List.mem_of_mem_take hq))) ?_; rintro v25 w25 ⟨rfl, hk25⟩
          refine ops_nil ⟨trivial, fun hS => ?_⟩
          refine any_one 5 (by kernel_rfl) (one_of rfl ?_)
          refine o_bsA1 (dgR (rootD tagD (c.take (splitN c.length)))) rfl rfl (by rw [dgR_len]; exact ti_d) (by rw [dgR_len]; rfl) (by rw [dgR_len]; exact Nat.le_of_ble_eq_true rfl) rfl ?_; intro w27 b27 e27 hB27 hk27 hs27
          refine ops_nil ⟨trivial, fun hS => ?_⟩
          refine any_one 6 (by kernel_rfl) (one_of rfl ?_)
          have hkA := (Keep.drawn w10).trans (hk25.trans hk27)
          refine o_app (v := u) (c := 1) (m := acc.length) (dgR (rootD tagD (c.take (splitN c.length)))) rfl rfl rfl ti_d rfl (by decide) (hO.keep hkA (fun _ _ => trivial)) (by rw [dgR_len]) hB27.all (dgR_one _) (by unfold maxLen; omega) (by omega) rfl ?_; intro v29 w29 hown29 hk29 hb29
          refine ops_nil ⟨trivial, fun hS => ?_⟩
          have hkB : Keep All w5 w29 := (hkw.trans hkA).outA (B := fun k => w5.heap.size ≤ k) (hk29.mono fun b _ h e => h (hin b e.symm)) (fun b hb => hb)
          have hinB : InB (fun b => w5.heap.size ≤ b) v29 := fun b hb => by
            rcases hb29 b hb with h | h
            · exact hin b h
            · have := (hkw.trans hkA).size; omega
          obtain ⟨ax, cx, ex, _, _⟩ := hsb.form
          refine any_ast 13 rfl (by kernel_rfl) (by kernel_rfl) (by kernel_rfl) rfl hS ?_
          refine any_ast 14 rfl (by kernel_rfl) (by kernel_rfl) (by kernel_rfl) rfl hS ?_
          refine any_ast 15 rfl (by kernel_rfl) (by kernel_rfl) (by kernel_rfl) rfl hS ?_
          refine any_done (by kernel_rfl) ?_
          refine ⟨by (repeat (first | with_reducible exact offM_refl _ _ | refine offM_updc rfl ?_ | refine offM_upd rfl ?_ | refine offM_updo rfl ?_ | refine offM_updo_none ?_ | refine offM_head rfl rfl ?_)), ⟨c.drop (splitN c.length), p - splitN c.length, acc ++ [rootD tagD (c.take (splitN c.length))], ax, cx, v29, .int .i64 ((splitN c.length : Nat) : Int), ?_, ex ▸ hsb, by rw [hlb]; omega, fun q hq => hl' q (List.mem_of_mem_drop hq), by rw [List.length_append, hlb]; simp only [List.length_singleton]; omega, ?_, ?_, hinB, hkB⟩, ?_⟩
          · exact congrArg (fun z : Value => [z, Value.int .i64 ((p - splitN c.length : Nat) : Int), v29, _]) ex
          · rw [hpd, proveD_r tagD h2c (by omega), List.reverse_append]; simp
          · rw [List.length_append, rows_snoc]; exact hown29
          · show _ < c.length
            have : (c.length - (((splitN c.length : Nat) : Int)).toNat) < c.length := by omega
            exact this
      · refine W_exit ?_
        refine W_seq ?_
        refine W_region ?_
        refine o_mvt rfl ?_
        have hpe : proveD tagD pss k = acc.reverse := by rw [hpd, proveD_1 tagD (by omega)]; rfl
        refine op_call rfl rfl rfl (sl_RevD w8 u acc hO) ?_; rintro v32 w32 ⟨hO32, hk32⟩
        refine ops_nil ?_
        refine W_seq ?_
        refine W_region ?_
        refine o_mvt rfl ?_
        refine o_ast rfl ?_
        refine o_asc rfl ?_
        refine ops_nil ?_
        refine W_ret ?_
        refine ret2 u (.int .i64 0) rfl ?_ ?_ ?_; rfl; rfl
        exact ⟨_, _, acc.reverse, rfl, by rw [List.length_reverse]; exact hO32, hin, by rw [if_pos hpc]; exact congrArg (fun z => (0, z)) hpe.symm, hkw.outA (B := fun k => w5.heap.size ≤ k) (hk32.mono fun b _ h e => h (hin b e.symm)) (fun b hb => hb)⟩

theorem rf_Prove (n : Nat) : ∀ (w : World) (v : Value) (pss : List (List UInt8)) (pos : Nat), pss.length = n → pos < pss.length → SlR w v 1 (RowB w) pss → (∀ p ∈ pss, p.length ≤ 100000) → pss.length ≤ 1000000 →
    Ret Try.prog 19 [v, .int .i64 pos].toArray w fun r w' => Own w' 23 32 r (proveD tagD pss pos).length (rows dgR (proveD tagD pss pos)) ∧ InB (fun b => w.heap.size ≤ b) r ∧ Keep All w w' := by
  induction n using Nat.strongRecOn
  rename_i n ih
  intro w v pss pos hn hpos hv hl hm
  obtain ⟨a0, c0, rfl, hc0, hcm0⟩ := hv.form
  refine enter (fn := Try.f19) (n := 40) Try.func19 rfl rfl (by simp) ?_
  refine W_seq ?_
  refine W_region ?_
  refine o_asc rfl ?_
  refine ops_nil ?_
  refine W_seq ?_
  refine W_seq ?_
  refine W_region ?_
  refine o_mvt rfl ?_
  refine op_run (r_len rfl rfl rfl) rfl ?_
  refine op_run (r_eql rfl rfl) rfl ?_
  refine ops_nil ?_
  refine W_cond_p rfl (fun h1 => ?_) (fun h1 => ?_)
  · refine W_seq ?_
    refine W_region ?_
    refine o_bs0 rfl rfl rfl ?_; intro w2 b2 e2 hB2 hk2 hs2
    refine o_ast rfl ?_
    refine ops_nil ?_
    refine W_ret ?_
    refine ret1 (.slice (some ⟨b2, 0, none⟩) 0 0) rfl ?_ ?_; rfl
    rw [proveD_1 tagD (by omega)]
    exact ⟨⟨rfl, .inr ⟨b2, 0, #[], rfl, Nat.zero_le _, hB2, Nat.le_refl _, Nat.zero_le _, rfl, rfl⟩⟩, fun b hb => by obtain rfl : b2 = b := Option.some.inj hb; omega, hk2⟩
  · refine W_skip ?_
    refine W_seq ?_
    refine W_region ?_
    refine o_mvt rfl ?_
    refine op_run (r_len rfl rfl rfl) rfl ?_
    have h2 : 2 ≤ pss.length := by omega
    have hsp := splitN_lt h2
    have hsp0 := splitN_pos pss.length
    refine op_call rfl rfl rfl (rf_Split w pss.length h2 (by unfold maxLen at hcm0; omega)) ?_; rintro v4 w4 ⟨rfl, rfl⟩
    have hsa : SlR w4 (subSl a0 1 0 (splitN pss.length) c0) 1 (RowB w4) (pss.take (splitN pss.length)) := hv.sub (Nat.zero_le _) (by omega) (by omega) (Nat.le_refl _) (by decide)
    have hsb : SlR w4 (subSl a0 1 (splitN pss.length) pss.length c0) 1 (RowB w4) (pss.drop (splitN pss.length)) := by
      have := hv.sub (h := pss.length) (show splitN pss.length ≤ pss.length by omega) (Nat.le_refl _) hc0 (Nat.le_refl _) (by decide)
      rwa [List.take_length] at this
    have hla : (pss.take (splitN pss.length)).length = splitN pss.length := by rw [List.length_take]; omega
    have hlb : (pss.drop (splitN pss.length)).length = pss.length - splitN pss.length := List.length_drop
    refine o_ast rfl ?_
    refine ops_nil ?_
    refine W_seq ?_
    refine W_seq ?_
    refine W_region ?_
    refine o_mvt rfl ?_
    refine o_mvt rfl ?_
    refine op_run (r_lss rfl rfl) rfl ?_
    refine ops_nil ?_
    refine W_cond_p rfl (fun h5 => ?_) (fun h5 => ?_)
    · refine W_seq ?_
      refine W_held (fun _ => True) (by kernel_rfl) (trivial) (fun hS => ?_)
      refine any_mvt 0 rfl (by kernel_rfl) (by kernel_rfl) (by kernel_rfl) rfl hS ?_
      refine any_mvt 1 rfl (by kernel_rfl) (by kernel_rfl) (by kernel_rfl) rfl hS ?_
      refine any_run 2 (fun w' hS' => (r_sliceS_hi rfl rfl rfl rfl (by omega) (by omega))) rfl (by kernel_rfl) (by kernel_rfl) (by kernel_rfl) rfl hS ?_
      refine any_mvt 3 rfl (by kernel_rfl) (by kernel_rfl) (by kernel_rfl) rfl hS ?_
      refine any_mvt 5 rfl (by kernel_rfl) (by kernel_rfl) (by kernel_rfl) rfl hS ?_
      refine any_mvt 6 rfl (by kernel_rfl) (by kernel_rfl) (by kernel_rfl) rfl hS ?_
      refine any_run 7 (fun w' hS' => (r_sliceS_lo rfl rfl rfl rfl (by omega) (by omega))) rfl (by kernel_rfl) (by kernel_rfl) (by kernel_rfl) rfl hS ?_
      refine any_one 4 (by kernel_rfl) (one_of rfl ?_)
      refine op_call rfl rfl rfl (ih (splitN pss.length) (by omega) _ _ (pss.take (splitN pss.length)) (pos) hla (by rw [hla]; omega) (rowsB_keep hsa (Keep.drawn w4)) (fun q hq => hl q (List.mem_of_mem_take hq)) (by rw [hla]; omega)) ?_; rintro v9 w9 ⟨hO9, hin9, hk9⟩
      refine ops_nil ⟨trivial, fun hS => ?_⟩
      refine any_one 8 (by kernel_rfl) (one_of rfl ?_)
      refine op_call rfl rfl rfl (rf_Root (pss.length - splitN pss.length) _ _ (pss.drop (splitN pss.length)) hlb (rowsB_keep hsb ((Keep.drawn w4).trans hk9)) (fun q hq => hl q (List.mem_of_mem_drop hq))) ?_; rintro v11 w11 ⟨rfl, hk11⟩
      refine ops_nil ⟨trivial, fun hS => ?_⟩
      refine any_one 9 (by kernel_rfl) (one_of rfl ?_)
      refine o_bsA1 (dgR (rootD tagD (pss.drop (splitN pss.length)))) rfl rfl (by rw [dgR_len]; exact ti_d) (by rw [dgR_len]; rfl) (by rw [dgR_len]; exact Nat.le_of_ble_eq_true rfl) rfl ?_; intro w13 b13 e13 hB13 hk13 hs13
      refine ops_nil ⟨trivial, fun hS => ?_⟩
      refine any_one 10 (by kernel_rfl) (one_of rfl ?_)
      have hkA := hk11.trans hk13
      have hkB := (Keep.drawn w4).trans (hk9.trans hkA)
      have hlen := proveD_len _ (pss.take (splitN pss.length)) (pos) (Nat.le_refl _) (by rw [hla]; omega)
      have hlen2 : (pss.take (splitN pss.length)).length ≤ 1000000 := by rw [hla]; omega
      refine o_app (v := v9) (c := 1) (m := (proveD tagD (pss.take (splitN pss.length)) (pos)).length) (dgR (rootD tagD (pss.drop (splitN pss.length)))) rfl rfl rfl ti_d rfl (by decide) (hO9.keep hkA (fun _ _ => trivial)) (by rw [dgR_len]) hB13.all (dgR_one _) (by unfold maxLen; omega) (by omega) rfl ?_; intro v15 w15 hown15 hk15 hb15
      refine ops_nil ⟨trivial, fun hS => ?_⟩
      refine any_ast 11 rfl (by kernel_rfl) (by kernel_rfl) (by kernel_rfl) rfl hS ?_
      refine any_done (by kernel_rfl) ?_
      refine W_ret ?_
      refine ret1 v15 rfl ?_ ?_; rfl
      have e := proveD_l tagD (rows := pss) (pos := pos) h2 (by omega)
      refine ⟨by rw [e, List.length_append, rows_snoc]; exact hown15, fun b hb => ?_, hkB.outA (B := fun k => w4.heap.size ≤ k) (hk15.mono fun b _ h e => h (hin9 b e.symm)) (fun b hb => hb)⟩
      rcases hb15 b hb with h | h
      · exact hin9 b h
      · have := hkB.size; omega
    · refine W_skip ?_
      refine W_seq ?_
      refine W_held (fun _ => True) (by kernel_rfl) (trivial) (fun hS => ?_)
      refine any_mvt 0 rfl (by kernel_rfl) (by kernel_rfl) (by kernel_rfl) rfl hS ?_
      refine any_mvt 1 rfl (by kernel_rfl) (by kernel_rfl) (by kernel_rfl) rfl hS ?_
      refine any_run 2 (fun w' hS' => (r_sliceS_lo rfl rfl rfl rfl (by omega) (by omega))) rfl (by kernel_rfl) (by kernel_rfl) (by kernel_rfl) rfl hS ?_
      refine any_mvt 3 rfl (by kernel_rfl) (by kernel_rfl) (by kernel_rfl) rfl hS ?_
      refine any_mvt 4 rfl (by kernel_rfl) (by kernel_rfl) (by kernel_rfl) rfl hS ?_
      refine any_run 5 (fun w' hS' => ((r_sub rfl rfl).val (congrArg (Value.int .i64) (show IntKind.i64.wrap ((pos : Int) - ((splitN pss.length : Nat) : Int)) = ((pos - splitN pss.length : Nat) : Int) from (wrap_i64 (by omega) (by unfold maxLen at hcm0; omega)).trans (by omega))))) rfl (by kernel_rfl) (by kernel_rfl) (by kernel_rfl) rfl hS ?_
      refine any_mvt 7 rfl (by kernel_rfl) (by kernel_rfl) (by kernel_rfl) rfl hS ?_
      refine any_mvt 8 rfl (by kernel_rfl) (by kernel_rfl) (by kernel_rfl) rfl hS ?_
      refine any_run 9 (fun w' hS' => (r_sliceS_hi rfl rfl rfl rfl (by omega) (by omega))) rfl (by kernel_rfl) (by kernel_rfl) (by kernel_rfl) rfl hS ?_
      refine any_one 6 (by kernel_rfl) (one_of rfl ?_)
      refine op_call rfl rfl rfl (ih (pss.length - splitN pss.length) (by omega) _ _ (pss.drop (splitN pss.length)) (pos - splitN pss.length) hlb (by rw [hlb]; omega) (rowsB_keep hsb (Keep.drawn w4)) (fun q hq => hl q (List.mem_of_mem_drop hq)) (by rw [hlb]; omega)) ?_; rintro v21 w21 ⟨hO21, hin21, hk21⟩
      refine ops_nil ⟨trivial, fun hS => ?_⟩
      refine any_one 10 (by kernel_rfl) (one_of rfl ?_)
      refine op_call rfl rfl rfl (rf_Root (splitN pss.length) _ _ (pss.take (splitN pss.length)) hla (rowsB_keep hsa ((Keep.drawn w4).trans hk21)) (fun q hq => hl q (List.mem_of_mem_take hq))) ?_; rintro v23 w23 ⟨rfl, hk23⟩
      refine ops_nil ⟨trivial, fun hS => ?_⟩
      refine any_one 11 (by kernel_rfl) (one_of rfl ?_)
      refine o_bsA1 (dgR (rootD tagD (pss.take (splitN pss.length)))) rfl rfl (by rw [dgR_len]; exact ti_d) (by rw [dgR_len]; rfl) (by rw [dgR_len]; exact Nat.le_of_ble_eq_true rfl) rfl ?_; intro w25 b25 e25 hB25 hk25 hs25
      refine ops_nil ⟨trivial, fun hS => ?_⟩
      refine any_one 12 (by kernel_rfl) (one_of rfl ?_)
      have hkA := hk23.trans hk25
      have hkB := (Keep.drawn w4).trans (hk21.trans hkA)
      have hlen := proveD_len _ (pss.drop (splitN pss.length)) (pos - splitN pss.length) (Nat.le_refl _) (by rw [hlb]; omega)
      have hlen2 : (pss.drop (splitN pss.length)).length ≤ 1000000 := by rw [hlb]; omega
      refine o_app (v := v21) (c := 1) (m := (proveD tagD (pss.drop (splitN pss.length)) (pos - splitN pss.length)).length) (dgR (rootD tagD (pss.take (splitN pss.length)))) rfl rfl rfl ti_d rfl (by decide) (hO21.keep hkA (fun _ _ => trivial)) (by rw [dgR_len]) hB25.all (dgR_one _) (by unfold maxLen; omega) (by omega) rfl ?_; intro v27 w27 hown27 hk27 hb27
      refine ops_nil ⟨trivial, fun hS => ?_⟩
      refine any_ast 13 rfl (by kernel_rfl) (by kernel_rfl) (by kernel_rfl) rfl hS ?_
      refine any_done (by kernel_rfl) ?_
      refine W_ret ?_
      refine ret1 v27 rfl ?_ ?_; rfl
      have e := proveD_r tagD (rows := pss) (pos := pos) h2 (by omega)
      refine ⟨by rw [e, List.length_append, rows_snoc]; exact hown27, fun b hb => ?_, hkB.outA (B := fun k => w4.heap.size ≤ k) (hk27.mono fun b _ h e => h (hin21 b e.symm)) (fun b hb => hb)⟩
      rcases hb27 b hb with h | h
      · exact hin21 b h
      · have := hkB.size; omega

theorem rf03_Same (w : World) (va vb : Value) (xs ys : List Dig) (hx : Sl w va xs.length 32 (rows dgR xs)) (hy : Sl w vb ys.length 32 (rows dgR ys)) :
    Ret Try.prog 18 [va, vb].toArray w fun r w' => r = .bool (decide (xs = ys)) ∧ Keep All w w' := by
  obtain ⟨a, ca, rfl, hca, hcma⟩ := hx.form
  obtain ⟨b, cb, rfl, hcb, hcmb⟩ := hy.form
  refine enter (fn := Try.f18) (n := 26) Try.func18 rfl rfl (by simp) ?_
  refine W_seq ?_
  refine W_region ?_
  refine o_asc rfl ?_
  refine ops_nil ?_
  refine W_seq ?_
  refine W_seq ?_
  refine W_region ?_
  refine o_mvt rfl ?_
  refine op_run (r_len rfl rfl rfl) rfl ?_
  refine o_mvt rfl ?_
  refine op_run (r_len rfl rfl rfl) rfl ?_
  refine op_run (r_neq rfl rfl) rfl ?_
  refine ops_nil ?_
  refine W_cond_p rfl (fun h1 => ?_) (fun h1 => ?_)
  · refine W_seq ?_
    refine W_region ?_
    refine o_asc rfl ?_
    refine ops_nil ?_
    refine W_ret ?_
    refine ret1 (.bool false) rfl ?_ ?_; rfl
    exact ⟨by rw [decide_eq_false]; intro e; subst e; exact h1 rfl, Keep.refl _⟩
  · refine W_skip ?_
    refine W_seq ?_
    refine W_seq ?_
    refine W_region ?_
    refine o_asc rfl ?_
    refine ops_nil ?_
    refine W_block ?_
    refine W_loop [5] [4, 5, 11, 12, 13, 14, 15, 16, 17, 18, 19, 20, 21, 22, 23, 24, 25] (fun vs w1 => ∃ k : Nat, vs = [.int .i64 k] ∧ k ≤ xs.length ∧ xs.take k = ys.take k ∧ Keep All w w1) (fun vs _ => match vs with | [.int _ y] => xs.length - y.toNat | _ => 0) ⟨0, rfl, Nat.zero_le _, by simp, Keep.refl _⟩ ?_
    rintro J vs w1 ⟨k, rfl, hk, htk, hk1⟩ -
    have hlen : xs.length = ys.length := by simp only [Decidable.not_not] at h1; omega
    refine W_seq ?_
    refine W_seq ?_
    refine W_region ?_
    refine o_mvt rfl ?_
    refine o_mvt rfl ?_
    refine op_run (r_len rfl rfl rfl) rfl ?_
    refine op_run (r_lss rfl rfl) rfl ?_
    refine ops_nil ?_
    refine W_cond_p rfl (fun h4 => ?_) (fun h4 => ?_)
    · refine W_skip ?_
      refine W_seq ?_
      refine W_block ?_
      refine W_seq ?_
      obtain ⟨ba, offa, rfl, hxa⟩ := rows_at' (i := k) dgR_len hx (by omega) (by decide)
      obtain ⟨bb, offb, rfl, hya⟩ := rows_at' (i := k) dgR_len hy (by omega) (by decide)
      have hkx : k < xs.length := by omega
      have hky : k < ys.length := by omega
      obtain ⟨x, ex⟩ : ∃ x, x = xs[k] := ⟨_, rfl⟩
      obtain ⟨y, ey⟩ : ∃ y, y = ys[k] := ⟨_, rfl⟩
      rw [← ex] at hxa
      rw [← ey] at hya
      refine W_quiet (Keep All w1) (by kernel_rfl) (by kernel_rfl) (Keep.drawn _) ?_
      refine q_mvt rfl ?_
      refine q_mvt rfl ?_
      refine q_run (fun _ _ => r_idxS rfl rfl rfl ti_d (by omega) (by omega)) rfl ?_
      refine q_run (fun _ hk => r_loadA (dgR x) rfl rfl rfl (by first | rfl | (rw [dgR_len]; rfl) | (rw [refR_len]; rfl) | (rw [secR_len]; rfl) | (rw [List.length_map, tagF_len]; rfl)) ((by intro u v hu; rw [Int.toNat_natCast]; exact (hk1.trans hk).cell (hxa u v hu) trivial))) rfl ?_
      refine q_mvt rfl ?_
      refine q_mvt rfl ?_
      refine q_run (fun _ _ => r_idxS rfl rfl rfl ti_d (by omega) (by omega)) rfl ?_
      refine q_run (fun _ hk => r_loadA (dgR y) rfl rfl rfl (by first | rfl | (rw [dgR_len]; rfl) | (rw [refR_len]; rfl) | (rw [secR_len]; rfl) | (rw [List.length_map, tagF_len]; rfl)) ((by intro u v hu; rw [Int.toNat_natCast]; exact (hk1.trans hk).cell (hya u v hu) trivial))) rfl ?_
      refine q_run (fun _ _ => (r_neqC (p := x = y) rfl rfl rfl rfl (by kernel_rfl) (okC_dgR _) (okC_dgR _) rfl (dgR_inj))) rfl ?_
      refine q_nil ?_; intro w11 hk11
      refine W_cond rfl (fun h12 => ?_) (fun h12 => ?_)
      · refine W_seq ?_
        refine W_region ?_
        refine o_asc rfl ?_
        refine ops_nil ?_
        refine W_ret ?_
        refine ret1 (.bool false) rfl ?_ ?_; rfl
        refine ⟨by rw [decide_eq_false]; intro e; subst e; subst ex; subst ey; exact absurd h12 (by simp), hk1.trans hk11⟩
      · refine W_skip ?_
        refine W_region ?_
        refine o_mvt rfl ?_
        refine op_run (r_add rfl rfl) rfl ?_
        refine o_ast rfl ?_
        refine ops_nil ?_
        have hxy : xs[k] = ys[k] := by rw [← ex, ← ey]; simpa using h12
        have e : IntKind.i64.wrap ((k : Int) + 1) = ((k + 1 : Nat) : Int) := by unfold maxLen at hcma; rw [wrap_i64 (by omega) (by omega)]; omega
        refine ⟨by (repeat (first | with_reducible exact offM_refl _ _ | refine offM_updc rfl ?_ | refine offM_upd rfl ?_ | refine offM_updo rfl ?_ | refine offM_updo_none ?_ | refine offM_head rfl rfl ?_)), ⟨k + 1, congrArg (fun z : Int => [Value.int .i64 z]) e, by omega, ?_, hk1.trans hk11⟩, ?_⟩
        · rw [List.take_succ_eq_append_getElem hkx, List.take_succ_eq_append_getElem hky, htk, hxy]
        · show xs.length - (IntKind.i64.wrap ((k : Int) + 1)).toNat < xs.length - (k : Int).toNat
          rw [e]; omega
    · refine W_exit ?_
      refine W_seq ?_
      refine W_region ?_
      refine o_asc rfl ?_
      refine ops_nil ?_
      refine W_ret ?_
      refine ret1 (.bool true) rfl ?_ ?_; rfl
      have e : k = xs.length := by omega
      subst e
      rw [List.take_length, hlen, List.take_length] at htk
      exact ⟨by rw [decide_eq_true htk], hk1⟩
end Go.Proofs.Ytnjepmdgbkhoaaa.B
