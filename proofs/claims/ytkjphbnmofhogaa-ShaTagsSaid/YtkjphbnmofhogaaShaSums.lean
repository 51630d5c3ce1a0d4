/-
  ShaSums: the walk.
-/
import Derived.Test.YtkjphbnmofhogaaTag
import Derived.Test.YtkjphbnmofhogaaMono
namespace Go.Proofs.Ytkjphbnmofhogaa.B
open Go
set_option linter.unusedVariables false
set_option maxHeartbeats 2000000
set_option maxRecDepth 100000
attribute [local irreducible] W OpsW OpsQ retP
theorem rowsB_keep {w w' : World} {v : Value} {pss : List (List UInt8)} (h : SlR w v 1 (RowB w) pss) (hk : Keep All w w') : SlR w' v 1 (RowB w') pss := by
  obtain ⟨a, c, rfl, h1, h2, h3, h4⟩ := h
  refine ⟨a, c, rfl, h1, h2, h3, fun x hx i y hy => ?_⟩
  obtain ⟨cs, hl, hc, v, rfl, hb⟩ := h4 x hx i y hy
  exact ⟨[v], hl, fun j u hu => hk.cell (hc j u hu) trivial, v, rfl, hb.keep hk (fun _ _ => trivial)⟩
theorem Sl.k {w w' : World} {v : Value} {n sz : Nat} {xs : List Value} (h : Sl w v n sz xs) (hk : Keep All w w') : Sl w' v n sz xs := h.keep hk (fun _ _ => trivial)
/-- A block of slices of bytes, as rows. -/
theorem rowsB_blk {w : World} {b : Nat} {e : TypeId} {vs : List Value} {xs : List (List UInt8)} (hB : Blk w b vs e) (hl : vs.length = xs.length) (hm : xs.length ≤ maxLen) (h : ∀ (i : Nat) (v : Value) (x : List UInt8), vs[i]? = some v → xs[i]? = some x → By w v x) :
    SlR w (.slice (some ⟨b, 0, none⟩) xs.length xs.length) 1 (RowB w) xs :=
  ⟨_, _, rfl, Nat.le_refl _, hm, (fun e => by cases e), fun x hx i y hy => by
    injection hx with hx; subst hx
    have hi := (List.getElem?_eq_some_iff.1 hy).1
    obtain ⟨v, hv⟩ : ∃ v, vs[i]? = some v := ⟨_, List.getElem?_eq_getElem (by omega)⟩
    refine ⟨[v], rfl, fun j u hu => ?_, v, rfl, h i v y hv hy⟩
    match j, hu with
    | 0, hu =>
      injection hu with hu; subst hu
      rw [Addr.add_lit, Addr.add_lit, Nat.zero_add, Nat.mul_one]
      exact hB.cell hv⟩
theorem rowsB_two {w : World} {b : Nat} {e : TypeId} {va vb : Value} {xa bs : List UInt8} (hB : Blk w b [va, vb] e) (ha : By w va xa) (hb : By w vb bs) : SlR w (.slice (some ⟨b, 0, none⟩) 2 2) 1 (RowB w) [xa, bs] :=
  rowsB_blk (xs := [xa, bs]) hB rfl (show 2 ≤ 2 ^ 63 - 1 by decide) fun i v x hv hx => by
    match i, hv, hx with
    | 0, hv, hx => injection hv with hv; injection hx with hx; subst hv; subst hx; exact ha
    | 1, hv, hx => injection hv with hv; injection hx with hx; subst hv; subst hx; exact hb
theorem tagB_len {use : UInt8} {pss : List (List UInt8)} {n m : Nat} (h : ∀ p ∈ pss, p.length ≤ n) (hn : n < 2 ^ 63) (hm : pss.length ≤ m) : (tagB use pss).length ≤ (n + 10) * m + 1 := by
  have h1 := flat_enc hn h
  have h2 := Nat.mul_le_mul_left (n + 10) hm
  unfold tagB
  rw [List.length_cons]; omega

theorem walk_ShaSums (w : World) (vb v : Value) (bs : List UInt8) (use : UInt8) (pss : List (List UInt8)) (hb : By w vb bs) (hv : SlR w v 1 (RowB w) pss) :
    Ret Try.prog 4 [vb, c8 use, v].toArray w fun r w' => r = .bool true ∧ Keep All w w' := by
  obtain ⟨a0, c0, rfl, hc0, hcm0⟩ := hv.form
  obtain ⟨ab, cb, rfl, hcb, hcmb⟩ := hb.form
  refine enter (fn := Try.f4) (n := 45) Try.func4 rfl rfl (by simp) ?_
  refine W_seq ?_
  refine W_region ?_
  refine o_asc rfl ?_
  refine ops_nil ?_
  refine W_seq ?_
  refine W_seq ?_
  refine W_region ?_
  refine op_call rfl rfl rfl (speaks02 w) ?_; rintro v1 w1 ⟨rfl, hk1⟩
  refine op_run (r_not rfl) rfl ?_
  refine ops_nil ?_
  refine W_no rfl (rfl) ?_
  refine W_skip ?_
  refine W_seq ?_
  refine W_cut [18] [11, 12, 13, 14, 15, 16, 17, 18] (fun vs w4 => vs = [.bool (decide (1000 < bs.length ∨ 20 < pss.length))] ∧ w4 = w1) ?_ ?_
  · refine W_region ?_
    refine o_mvt rfl ?_
    refine op_run (r_len rfl rfl rfl) rfl ?_
    refine op_run (r_gtr rfl rfl) rfl ?_
    refine o_mvt rfl ?_
    refine g_split rfl rfl rfl (fun g5 => ?_) (fun g5 => ?_)
    · refine o_mvt (g_yes rfl rfl rfl g5) ?_
      refine op_run (r_len rfl rfl rfl) (g_yes rfl rfl rfl g5) ?_
      refine op_run (r_gtr rfl rfl) (g_yes rfl rfl rfl g5) ?_
      refine o_pkFt rfl g5 rfl ?_
      refine ops_nil ?_
      exact ⟨by (repeat (first | with_reducible exact offM_refl _ _ | refine offM_updc rfl ?_ | refine offM_upd rfl ?_ | refine offM_updo rfl ?_ | refine offM_updo_none ?_ | refine offM_head rfl rfl ?_)), congrArg (fun b => [Value.bool b]) (by have := of_decide_eq_false g5; rw [decide_eq_decide]; constructor <;> intro hh <;> omega), rfl⟩
    · refine op_skip (g_no rfl rfl rfl g5) ?_
      refine op_skip (g_no rfl rfl rfl g5) ?_
      refine op_skip (g_no rfl rfl rfl g5) ?_
      refine o_pkTc rfl g5 rfl ?_
      refine ops_nil ?_
      exact ⟨by (repeat (first | with_reducible exact offM_refl _ _ | refine offM_updc rfl ?_ | refine offM_upd rfl ?_ | refine offM_updo rfl ?_ | refine offM_updo_none ?_ | refine offM_head rfl rfl ?_)), congrArg (fun b => [Value.bool b]) (by have := of_decide_eq_true g5; symm; apply decide_eq_true; omega), rfl⟩
  · rintro J8 vs w8 ⟨rfl, rfl⟩ -
    refine W_cond_p rfl (fun h9 => ?_) (fun h9 => ?_)
    · refine W_seq ?_
      refine W_region ?_
      refine o_asc rfl ?_
      refine ops_nil ?_
      refine W_ret ?_
      refine ret1 (.bool true) rfl ?_ ?_; rfl
      exact ⟨rfl, hk1⟩
    · refine W_skip ?_
      refine W_seq ?_
      refine W_seq ?_
      refine W_region ?_
      refine o_mvt rfl ?_
      refine op_run (r_len rfl rfl rfl) rfl ?_
      refine o_mvc rfl ?_
      refine ops_nil ?_
      refine W_block ?_
      have hsm := h9
      have hbl : bs.length ≤ 1000 := by omega
      have hpl : pss.length ≤ 20 := by omega
      refine W_loop [21] [6, 8, 21, 22, 23, 24, 25, 26, 27, 28] (fun vs w' => ∃ k : Nat, vs = [.int .i64 k] ∧ k ≤ pss.length ∧ (∀ p ∈ pss.take k, p.length ≤ 300) ∧ w' = w8) (fun vs _ => match vs with | [.int _ k] => pss.length - k.toNat | _ => 0) ⟨0, rfl, by omega, (fun p hp => by simp at hp), rfl⟩ ?_
      rintro J11 vs w11 ⟨k, rfl, hk, hle, rfl⟩ -
      refine W_seq ?_
      refine W_region ?_
      refine op_run (r_lss rfl rfl) rfl ?_
      refine ops_nil ?_
      refine W_seq ?_
      refine W_cond_p rfl (fun h12 => ?_) (fun h12 => ?_)
      · refine W_skip ?_
        refine W_seq ?_
        refine W_block ?_
        refine W_seq ?_
        refine W_region ?_
        have hkl : k < pss.length := by omega
        have hpk : pss[k]? = some pss[k] := List.getElem?_eq_getElem hkl
        obtain ⟨bp, op, cp, ep, _, hcells⟩ := hv.at (by decide) (by omega)
        cases ep
        obtain ⟨csk, _, hck, vk, rfl, hby⟩ := hcells k _ hpk
        have hck := hck 0 vk rfl
        obtain ⟨ak, ck, rfl, hak, hakm⟩ := hby.form
        have hinck := inc64' k (by unfold maxLen at hcm0; omega)
        refine op_run (r_idxS1 rfl rfl rfl rfl (by omega) (by omega)) rfl ?_
        refine op_run (r_load rfl rfl rfl (by rw [Int.toNat_natCast, ← Nat.mul_one k]; exact hk1.cell hck trivial)) rfl ?_
        refine o_ast rfl ?_
        refine ops_nil ?_
        refine W_seq ?_
        refine W_region ?_
        refine o_mvt rfl ?_
        refine op_run (r_len rfl rfl rfl) rfl ?_
        refine op_run (r_gtr rfl rfl) rfl ?_
        refine ops_nil ?_
        refine W_cond_p rfl (fun h15 => ?_) (fun h15 => ?_)
        · refine W_seq ?_
          refine W_region ?_
          refine o_asc rfl ?_
          refine ops_nil ?_
          refine W_ret ?_
          refine ret1 (.bool true) rfl ?_ ?_; rfl
          exact ⟨rfl, hk1⟩
        · refine W_skip ?_
          refine W_region ?_
          refine op_run (r_add rfl rfl) rfl ?_
          refine o_mvt rfl ?_
          refine ops_nil ?_
          refine ⟨by (repeat (first | with_reducible exact offM_refl _ _ | refine offM_updc rfl ?_ | refine offM_upd rfl ?_ | refine offM_updo rfl ?_ | refine offM_updo_none ?_ | refine offM_head rfl rfl ?_)), ⟨k + 1, ?_, by omega, ?_, rfl⟩, ?_⟩
          · rw [← hinck]; rfl
          · rw [take_s hpk]
            intro p hp
            rcases List.mem_append.1 hp with h | h
            · exact hle p h
            · obtain rfl := List.mem_singleton.1 h
              omega
          · show pss.length - (IntKind.i64.wrap ((k : Int) + 1)).toNat < pss.length - (k : Int).toNat
            rw [hinck]; omega
      · refine W_exit ?_
        refine W_seq ?_
        refine W_region ?_
        have hkp : k = pss.length := by omega
        subst hkp
        rw [List.take_length] at hle
        refine o_bs0 rfl rfl rfl ?_; intro w18 b18 e18 hB18 hk18 hs18
        refine o_mvt rfl ?_
        refine o_appS (v := .slice (some ⟨b18, 0, none⟩) 0 0) rfl rfl ((hb.keep hk1 (fun _ _ => trivial)).keep hk18 (fun _ _ => trivial)) rfl ti_u8 rfl rfl (Own.blk (n := 0) (l := []) hB18 rfl (by unfold maxLen; omega)) (all_c8 _) (by unfold maxLen; omega) (by omega) rfl ?_; intro v19 w19 hown19 hk19 hb19
        have hown19 : OwnB w19 5 v19 ([] ++ bs) := OwnB.app hown19
        have hk19' : Keep All w11 w19 := hk18.new (b := b18) (hk19.mono fun b _ h e => h (Option.some.inj e)) (by omega)
        refine op_call rfl rfl rfl (sh_Sum w19 v19 bs hown19.by_ (by omega)) ?_; rintro v20 w20 ⟨rfl, hk20⟩
        refine o_mvt rfl ?_
        refine op_call rfl rfl rfl (rf_Sum w20 _ bs (((hb.keep hk1 (fun _ _ => trivial)).keep hk19' (fun _ _ => trivial)).keep hk20 (fun _ _ => trivial)) (by omega)) ?_; rintro v21 w21 ⟨rfl, hk21⟩
        have hkw : Keep All w w21 := ((hk1.trans hk19').trans hk20).trans hk21
        have htl := tagB_len (use := use) hle (by omega) hpl
        refine op_run (r_eqlC (p := True) rfl rfl rfl rfl rfl (okC_dig _ (sumF_len _)) (okC_dig _ (sumF_len _)) rfl (by simp)) rfl ?_
        refine o_mvt rfl ?_
        refine g_split rfl rfl rfl (fun g23 => ?_) (fun g23 => ?_)
        · refine o_mvt (g_yes rfl rfl rfl g23) ?_
          refine o_mvt (g_yes rfl rfl rfl g23) ?_
          refine op_call rfl rfl (g_yes rfl rfl rfl g23) (sh_Tagged w21 _ use pss (rowsB_keep hv hkw) (by omega)) ?_; rintro v24 w24 ⟨rfl, hk24⟩
          refine o_mvt (g_yes rfl rfl rfl g23) ?_
          refine o_mvt (g_yes rfl rfl rfl g23) ?_
          refine op_call rfl rfl (g_yes rfl rfl rfl g23) (rf_Tagged w24 _ use pss (rowsB_keep hv (hkw.trans hk24)) (by omega)) ?_; rintro v25 w25 ⟨rfl, hk25⟩
          refine op_run (r_eqlC (p := True) rfl rfl rfl rfl rfl (okC_dig _ (tagF_len _ _)) (okC_dig _ (tagF_len _ _)) rfl (by simp)) (g_yes rfl rfl rfl g23) ?_
          refine o_pkTt rfl g23 rfl ?_
          refine o_ast rfl ?_
          refine ops_nil ?_
          refine W_ret ?_
          refine ret1 (.bool true) rfl ?_ ?_; rfl
          exact ⟨rfl, (hkw.trans hk24).trans hk25⟩
        · refine op_skip (g_no rfl rfl rfl g23) ?_
          refine op_skip (g_no rfl rfl rfl g23) ?_
          refine op_skip (g_no rfl rfl rfl g23) ?_
          refine op_skip (g_no rfl rfl rfl g23) ?_
          refine op_skip (g_no rfl rfl rfl g23) ?_
          refine op_skip (g_no rfl rfl rfl g23) ?_
          refine op_skip (g_no rfl rfl rfl g23) ?_
          refine o_pkFc rfl g23 rfl ?_
          refine o_ast rfl ?_
          refine ops_nil ?_
          refine W_ret ?_
          exact absurd g23 (by simp)
end Go.Proofs.Ytkjphbnmofhogaa.B
