/-
  sporranlaw08: TrieUnlike.
-/
import Derived.Test.YtpiidddccmohdaaTreU5
namespace Go.Proofs.Ytpiidddccmohdaa.B
open Go
set_option linter.unusedVariables false
set_option maxHeartbeats 2000000
set_option maxRecDepth 100000
attribute [local irreducible] W OpsW OpsQ retP
theorem Prs.ones {w : World} : ∀ {its : List Iv} {l : List It}, Prs w its l → (rows itR its).all one = true
  | [], [], _ => rfl
  | x :: its, y :: l, h => by
    rw [rows_cons, List.all_append, itR_one (Sl.oneI h.2.1), Prs.ones h.2.2]; rfl
  | [], _ :: _, h => h.elim
  | _ :: _, [], h => h.elim
theorem Prs.app {w : World} {jts : List Iv} {m : List It} (hm : Prs w jts m) : ∀ {its : List Iv} {l : List It}, Prs w its l → Prs w (its ++ jts) (l ++ m)
  | [], [], _ => hm
  | _ :: _, _ :: _, h => ⟨h.1, h.2.1, Prs.app hm h.2.2⟩
  | [], _ :: _, h => h.elim
  | _ :: _, [], h => h.elim
theorem prove_len {T : Tre} {k : Dig} (hw : T.wf 64) (hs : T.short) {i : Nat} {x : List UInt8} (h : (proveT T k)[i]? = some x) : x.length ≤ 100000 := by
  obtain ⟨y, hy, rfl⟩ := List.mem_map.1 (List.mem_of_getElem? h)
  obtain ⟨L, _, h2⟩ := wayT_sub T _ 64 hw hs y hy
  have := nodeB_len h2
  omega
theorem rootT_ne {T : Tre} (h : T ≠ .no) : rootT T = tagD 4 [nodeB T] := by unfold rootT; rw [Tre.notNo.2 h]; rfl
theorem lw_Unlike (w : World) (v vm : Value) (cs ms : List Cl) (hv : ClsIn w v cs) (hvm : ClsIn w vm ms) : Ret Try.prog 3 [v, vm].toArray w fun r w' => r = .bool true ∧ Keep All w w' := by
  obtain ⟨am, cm, rfl, hcm, hcmm⟩ := SlR.form hvm
  refine enter (fn := Try.f3) (n := 157) Try.func3 rfl rfl (by simp) ?_
  refine W_seq ?_
  refine W_region ?_
  refine o_asc rfl ?_
  refine ops_nil ?_
  refine W_seq ?_
  refine W_seq ?_
  refine W_region ?_
  refine op_call rfl rfl rfl (lw_speaks w) ?_; rintro v1 w1 ⟨rfl, hk1⟩
  refine op_run (r_not rfl) rfl ?_
  refine ops_nil ?_
  refine W_cond rfl (fun h2 => ?_) (fun h2 => ?_)
  · refine W_seq ?_
    refine W_region ?_
    refine o_asc rfl ?_
    refine ops_nil ?_
    refine W_ret ?_
    refine ret1 (.bool false) rfl ?_ ?_; rfl
    cases h2
  · refine W_skip ?_
    refine W_seq ?_
    refine W_cut [23] [18, 19, 20, 21, 22, 23] (fun vs w4 => ∃ g : Bool, vs = [.bool g] ∧ (g = false → smallC cs ∧ smallC ms) ∧ Keep All w1 w4) ?_ ?_
    · refine W_region ?_
      refine o_mvt rfl ?_
      refine op_call rfl rfl rfl (lw_Great w1 v cs (hv.k hk1)) ?_; rintro v5 w5 ⟨⟨g, rfl, hg⟩, hk5⟩
      refine o_mvt rfl ?_
      refine g_split rfl rfl rfl (fun g6 => ?_) (fun g6 => ?_)
      · refine o_mvt (g_yes rfl rfl rfl g6) ?_
        refine op_call rfl rfl (g_yes rfl rfl rfl g6) (lw_Great w5 _ ms (hvm.k (hk1.trans hk5))) ?_; rintro v7 w7 ⟨⟨g2, rfl, hg2⟩, hk7⟩
        refine o_pkFt rfl g6 rfl ?_
        refine ops_nil ?_
        exact ⟨by (repeat (first | with_reducible exact offM_refl _ _ | refine offM_updc rfl ?_ | refine offM_upd rfl ?_ | refine offM_updo rfl ?_ | refine offM_updo_none ?_ | refine offM_head rfl rfl ?_)), g2, rfl, fun h => ⟨hg g6, hg2 h⟩, hk5.trans hk7⟩
      · refine op_skip (g_no rfl rfl rfl g6) ?_
        refine op_skip (g_no rfl rfl rfl g6) ?_
        refine o_pkTc rfl g6 rfl ?_
        refine ops_nil ?_
        exact ⟨by (repeat (first | with_reducible exact offM_refl _ _ | refine offM_updc rfl ?_ | refine offM_upd rfl ?_ | refine offM_updo rfl ?_ | refine offM_updo_none ?_ | refine offM_head rfl rfl ?_)), true, rfl, (fun h => by cases h), hk5⟩
    · rintro J10 vs w10 ⟨g, rfl, hg, hk10⟩ -
      refine W_cond rfl (fun h11 => ?_) (fun h11 => ?_)
      · refine W_seq ?_
        refine W_region ?_
        refine o_asc rfl ?_
        refine ops_nil ?_
        refine W_ret ?_
        refine ret1 (.bool true) rfl ?_ ?_; rfl
        exact ⟨rfl, hk1.trans hk10⟩
      · refine W_skip ?_
        refine W_seq ?_
        refine W_region ?_
        obtain ⟨hsm, hsmm⟩ := hg h11
        have hkw10 : Keep All w w10 := hk1.trans hk10
        obtain ⟨B, hB⟩ : ∃ B, B = w10.heap.size := ⟨_, rfl⟩
        refine o_mvt rfl ?_
        refine op_call rfl rfl rfl (lw_play w10 v cs (hv.k hkw10) hsm) ?_; rintro v13 w13 ⟨u, rfl, hT13, hI13, hk13⟩
        rw [← hB] at hT13 ⊢
        obtain ⟨T, hT_a⟩ : ∃ T, T = (playC cs).1 := ⟨_, rfl⟩
        obtain ⟨l, hl_a⟩ : ∃ l, l = (playC cs).2 := ⟨_, rfl⟩
        have haa : Agree T l := by rw [hT_a, hl_a]; exact (play_ok cs (.no, []) (fun _ => rfl) trivial).1
        have hwa : T.wf 64 := by rw [hT_a]; exact (play_ok cs (.no, []) (fun _ => rfl) trivial).2
        have hna : (l.map (·.1)).Nodup := by rw [hl_a]; exact play_nodup cs (.no, []) List.nodup_nil
        have hra : Rise l := by rw [hl_a]; exact play_rise cs (.no, []) List.Pairwise.nil
        have h50a : l.length ≤ 50 := by
          rw [hl_a]
          have e0 : ((Tre.no, ([] : List It)) : Tre × List It).2.length = 0 := rfl
          have : (playC cs).2.length ≤ _ := play_len cs (.no, [])
          have := hsm.1
          omega
        have hsa : T.short := haa.short hwa fun x hx => Nat.le_trans (play_short 200 cs (.no, []) (fun x h => by cases h) hsm.2 x (by rw [hl_a] at hx; exact hx)) (by decide)
        rw [← hT_a] at hT13
        rw [← hl_a] at hI13
        obtain ⟨au, cu, rfl, _, _⟩ := hI13.form
        refine o_mvt rfl ?_
        refine op_run (r_extract rfl rfl) rfl ?_
        refine op_run (r_extract rfl rfl) rfl ?_
        refine o_ast rfl ?_
        refine o_ast rfl ?_
        refine ops_nil ?_
        refine W_seq ?_
        refine W_region ?_
        refine o_mvt rfl ?_
        obtain ⟨X, hX⟩ : ∃ X, X = w13.heap.size := ⟨_, rfl⟩
        refine op_call rfl rfl rfl (lw_play w13 _ ms (hvm.k (hkw10.trans hk13)) hsmm) ?_; rintro v14 w14 ⟨u2, rfl, hS14, hJ14, hk14⟩
        rw [← hX] at hS14 ⊢
        obtain ⟨S, hT_b⟩ : ∃ S, S = (playC ms).1 := ⟨_, rfl⟩
        obtain ⟨m, hl_b⟩ : ∃ m, m = (playC ms).2 := ⟨_, rfl⟩
        have hab : Agree S m := by rw [hT_b, hl_b]; exact (play_ok ms (.no, []) (fun _ => rfl) trivial).1
        have hwb : S.wf 64 := by rw [hT_b]; exact (play_ok ms (.no, []) (fun _ => rfl) trivial).2
        have hnb : (m.map (·.1)).Nodup := by rw [hl_b]; exact play_nodup ms (.no, []) List.nodup_nil
        have hrb : Rise m := by rw [hl_b]; exact play_rise ms (.no, []) List.Pairwise.nil
        have h50b : m.length ≤ 50 := by
          rw [hl_b]
          have e0 : ((Tre.no, ([] : List It)) : Tre × List It).2.length = 0 := rfl
          have : (playC ms).2.length ≤ _ := play_len ms (.no, [])
          have := hsmm.1
          omega
        have hsb : S.short := hab.short hwb fun x hx => Nat.le_trans (play_short 200 ms (.no, []) (fun x h => by cases h) hsmm.2 x (by rw [hl_b] at hx; exact hx)) (by decide)
        rw [← hT_b] at hS14
        rw [← hl_b] at hJ14
        obtain ⟨aj, cj, rfl, _, _⟩ := hJ14.form
        have hT14 := hT13.k hk14
        have hI14 := hI13.k hk14
        have hkw14 : Keep All w w14 := (hkw10.trans hk13).trans hk14
        have hTS : l = m → T = S := fun e => Tre.uniqD hwa hwb fun k => by rw [haa k, hab k, e]
        have hlm : T = S → l = m := fun e => rise_ext hra hrb fun k => by rw [← haa k, ← hab k, e]
        refine o_mvt rfl ?_
        refine op_run (r_extract rfl rfl) rfl ?_
        refine op_run (r_extract rfl rfl) rfl ?_
        refine o_ast rfl ?_
        refine o_ast rfl ?_
        refine ops_nil ?_
        refine W_seq ?_
        refine W_cut [39] [34, 35, 36, 37, 38, 39] (fun vs w15 => vs = [.bool false] ∧ w15 = w14) ?_ ?_
        · refine W_region ?_
          refine o_mvt rfl ?_
          refine op_run (r_isNilP rfl rfl) rfl ?_
          refine o_mvt rfl ?_
          refine g_split rfl rfl rfl (fun g16 => ?_) (fun g16 => ?_)
          · refine o_mvt (g_yes rfl rfl rfl g16) ?_
            refine op_run (r_isNilP rfl rfl) (g_yes rfl rfl rfl g16) ?_
            refine o_pkFt rfl g16 rfl ?_
            refine ops_nil ?_
            exact ⟨by (repeat (first | with_reducible exact offM_refl _ _ | refine offM_updc rfl ?_ | refine offM_upd rfl ?_ | refine offM_updo rfl ?_ | refine offM_updo_none ?_ | refine offM_head rfl rfl ?_)), rfl, rfl⟩
          · refine op_skip (g_no rfl rfl rfl g16) ?_
            refine op_skip (g_no rfl rfl rfl g16) ?_
            refine o_pkTc rfl g16 rfl ?_
            refine ops_nil ?_
            exact absurd g16 (by simp)
        · rintro J19 vs w19 ⟨rfl, rfl⟩ -
          refine W_cond rfl (fun h20 => ?_) (fun h20 => ?_)
          · refine W_seq ?_
            refine W_region ?_
            refine o_asc rfl ?_
            refine ops_nil ?_
            refine W_ret ?_
            refine ret1 (.bool false) rfl ?_ ?_; rfl
            cases h20
          · refine W_skip ?_
            refine W_seq ?_
            refine W_region ?_
            refine o_mvt rfl ?_
            refine op_run (r_len rfl rfl rfl) rfl ?_
            refine o_mvt rfl ?_
            refine op_run (r_len rfl rfl rfl) rfl ?_
            refine op_run (r_eql rfl rfl) rfl ?_
            refine o_ast rfl ?_
            refine ops_nil ?_
            refine W_seq ?_
            refine W_seq ?_
            refine W_region ?_
            refine o_asc rfl ?_
            refine ops_nil ?_
            refine W_block ?_
            refine W_loop [9, 10] [9, 10, 45, 46, 47, 48, 49, 50, 51, 52, 53, 54, 55, 56, 57, 58, 59, 60, 61, 62, 63, 64, 65, 66, 67, 68, 69, 70, 71, 72, 73, 74, 75, 76, 77] (fun vs w' => ∃ (k : Nat) (s : Bool), vs = [.bool s, .int .i64 k] ∧ k ≤ l.length ∧ (s = true → l.length = m.length ∧ l.take k = m.take k) ∧ (s = false → l ≠ m) ∧ Keep All w19 w') (fun vs _ => match vs with | [_, .int _ y] => l.length - y.toNat | _ => 0) ⟨0, _, rfl, Nat.zero_le _, (fun h => ⟨by have := of_decide_eq_true h; omega, rfl⟩), (fun h e => by have := of_decide_eq_false h; rw [e] at this; exact this rfl), Keep.refl _⟩ ?_
            rintro J22 vs w22 ⟨k, s, rfl, hk, hst, hsf, hk22⟩ -
            refine W_seq ?_
            refine W_cut [51] [45, 46, 47, 48, 49, 50, 51] (fun vs w23 => vs = [.bool (s && decide (k < l.length))] ∧ w23 = w22) ?_ ?_
            · refine W_region ?_
              refine o_mvt rfl ?_
              refine o_mvt rfl ?_
              refine g_split rfl rfl rfl (fun g24 => ?_) (fun g24 => ?_)
              · refine o_mvt (g_yes rfl rfl rfl g24) ?_
                refine o_mvt (g_yes rfl rfl rfl g24) ?_
                refine op_run (r_len rfl rfl rfl) (g_yes rfl rfl rfl g24) ?_
                refine op_run (r_lss rfl rfl) (g_yes rfl rfl rfl g24) ?_
                refine o_pkTt rfl g24 rfl ?_
                refine ops_nil ?_
                exact ⟨by (repeat (first | with_reducible exact offM_refl _ _ | refine offM_updc rfl ?_ | refine offM_upd rfl ?_ | refine offM_updo rfl ?_ | refine offM_updo_none ?_ | refine offM_head rfl rfl ?_)), congrArg (fun b => [Value.bool b]) (by rw [show s = true from g24]; simp), rfl⟩
              · refine op_skip (g_no rfl rfl rfl g24) ?_
                refine op_skip (g_no rfl rfl rfl g24) ?_
                refine op_skip (g_no rfl rfl rfl g24) ?_
                refine op_skip (g_no rfl rfl rfl g24) ?_
                refine o_pkFc rfl g24 rfl ?_
                refine ops_nil ?_
                exact ⟨by (repeat (first | with_reducible exact offM_refl _ _ | refine offM_updc rfl ?_ | refine offM_upd rfl ?_ | refine offM_updo rfl ?_ | refine offM_updo_none ?_ | refine offM_head rfl rfl ?_)), congrArg (fun b => [Value.bool b]) (by rw [show s = false from g24]; rfl), rfl⟩
            · rintro J27 vs w27 ⟨rfl, rfl⟩ -
              refine W_cond rfl (fun h28 => ?_) (fun h28 => ?_)
              · refine W_skip ?_
                refine W_seq ?_
                obtain ⟨hs1, hkl⟩ : s = true ∧ k < l.length := by simpa using h28
                obtain ⟨hlen, htk⟩ := hst hs1
                obtain ⟨x, hx⟩ : ∃ x, l[k]? = some x := ⟨_, List.getElem?_eq_getElem hkl⟩
                obtain ⟨y, hy⟩ : ∃ y, m[k]? = some y := ⟨_, List.getElem?_eq_getElem (by omega)⟩
                obtain ⟨b, off, c, vv, ev_, hbx, hc⟩ := (hI14.k hk22).at hx
                cases ev_
                obtain ⟨b', off', c', vv', ev2_, hby, hc'⟩ := (hJ14.k hk22).at hy
                cases ev2_
                obtain ⟨av, cv, rfl, _, _⟩ := hbx.form
                obtain ⟨av', cv', rfl, _, _⟩ := hby.form
                have hinc := inc64' k (by omega)
                have tx : l.take (k + 1) = l.take k ++ [x] := by rw [List.take_succ_eq_append_getElem hkl, (List.getElem?_eq_some_iff.1 hx).2]
                have ty : m.take (k + 1) = m.take k ++ [y] := by rw [List.take_succ_eq_append_getElem (by omega), (List.getElem?_eq_some_iff.1 hy).2]
                have hne : x ≠ y → l ≠ m := fun h e => by rw [e, hy] at hx; exact h (Option.some.inj hx).symm
                refine W_block ?_
                refine W_quiet (Keep All w27) (by kernel_rfl) (by kernel_rfl) (Keep.drawn _) ?_
                refine q_mvt rfl ?_
                refine q_mvt rfl ?_
                refine q_run (fun _ _ => r_idxS rfl rfl rfl rfl (by omega) (by omega)) rfl ?_
                refine q_run (fun _ _ => (r_fieldAddr rfl rfl rfl rfl rfl)) rfl ?_
                refine q_run (fun _ hk => r_loadA (dgR x.1) rfl rfl rfl (by first | rfl | (rw [binV_len]; rfl) | (rw [dgR_len]; rfl) | (rw [refR_len]; rfl) | (rw [secR_len]; rfl) | (rw [List.length_map, tagF_len]; rfl) | (rw [itR_len]; rfl) | (rw [dgR_len]; rfl)) ((fun j u hj => by rw [Int.toNat_natCast]; exact hk.cell (itR_dg hc j u hj) trivial))) rfl ?_
                refine q_mvt rfl ?_
                refine q_mvt rfl ?_
                refine q_run (fun _ _ => r_idxS rfl rfl rfl rfl (by omega) (by omega)) rfl ?_
                refine q_run (fun _ _ => (r_fieldAddr rfl rfl rfl rfl rfl)) rfl ?_
                refine q_run (fun _ hk => r_loadA (dgR y.1) rfl rfl rfl (by first | rfl | (rw [binV_len]; rfl) | (rw [dgR_len]; rfl) | (rw [refR_len]; rfl) | (rw [secR_len]; rfl) | (rw [List.length_map, tagF_len]; rfl) | (rw [itR_len]; rfl) | (rw [dgR_len]; rfl)) ((fun j u hj => by rw [Int.toNat_natCast]; exact hk.cell (itR_dg hc' j u hj) trivial))) rfl ?_
                refine q_run (fun _ _ => (r_eqlC (p := x.1 = y.1) rfl rfl rfl rfl (by kernel_rfl) (okC_dgR _) (okC_dgR _) rfl (dgR_inj))) rfl ?_
                refine q_mvt rfl ?_
                refine q_split rfl rfl rfl (fun g35 => ?_) (fun g35 => ?_)
                · refine q_mvt (g_yes rfl rfl rfl g35) ?_
                  refine q_mvt (g_yes rfl rfl rfl g35) ?_
                  refine q_run (fun _ _ => r_idxS rfl rfl rfl rfl (by omega) (by omega)) (g_yes rfl rfl rfl g35) ?_
                  refine q_run (fun _ _ => (r_fieldAddr rfl rfl rfl rfl rfl)) (g_yes rfl rfl rfl g35) ?_
                  refine q_run (fun _ hk => r_load (v := .slice av x.2.length cv) rfl rfl rfl (hk.cell (by rw [Int.toNat_natCast]; exact hc 32 _ itR_val) trivial)) (g_yes rfl rfl rfl g35) ?_
                  refine q_mvt (g_yes rfl rfl rfl g35) ?_
                  refine q_mvt (g_yes rfl rfl rfl g35) ?_
                  refine q_run (fun _ _ => r_idxS rfl rfl rfl rfl (by omega) (by omega)) (g_yes rfl rfl rfl g35) ?_
                  refine q_run (fun _ _ => (r_fieldAddr rfl rfl rfl rfl rfl)) (g_yes rfl rfl rfl g35) ?_
                  refine q_run (fun _ hk => r_load (v := .slice av' y.2.length cv') rfl rfl rfl (hk.cell (by rw [Int.toNat_natCast]; exact hc' 32 _ itR_val) trivial)) (g_yes rfl rfl rfl g35) ?_
                  refine q_call rfl rfl (g_yes rfl rfl rfl g35) (fun _ hk => (ref01_Same _ _ _ x.2 y.2 (Sl.k hbx hk) (Sl.k hby hk)).mono fun e w'' ⟨u, he, h1, h2⟩ => ⟨u, he, h1, hk.trans h2⟩) ?_
                  refine q_pkTt rfl g35 rfl ?_
                  refine q_ast rfl ?_
                  refine q_nil ?_; intro w41 hk41
                  refine W_region ?_
                  refine o_mvt rfl ?_
                  refine op_run (r_add rfl rfl) rfl ?_
                  refine o_ast rfl ?_
                  refine ops_nil ?_
                  have g : x.1 = y.1 := by simpa using g35
                  refine ⟨by (repeat (first | with_reducible exact offM_refl _ _ | refine offM_updc rfl ?_ | refine offM_upd rfl ?_ | refine offM_updo rfl ?_ | refine offM_updo_none ?_ | refine offM_head rfl rfl ?_)), ⟨k + 1, decide (x.2 = y.2), congrArg (fun z : Int => [Value.bool (decide (x.2 = y.2)), Value.int .i64 z]) hinc, by omega, fun h => ⟨hlen, by rw [tx, ty, htk, Prod.ext g (of_decide_eq_true h)]⟩, fun h => hne fun e => of_decide_eq_false h (by rw [e]), hk22.trans hk41⟩, ?_⟩
                  show l.length - (IntKind.i64.wrap ((k : Int) + 1)).toNat < l.length - (k : Int).toNat
                  rw [hinc]; omega
                · refine q_skip (g_no rfl rfl rfl g35) ?_
                  refine q_skip (g_no rfl rfl rfl g35) ?_
                  refine q_skip (g_no rfl rfl rfl g35) ?_
                  refine q_skip (g_no rfl rfl rfl g35) ?_
                  refine q_skip (g_no rfl rfl rfl g35) ?_
                  refine q_skip (g_no rfl rfl rfl g35) ?_
                  refine q_skip (g_no rfl rfl rfl g35) ?_
                  refine q_skip (g_no rfl rfl rfl g35) ?_
                  refine q_skip (g_no rfl rfl rfl g35) ?_
                  refine q_skip (g_no rfl rfl rfl g35) ?_
                  refine q_skip (g_no rfl rfl rfl g35) ?_
                  refine q_pkFc rfl g35 rfl ?_
                  refine q_ast rfl ?_
                  refine q_nil ?_; intro w43 hk43
                  refine W_region ?_
                  refine o_mvt rfl ?_
                  refine op_run (r_add rfl rfl) rfl ?_
                  refine o_ast rfl ?_
                  refine ops_nil ?_
                  have g : ¬ x.1 = y.1 := by simpa using g35
                  refine ⟨by (repeat (first | with_reducible exact offM_refl _ _ | refine offM_updc rfl ?_ | refine offM_upd rfl ?_ | refine offM_updo rfl ?_ | refine offM_updo_none ?_ | refine offM_head rfl rfl ?_)), ⟨k + 1, false, congrArg (fun z : Int => [Value.bool false, Value.int .i64 z]) hinc, by omega, fun h => (by cases h), fun _ => hne fun e => g (by rw [e]), hk22.trans hk43⟩, ?_⟩
                  show l.length - (IntKind.i64.wrap ((k : Int) + 1)).toNat < l.length - (k : Int).toNat
                  rw [hinc]; omega
              · refine W_exit ?_
                refine W_seq ?_
                have hsl : s = true → l = m := fun h => by
                  obtain ⟨h1, h2⟩ := hst h
                  rw [h] at h28
                  have hke : k = l.length := by
                    have : ¬ k < l.length := by simpa using h28
                    omega
                  rw [hke, List.take_length, h1, List.take_length] at h2
                  exact h2
                have hkw22 : Keep All w w27 := hkw14.trans hk22
                have hT22 := hT14.k hk22
                have hS22 := hS14.k hk22
                refine W_cut [85] [78, 79, 80, 81, 82, 83, 84, 85] (fun vs w45 => vs = [.bool (s || !decide (rootT T = rootT S))] ∧ Keep All w27 w45) ?_ ?_
                · refine W_region ?_
                  refine o_mvt rfl ?_
                  refine o_mvt rfl ?_
                  refine g_split rfl rfl rfl (fun g46 => ?_) (fun g46 => ?_)
                  · refine o_mvt (g_yes rfl rfl rfl g46) ?_
                    refine op_call rfl rfl (g_yes rfl rfl rfl g46) (tr_Root w27 B T hT22 hsa) ?_; rintro v47 w47 ⟨rfl, hk47⟩
                    refine o_mvt (g_yes rfl rfl rfl g46) ?_
                    refine op_call rfl rfl (g_yes rfl rfl rfl g46) (tr_Root w47 X S (hS22.k hk47) hsb) ?_; rintro v48 w48 ⟨rfl, hk48⟩
                    refine op_run (r_neqC (p := rootT T = rootT S) rfl rfl rfl rfl (by kernel_rfl) (okC_dgR _) (okC_dgR _) rfl (dgR_inj)) (g_yes rfl rfl rfl g46) ?_
                    refine o_pkFt rfl g46 rfl ?_
                    refine ops_nil ?_
                    exact ⟨by (repeat (first | with_reducible exact offM_refl _ _ | refine offM_updc rfl ?_ | refine offM_upd rfl ?_ | refine offM_updo rfl ?_ | refine offM_updo_none ?_ | refine offM_head rfl rfl ?_)), congrArg (fun b => [Value.bool b]) (by rw [show s = false from g46]; rfl), hk47.trans hk48⟩
                  · refine op_skip (g_no rfl rfl rfl g46) ?_
                    refine op_skip (g_no rfl rfl rfl g46) ?_
                    refine op_skip (g_no rfl rfl rfl g46) ?_
                    refine op_skip (g_no rfl rfl rfl g46) ?_
                    refine op_skip (g_no rfl rfl rfl g46) ?_
                    refine o_pkTc rfl g46 rfl ?_
                    refine ops_nil ?_
                    exact ⟨by (repeat (first | with_reducible exact offM_refl _ _ | refine offM_updc rfl ?_ | refine offM_upd rfl ?_ | refine offM_updo rfl ?_ | refine offM_updo_none ?_ | refine offM_head rfl rfl ?_)), congrArg (fun b => [Value.bool b]) (by rw [show s = true from g46]; rfl), Keep.refl _⟩
                · rintro J52 vs w52 ⟨rfl, hk52⟩ -
                  refine W_cond rfl (fun h53 => ?_) (fun h53 => ?_)
                  · refine W_seq ?_
                    refine W_region ?_
                    have hT52 := hT22.k hk52
                    have hS52 := hS22.k hk52
                    have hkw52 : Keep All w w52 := hkw22.trans hk52
                    refine o_mvt rfl ?_
                    refine op_run (r_not rfl) rfl ?_
                    refine o_mvt rfl ?_
                    refine g_split rfl rfl rfl (fun g54 => ?_) (fun g54 => ?_)
                    · refine o_mvt (g_yes rfl rfl rfl (by rw [g54] <;> rfl)) ?_
                      refine op_call rfl rfl (g_yes rfl rfl rfl (by rw [g54] <;> rfl)) (tr_Root w52 B T hT52 hsa) ?_; rintro v55 w55 ⟨rfl, hk55⟩
                      refine o_mvt (g_yes rfl rfl rfl (by rw [g54] <;> rfl)) ?_
                      refine op_call rfl rfl (g_yes rfl rfl rfl (by rw [g54] <;> rfl)) (tr_Root w55 X S (hS52.k hk55) hsb) ?_; rintro v56 w56 ⟨rfl, hk56⟩
                      refine op_run (r_eqlC (p := rootT T = rootT S) rfl rfl rfl rfl (by kernel_rfl) (okC_dgR _) (okC_dgR _) rfl (dgR_inj)) (g_yes rfl rfl rfl (by rw [g54] <;> rfl)) ?_
                      refine o_pkFt rfl (by rw [g54] <;> rfl) rfl ?_
                      refine o_ast rfl ?_
                      refine ops_nil ?_
                      refine W_ret ?_
                      refine ret1 (.bool (decide (rootT T = rootT S))) rfl ?_ ?_; rfl
                      have g : s = true := by simpa using g54
                      exact ⟨by rw [hTS (hsl g), decide_eq_true rfl], (hkw52.trans hk55).trans hk56⟩
                    · refine op_skip (g_no rfl rfl rfl (by rw [g54] <;> rfl)) ?_
                      refine op_skip (g_no rfl rfl rfl (by rw [g54] <;> rfl)) ?_
                      refine op_skip (g_no rfl rfl rfl (by rw [g54] <;> rfl)) ?_
                      refine op_skip (g_no rfl rfl rfl (by rw [g54] <;> rfl)) ?_
                      refine op_skip (g_no rfl rfl rfl (by rw [g54] <;> rfl)) ?_
                      refine o_pkTc rfl (by rw [g54] <;> rfl) rfl ?_
                      refine o_ast rfl ?_
                      refine ops_nil ?_
                      refine W_ret ?_
                      refine ret1 (.bool true) rfl ?_ ?_; rfl
                      exact ⟨rfl, hkw52⟩
                  · refine W_skip ?_
                    refine W_seq ?_
                    refine W_seq ?_
                    refine W_region ?_
                    obtain ⟨hs0, hroot⟩ : s = false ∧ rootT T = rootT S := by simpa using h53
                    have hlm0 := hsf hs0
                    have hkw52 : Keep All w w52 := hkw22.trans hk52
                    have hI52 := (hI14.k hk22).k hk52
                    have hJ52 := (hJ14.k hk22).k hk52
                    obtain ⟨itl, hl1, hl2⟩ := hI52
                    obtain ⟨itm, hm1, hm2⟩ := hJ52
                    refine o_bs0 rfl rfl rfl ?_; intro w60 b60 e60 hB60 hk60 hs60
                    refine o_mvt rfl ?_
                    refine o_appS (v := .slice (some ⟨b60, 0, none⟩) 0 0) rfl rfl (Sl.k hl1 hk60) rfl ti_it rfl rfl (Own.blk hB60 rfl (Nat.zero_le _)) (Prs.ones hl2) (by unfold maxLen; omega) (by omega) rfl ?_; intro v61 w61 hown61 hk61 hb61
                    have hk5261 : Keep All w52 w61 := hk60.own hk61 (fun z hz _ => by have hz : some b60 = some z := hz; injection hz with hz; omega)
                    have hi61 : InB (fun z => w52.heap.size ≤ z) v61 := hb61.mono fun z hz => by
                      rcases hz with h | h
                      · have h : some b60 = some z := h
                        injection h with h; omega
                      · have := hk60.size; omega
                    refine o_mvt rfl ?_
                    refine o_appS (v := v61) rfl rfl (Sl.k hm1 hk5261) rfl ti_it rfl rfl hown61 (Prs.ones hm2) (by unfold maxLen; omega) (by omega) rfl ?_; intro v62 w62 hown62 hk62 hb62
                    have hk5262 : Keep All w52 w62 := hk5261.own hk62 (fun z hz _ => hi61 z hz)
                    have hQ62 : ItIn w62 v62 (l ++ m) := by
                      refine ⟨itl ++ itm, ?_, Prs.app (Prs.k hk5262 hm2) (Prs.k hk5262 hl2)⟩
                      have h := hown62.sl
                      rw [rows_app, List.length_append]
                      rwa [Nat.zero_add, List.nil_append] at h
                    obtain ⟨aq, cq, rfl, hcq, hcqm⟩ := hQ62.form
                    have hkw62 : Keep All w w62 := hkw52.trans hk5262
                    have hI62 : ItIn w62 (.slice au l.length cu) l := ⟨itl, Sl.k hl1 hk5262, Prs.k hk5262 hl2⟩
                    have hJ62 : ItIn w62 (.slice aj m.length cj) m := ⟨itm, Sl.k hm1 hk5262, Prs.k hk5262 hm2⟩
                    have hlml : (l ++ m).length = l.length + m.length := List.length_append
                    refine op_run (r_len rfl rfl rfl) rfl ?_
                    refine o_mvc rfl ?_
                    refine ops_nil ?_
                    refine W_block ?_
                    refine W_loop [101] [4, 12, 13, 14, 15, 101, 102, 103, 104, 105, 106, 107, 108, 109, 110, 111, 112, 113, 114, 115, 116, 117, 118, 119, 120, 121, 122, 123, 124, 125, 126, 127, 128, 129, 130, 131, 132, 133, 134, 135, 136, 137, 138, 139, 140, 141, 142, 143, 144, 145, 146, 147, 148] (fun vs w' => ∃ t : Nat, vs = [.int .i64 t] ∧ t ≤ (l ++ m).length ∧ (∀ x ∈ (l ++ m).take t, ∀ (k : Nat) (a b : List UInt8), (proveT T x.1)[k]? = some a → (proveT S x.1)[k]? = some b → a = b) ∧ Keep All w62 w') (fun vs _ => match vs with | [.int _ y] => (l ++ m).length - y.toNat | _ => 0) ⟨0, rfl, Nat.zero_le _, (fun x h => by cases h), Keep.refl _⟩ ?_
                    rintro J63 vs w63 ⟨t, rfl, ht, hsame, hk63⟩ -
                    refine W_seq ?_
                    refine W_region ?_
                    refine op_run (r_lss rfl rfl) rfl ?_
                    refine ops_nil ?_
                    refine W_seq ?_
                    refine W_cond_p rfl (fun h64 => ?_) (fun h64 => ?_)
                    · refine W_skip ?_
                      refine W_seq ?_
                      refine W_block ?_
                      refine W_seq ?_
                      refine W_region ?_
                      have htl : t < (l ++ m).length := by omega
                      obtain ⟨q, hq⟩ : ∃ q, (l ++ m)[t]? = some q := ⟨_, List.getElem?_eq_getElem htl⟩
                      obtain ⟨b, off, c, vv, ev_, hby, hc⟩ := (hQ62.k hk63).at hq
                      cases ev_
                      have hincT := inc64' t (by omega)
                      refine op_run (r_idxS rfl rfl rfl rfl (by omega) (by omega)) rfl ?_
                      refine op_run (r_loadA (itR (q.1, vv)) rfl rfl rfl (by first | rfl | (rw [binV_len]; rfl) | (rw [dgR_len]; rfl) | (rw [refR_len]; rfl) | (rw [secR_len]; rfl) | (rw [List.length_map, tagF_len]; rfl) | (rw [itR_len]; rfl) | (rw [dgR_len]; rfl)) ((fun j u hj => by rw [Int.toNat_natCast]; exact hc j u hj))) rfl ?_
                      refine o_alloc rfl rfl rfl ?_; intro w67 b67 e67 hB67 hk67 hs67
                      refine o_storeA (cs := itR (q.1, vv)) rfl rfl (by first | rfl | exact binV_one _ | exact dgR_one _ | exact refR_one _ | exact secR_one _ | exact all_c8 _ | exact itR_one (Sl.oneI hby)) (by first | rfl | (rw [binV_len]; rfl) | (rw [dgR_len]; rfl) | (rw [refR_len]; rfl) | (rw [secR_len]; rfl) | (rw [List.length_map, tagF_len]; rfl) | (rw [itR_len]; rfl) | (rw [dgR_len]; rfl)) hB67 (by exact Nat.le_of_eq (by simp [itR_len])) rfl ?_; intro w68 hB68 hk68 hs68
                      have hB68 : Blk w68 b67 (itR (q.1, vv)) 33 := by
                        have h := hB68
                        rwa [splice_all (by simp [itR_len])] at h
                      have hk6268 : Keep All w62 w68 := hk63.trans (hk67.new hk68 (by omega))
                      refine ops_nil ?_
                      refine W_seq ?_
                      refine W_held (fun w' => Keep All w68 w') (by kernel_rfl) (Keep.drawn w68) (fun hS => ?_)
                      refine any_mvt 0 rfl (by kernel_rfl) (by kernel_rfl) (by kernel_rfl) rfl hS ?_
                      refine any_run 1 (fun w' hS' => (r_fieldAddr rfl rfl rfl rfl rfl)) rfl (by kernel_rfl) (by kernel_rfl) (by kernel_rfl) rfl hS ?_
                      refine any_run 2 (fun w' hS' => (r_loadA (dgR q.1) rfl rfl rfl (by first | rfl | (rw [binV_len]; rfl) | (rw [dgR_len]; rfl) | (rw [refR_len]; rfl) | (rw [secR_len]; rfl) | (rw [List.length_map, tagF_len]; rfl) | (rw [itR_len]; rfl) | (rw [dgR_len]; rfl)) ((itR_dg (y := q) (vv := vv) (hS'.blk' hB68 trivial).all)))) rfl (by kernel_rfl) (by kernel_rfl) (by kernel_rfl) rfl hS ?_
                      refine any_mvt 4 rfl (by kernel_rfl) (by kernel_rfl) (by kernel_rfl) rfl hS ?_
                      refine any_run 5 (fun w' hS' => (r_fieldAddr rfl rfl rfl rfl rfl)) rfl (by kernel_rfl) (by kernel_rfl) (by kernel_rfl) rfl hS ?_
                      refine any_run 6 (fun w' hS' => (r_loadA (dgR q.1) rfl rfl rfl (by first | rfl | (rw [binV_len]; rfl) | (rw [dgR_len]; rfl) | (rw [refR_len]; rfl) | (rw [secR_len]; rfl) | (rw [List.length_map, tagF_len]; rfl) | (rw [itR_len]; rfl) | (rw [dgR_len]; rfl)) ((itR_dg (y := q) (vv := vv) (hS'.blk' hB68 trivial).all)))) rfl (by kernel_rfl) (by kernel_rfl) (by kernel_rfl) rfl hS ?_
                      refine any_one 3 (by kernel_rfl) (one_of rfl ?_)
                      refine op_call rfl rfl rfl (rf8_Prove _ (.slice au l.length cu) T l q.1 (haa.atI hwa hna) hsa (hI62.k (hk6268.trans hS)) (by omega)) ?_; rintro v72 w72 ⟨ps, hP, hRp, hinp, hk72⟩
                      refine ops_nil ⟨hS.trans hk72, fun hS => ?_⟩
                      refine any_one 7 (by kernel_rfl) (one_of rfl ?_)
                      refine op_call rfl rfl rfl (rf8_Prove w72 (.slice aj m.length cj) S m q.1 (hab.atI hwb hnb) hsb (hJ62.k (hk6268.trans hS)) (by omega)) ?_; rintro v74 w74 ⟨qs, hQ, hRq, hinq, hk74⟩
                      refine ops_nil ⟨hS.trans hk74, fun hS => ?_⟩
                      refine any_ast 8 rfl (by kernel_rfl) (by kernel_rfl) (by kernel_rfl) rfl hS ?_
                      refine any_ast 9 rfl (by kernel_rfl) (by kernel_rfl) (by kernel_rfl) rfl hS ?_
                      refine any_done (by kernel_rfl) ?_
                      refine W_seq ?_
                      refine W_region ?_
                      refine o_asc rfl ?_
                      refine ops_nil ?_
                      refine W_block ?_
                      obtain ⟨ap, cp, rfl, hpc, hcpm⟩ := hP.sl.form
                      obtain ⟨aq2, cq2, rfl, _, _⟩ := hQ.sl.form
                      have hPl := RowsO.len hRp
                      have hQl := RowsO.len hRq
                      have hP74 := hP.keep hk74 (fun _ _ => trivial)
                      have hRp74 := RowsO.k hk74 (fun _ _ _ _ _ _ => trivial) hRp
                      have hk6274 : Keep All w62 w74 := hk6268.trans hS
                      refine W_loop [15] [4, 15, 113, 114, 115, 116, 117, 118, 119, 120, 121, 122, 123, 124, 125, 126, 127, 128, 129, 130, 131, 132, 133, 134, 135, 136, 137, 138, 139, 140, 141, 142, 143, 144, 145, 146, 147] (fun vs w' => ∃ k : Nat, vs = [.int .i64 k] ∧ k ≤ ps.length ∧ k ≤ qs.length ∧ (∀ j : Nat, j < k → (proveT T q.1)[j]? = (proveT S q.1)[j]?) ∧ Keep All w74 w') (fun vs _ => match vs with | [.int _ y] => ps.length - y.toNat | _ => 0) ⟨0, rfl, Nat.zero_le _, Nat.zero_le _, (fun j h => by omega), Keep.refl _⟩ ?_
                      rintro J76 vs w76 ⟨k, rfl, hkp, hkq, hpre, hk76⟩ -
                      refine W_seq ?_
                      refine W_cut [122] [113, 114, 115, 116, 117, 118, 119, 120, 121, 122] (fun vs w77 => vs = [.bool (decide (k < ps.length ∧ k < qs.length))] ∧ w77 = w76) ?_ ?_
                      · refine W_region ?_
                        refine o_mvt rfl ?_
                        refine o_mvt rfl ?_
                        refine op_run (r_len rfl rfl rfl) rfl ?_
                        refine op_run (r_lss rfl rfl) rfl ?_
                        refine o_mvt rfl ?_
                        refine g_split rfl rfl rfl (fun g78 => ?_) (fun g78 => ?_)
                        · refine o_mvt (g_yes rfl rfl rfl g78) ?_
                          refine o_mvt (g_yes rfl rfl rfl g78) ?_
                          refine op_run (r_len rfl rfl rfl) (g_yes rfl rfl rfl g78) ?_
                          refine op_run (r_lss rfl rfl) (g_yes rfl rfl rfl g78) ?_
                          refine o_pkTt rfl g78 rfl ?_
                          refine ops_nil ?_
                          exact ⟨by (repeat (first | with_reducible exact offM_refl _ _ | refine offM_updc rfl ?_ | refine offM_upd rfl ?_ | refine offM_updo rfl ?_ | refine offM_updo_none ?_ | refine offM_head rfl rfl ?_)), congrArg (fun b => [Value.bool b]) (by simp at g78; simp [g78]), rfl⟩
                        · refine op_skip (g_no rfl rfl rfl g78) ?_
                          refine op_skip (g_no rfl rfl rfl g78) ?_
                          refine op_skip (g_no rfl rfl rfl g78) ?_
                          refine op_skip (g_no rfl rfl rfl g78) ?_
                          refine o_pkFc rfl g78 rfl ?_
                          refine ops_nil ?_
                          exact ⟨by (repeat (first | with_reducible exact offM_refl _ _ | refine offM_updc rfl ?_ | refine offM_upd rfl ?_ | refine offM_updo rfl ?_ | refine offM_updo_none ?_ | refine offM_head rfl rfl ?_)), congrArg (fun b => [Value.bool b]) (by simp at g78; symm; apply decide_eq_false; omega), rfl⟩
                      · rintro J81 vs w81 ⟨rfl, rfl⟩ -
                        refine W_cond_p rfl (fun h82 => ?_) (fun h82 => ?_)
                        · refine W_skip ?_
                          refine W_seq ?_
                          refine W_block ?_
                          refine W_seq ?_
                          obtain ⟨hkp, hkq⟩ := h82
                          obtain ⟨x, hx⟩ : ∃ x, (proveT T q.1)[k]? = some x := ⟨_, List.getElem?_eq_getElem (by omega)⟩
                          obtain ⟨y, hy⟩ : ∃ y, (proveT S q.1)[k]? = some y := ⟨_, List.getElem?_eq_getElem (by omega)⟩
                          have hxl := prove_len hwa hsa hx
                          have hyl := prove_len hwb hsb hy
                          obtain ⟨vp, hvp, hOp, _⟩ := RowsO.get (RowsO.k hk76 (fun _ _ _ _ _ _ => trivial) hRp74) hx
                          obtain ⟨vq, hvq, hOq, _⟩ := RowsO.get (RowsO.k hk76 (fun _ _ _ _ _ _ => trivial) hRq) hy
                          have hbp := OwnB.by_ hOp
                          have hbq := OwnB.by_ hOq
                          obtain ⟨ax, cx, rfl, _, _⟩ := hbp.form
                          obtain ⟨ay, cy, rfl, _, _⟩ := hbq.form
                          obtain ⟨bo, oo, co, eo, _, _, hco⟩ := (hP74.keep hk76 (fun _ _ => trivial)).sl.at (by omega)
                          cases eo
                          obtain ⟨bp, op, cp2, ep, _, _, hcq2⟩ := (hQ.keep hk76 (fun _ _ => trivial)).sl.at (by omega)
                          cases ep
                          have hincK := inc64' k (by unfold maxLen at hcpm; omega)
                          have hTn : T ≠ .no := wayB_some hx
                          have hSn : S ≠ .no := wayB_some hy
                          have hclash : tagD 4 [x] = tagD 4 [y] := way_first T S (nibs q.1.val) 64 64 k x y hwa hwb (by rw [← rootT_ne hTn, ← rootT_ne hSn, hroot]) hx hy hpre
                          refine W_quiet (Keep All w81) (by kernel_rfl) (by kernel_rfl) (Keep.drawn _) ?_
                          refine q_mvt rfl ?_
                          refine q_mvt rfl ?_
                          refine q_run (fun _ _ => r_idxS1 rfl rfl rfl rfl (by omega) (by omega)) rfl ?_
                          refine q_run (fun _ hk => r_load (v := .slice ax x.length cx) rfl rfl rfl (hk.cell (by rw [Int.toNat_natCast]; exact hco k _ hvp) trivial)) rfl ?_
                          refine q_mvt rfl ?_
                          refine q_mvt rfl ?_
                          refine q_run (fun _ _ => r_idxS1 rfl rfl rfl rfl (by omega) (by omega)) rfl ?_
                          refine q_run (fun _ hk => r_load (v := .slice ay y.length cy) rfl rfl rfl (hk.cell (by rw [Int.toNat_natCast]; exact hcq2 k _ hvq) trivial)) rfl ?_
                          refine q_call rfl rfl rfl (fun _ hk => (ref01_Same _ _ _ x y (Sl.k hbp hk) (Sl.k hbq hk)).mono fun e w'' ⟨u, he, h1, h2⟩ => ⟨u, he, h1, hk.trans h2⟩) ?_
                          refine q_run (fun _ _ => (r_not rfl)) rfl ?_
                          refine q_nil ?_; intro w89 hk89
                          refine W_cond rfl (fun h90 => ?_) (fun h90 => ?_)
                          · refine W_seq ?_
                            have hkw89 : Keep All w w89 := ((hkw62.trans hk6274).trans hk76).trans hk89
                            have hbp89 := Sl.k hbp hk89
                            have hbq89 := Sl.k hbq hk89
                            refine W_held (fun w' => Keep All w89 w') (by kernel_rfl) (Keep.drawn w89) (fun hS => ?_)
                            refine any_mvt 0 rfl (by kernel_rfl) (by kernel_rfl) (by kernel_rfl) rfl hS ?_
                            refine any_mvt 1 rfl (by kernel_rfl) (by kernel_rfl) (by kernel_rfl) rfl hS ?_
                            refine any_run 2 (fun w' hS' => (r_idxS1 rfl rfl rfl rfl (by omega) (by omega))) rfl (by kernel_rfl) (by kernel_rfl) (by kernel_rfl) rfl hS ?_
                            refine any_run 3 (fun w' hS' => (r_load (v := .slice ax x.length cx) rfl rfl rfl ((hk89.trans hS').cell (by rw [Int.toNat_natCast]; exact hco k _ hvp) trivial))) rfl (by kernel_rfl) (by kernel_rfl) (by kernel_rfl) rfl hS ?_
                            refine any_mvt 6 rfl (by kernel_rfl) (by kernel_rfl) (by kernel_rfl) rfl hS ?_
                            refine any_mvt 7 rfl (by kernel_rfl) (by kernel_rfl) (by kernel_rfl) rfl hS ?_
                            refine any_run 8 (fun w' hS' => (r_idxS1 rfl rfl rfl rfl (by omega) (by omega))) rfl (by kernel_rfl) (by kernel_rfl) (by kernel_rfl) rfl hS ?_
                            refine any_run 9 (fun w' hS' => (r_load (v := .slice ay y.length cy) rfl rfl rfl ((hk89.trans hS').cell (by rw [Int.toNat_natCast]; exact hcq2 k _ hvq) trivial))) rfl (by kernel_rfl) (by kernel_rfl) (by kernel_rfl) rfl hS ?_
                            refine any_two 4 10 (by kernel_rfl) (one_of rfl ?_) (one_of rfl ?_)
                            · refine o_bs1 (v := (.slice ax x.length cx)) rfl rfl rfl rfl rfl rfl ?_; intro w96 b96 e96 hB96 hk96 hs96
                              refine ops_nil ⟨hS.trans hk96, fun hS => ?_⟩
                              refine any_two 5 10 (by kernel_rfl) (one_of rfl ?_) (one_of rfl ?_)
                              · refine op_call rfl rfl rfl (rf_TagD w96 _ 4 [x] (rowsB_one hB96 (Sl.k hbp89 hS)) (tag_1 4 hxl)) ?_; rintro v98 w98 ⟨rfl, hk98⟩
                                refine ops_nil ⟨hS.trans hk98, fun hS => ?_⟩
                                refine any_one 10 (by kernel_rfl) (one_of rfl ?_)
                                refine o_bs1 (v := (.slice ay y.length cy)) rfl rfl rfl rfl rfl rfl ?_; intro w100 b100 e100 hB100 hk100 hs100
                                refine ops_nil ⟨hS.trans hk100, fun hS => ?_⟩
                                refine any_one 11 (by kernel_rfl) (one_of rfl ?_)
                                refine op_call rfl rfl rfl (rf_TagD w100 _ 4 [y] (rowsB_one hB100 (Sl.k hbq89 hS)) (tag_1 4 hyl)) ?_; rintro v102 w102 ⟨rfl, hk102⟩
                                refine ops_nil ⟨hS.trans hk102, fun hS => ?_⟩
                                refine any_run 12 (fun w' hS' => (r_eqlC (p := tagD 4 [x] = tagD 4 [y]) rfl rfl rfl rfl (by kernel_rfl) (okC_dgR _) (okC_dgR _) rfl (dgR_inj))) rfl (by kernel_rfl) (by kernel_rfl) (by kernel_rfl) rfl hS ?_
                                refine any_ast 13 rfl (by kernel_rfl) (by kernel_rfl) (by kernel_rfl) rfl hS ?_
                                refine any_done (by kernel_rfl) ?_
                                refine W_ret ?_
                                refine ret1 (.bool (decide (tagD 4 [x] = tagD 4 [y]))) rfl ?_ ?_; rfl
                                exact ⟨by rw [decide_eq_true hclash], hkw89.trans hS⟩
                              · refine o_bs1 (v := (.slice ay y.length cy)) rfl rfl rfl rfl rfl rfl ?_; intro w106 b106 e106 hB106 hk106 hs106
                                refine ops_nil ⟨hS.trans hk106, fun hS => ?_⟩
                                refine any_one 5 (by kernel_rfl) (one_of rfl ?_)
                                refine op_call rfl rfl rfl (rf_TagD w106 _ 4 [x] (rowsB_one (hk106.blk' hB96 trivial) (Sl.k hbp89 hS)) (tag_1 4 hxl)) ?_; rintro v108 w108 ⟨rfl, hk108⟩
                                refine ops_nil ⟨hS.trans hk108, fun hS => ?_⟩
                                refine any_one 11 (by kernel_rfl) (one_of rfl ?_)
                                refine op_call rfl rfl rfl (rf_TagD w108 _ 4 [y] (rowsB_one (hk108.blk' hB106 trivial) (Sl.k hbq89 hS)) (tag_1 4 hyl)) ?_; rintro v110 w110 ⟨rfl, hk110⟩
                                refine ops_nil ⟨hS.trans hk110, fun hS => ?_⟩
                                refine any_run 12 (fun w' hS' => (r_eqlC (p := tagD 4 [x] = tagD 4 [y]) rfl rfl rfl rfl (by kernel_rfl) (okC_dgR _) (okC_dgR _) rfl (dgR_inj))) rfl (by kernel_rfl) (by kernel_rfl) (by kernel_rfl) rfl hS ?_
                                refine any_ast 13 rfl (by kernel_rfl) (by kernel_rfl) (by kernel_rfl) rfl hS ?_
                                refine any_done (by kernel_rfl) ?_
                                refine W_ret ?_
                                refine ret1 (.bool (decide (tagD 4 [x] = tagD 4 [y]))) rfl ?_ ?_; rfl
                                exact ⟨by rw [decide_eq_true hclash], hkw89.trans hS⟩
                            · refine o_bs1 (v := (.slice ay y.length cy)) rfl rfl rfl rfl rfl rfl ?_; intro w114 b114 e114 hB114 hk114 hs114
                              refine ops_nil ⟨hS.trans hk114, fun hS => ?_⟩
                              refine any_one 4 (by kernel_rfl) (one_of rfl ?_)
                              refine o_bs1 (v := (.slice ax x.length cx)) rfl rfl rfl rfl rfl rfl ?_; intro w116 b116 e116 hB116 hk116 hs116
                              refine ops_nil ⟨hS.trans hk116, fun hS => ?_⟩
                              refine any_one 5 (by kernel_rfl) (one_of rfl ?_)
                              refine op_call rfl rfl rfl (rf_TagD w116 _ 4 [x] (rowsB_one hB116 (Sl.k hbp89 hS)) (tag_1 4 hxl)) ?_; rintro v118 w118 ⟨rfl, hk118⟩
                              refine ops_nil ⟨hS.trans hk118, fun hS => ?_⟩
                              refine any_one 11 (by kernel_rfl) (one_of rfl ?_)
                              refine op_call rfl rfl rfl (rf_TagD w118 _ 4 [y] (rowsB_one ((hk116.trans hk118).blk' hB114 trivial) (Sl.k hbq89 hS)) (tag_1 4 hyl)) ?_; rintro v120 w120 ⟨rfl, hk120⟩
                              refine ops_nil ⟨hS.trans hk120, fun hS => ?_⟩
                              refine any_run 12 (fun w' hS' => (r_eqlC (p := tagD 4 [x] = tagD 4 [y]) rfl rfl rfl rfl (by kernel_rfl) (okC_dgR _) (okC_dgR _) rfl (dgR_inj))) rfl (by kernel_rfl) (by kernel_rfl) (by kernel_rfl) rfl hS ?_
                              refine any_ast 13 rfl (by kernel_rfl) (by kernel_rfl) (by kernel_rfl) rfl hS ?_
                              refine any_done (by kernel_rfl) ?_
                              refine W_ret ?_
                              refine ret1 (.bool (decide (tagD 4 [x] = tagD 4 [y]))) rfl ?_ ?_; rfl
                              exact ⟨by rw [decide_eq_true hclash], hkw89.trans hS⟩
                          · refine W_skip ?_
                            refine W_region ?_
                            refine o_mvt rfl ?_
                            refine op_run (r_add rfl rfl) rfl ?_
                            refine o_ast rfl ?_
                            refine ops_nil ?_
                            have hxy : x = y := by simpa using h90
                            refine ⟨by (repeat (first | with_reducible exact offM_refl _ _ | refine offM_updc rfl ?_ | refine offM_upd rfl ?_ | refine offM_updo rfl ?_ | refine offM_updo_none ?_ | refine offM_head rfl rfl ?_)), ⟨k + 1, congrArg (fun z : Int => [Value.int .i64 z]) hincK, by omega, by omega, fun j hj => ?_, hk76.trans hk89⟩, ?_⟩
                            · by_cases e : j = k
                              · rw [e, hx, hy, hxy]
                              · exact hpre j (by omega)
                            · show ps.length - (IntKind.i64.wrap ((k : Int) + 1)).toNat < ps.length - (k : Int).toNat
                              rw [hincK]; omega
                        · refine W_exit ?_
                          refine W_region ?_
                          refine op_run (r_add rfl rfl) rfl ?_
                          refine o_mvt rfl ?_
                          refine ops_nil ?_
                          refine ⟨by (repeat (first | with_reducible exact offM_refl _ _ | refine offM_updc rfl ?_ | refine offM_upd rfl ?_ | refine offM_updo rfl ?_ | refine offM_updo_none ?_ | refine offM_head rfl rfl ?_)), ⟨t + 1, congrArg (fun z : Int => [Value.int .i64 z]) hincT, by omega, fun z hz i a b' ha' hb' => ?_, hk6274.trans hk76⟩, ?_⟩
                          · rw [List.take_succ_eq_append_getElem htl, (List.getElem?_eq_some_iff.1 hq).2] at hz
                            rcases List.mem_append.1 hz with h | h
                            · exact hsame z h i a b' ha' hb'
                            · rw [List.mem_singleton.1 h] at ha' hb'
                              have i1 := (List.getElem?_eq_some_iff.1 ha').1
                              have i2 := (List.getElem?_eq_some_iff.1 hb').1
                              have := hpre i (by omega)
                              rw [ha', hb'] at this
                              exact Option.some.inj this
                          · show (l ++ m).length - (IntKind.i64.wrap ((t : Int) + 1)).toNat < (l ++ m).length - (t : Int).toNat
                            rw [hincT]; omega
                    · refine W_exit ?_
                      refine W_seq ?_
                      refine W_region ?_
                      have hte : t = (l ++ m).length := by omega
                      rw [hte, List.take_length] at hsame
                      refine o_mvt rfl ?_
                      refine op_run (r_len rfl rfl rfl) rfl ?_
                      refine op_run (r_eql rfl rfl) rfl ?_
                      refine o_mvt rfl ?_
                      refine g_split rfl rfl rfl (fun g126 => ?_) (fun g126 => ?_)
                      · refine o_mvt (g_yes rfl rfl rfl g126) ?_
                        refine op_run (r_len rfl rfl rfl) (g_yes rfl rfl rfl g126) ?_
                        refine op_run (r_eql rfl rfl) (g_yes rfl rfl rfl g126) ?_
                        refine o_pkFt rfl g126 rfl ?_
                        refine o_ast rfl ?_
                        refine ops_nil ?_
                        refine W_ret ?_
                        refine ret1 (.bool (decide ((m.length : Int) = 0))) rfl ?_ ?_; rfl
                        have g : ¬ l.length = 0 := by simp at g126; intro h; exact g126 (List.eq_nil_of_length_eq_zero h)
                        refine ⟨congrArg Value.bool (decide_eq_true ?_), hkw62.trans hk63⟩
                        refine Classical.byContradiction fun hm0 => hlm0 (hlm ?_)
                        have hTn : T ≠ .no := fun e => by rw [e] at haa; exact g (by rw [(haa.atI trivial hna).no]; rfl)
                        have hSn : S ≠ .no := fun e => by rw [e] at hab; exact hm0 (by rw [(hab.atI trivial hnb).no]; rfl)
                        refine same_all T S 64 hwa hwb hTn hSn fun r hr h16 hg k a b ha' hb' => ?_
                        obtain ⟨d, hd, rfl⟩ := nibs_surj 32 r (by omega) h16
                        have hmem : ∃ z ∈ l ++ m, z.1 = ⟨d, hd⟩ := by
                          rcases hg with hg | hg
                          · rw [haa ⟨d, hd⟩] at hg
                            obtain ⟨v0, h0⟩ := Option.ne_none_iff_exists'.1 hg
                            exact ⟨_, List.mem_append.2 (.inl (look_mem h0)), rfl⟩
                          · rw [hab ⟨d, hd⟩] at hg
                            obtain ⟨v0, h0⟩ := Option.ne_none_iff_exists'.1 hg
                            exact ⟨_, List.mem_append.2 (.inr (look_mem h0)), rfl⟩
                        obtain ⟨z, hz, ez⟩ := hmem
                        exact hsame z hz k a b (by rw [ez]; exact ha') (by rw [ez]; exact hb')
                      · refine op_skip (g_no rfl rfl rfl g126) ?_
                        refine op_skip (g_no rfl rfl rfl g126) ?_
                        refine op_skip (g_no rfl rfl rfl g126) ?_
                        refine o_pkTc rfl g126 rfl ?_
                        refine o_ast rfl ?_
                        refine ops_nil ?_
                        refine W_ret ?_
                        refine ret1 (.bool true) rfl ?_ ?_; rfl
                        exact ⟨rfl, hkw62.trans hk63⟩
end Go.Proofs.Ytpiidddccmohdaa.B
