/-
  sporranlaw08: TrieOrder.
-/
import Derived.Test.YtpiidddccmohdaaTreK2
import Derived.Test.YtpiidddccmohdaaTreD
namespace Go.Proofs.Ytpiidddccmohdaa.B
open Go
set_option linter.unusedVariables false
set_option maxHeartbeats 2000000
set_option maxRecDepth 100000
attribute [local irreducible] W OpsW OpsQ retP
def moreT (ms : List Cl) : Tre := ms.foldl (fun T c => putTT T c.2.1 c.2.2) .no
theorem moreT_s {ms : List Cl} {k : Nat} {c : Cl} (h : ms[k]? = some c) : moreT (ms.take (k + 1)) = putTT (moreT (ms.take k)) c.2.1 c.2.2 := by
  obtain ⟨h1, h2⟩ := List.getElem?_eq_some_iff.1 h
  unfold moreT
  rw [List.take_succ_eq_append_getElem h1, h2, List.foldl_append]; rfl
theorem more_get (d : Dig) (v : List UInt8) : ∀ (ms : List Cl) (T : Tre), T.wf 64 → (ms.foldl (fun T c => putTT T c.2.1 c.2.2) T).wf 64 ∧ ((ms.foldl (fun T c => putTT T c.2.1 c.2.2) T).get (nibs d.val) = some v → T.get (nibs d.val) = some v ∨ ∃ c ∈ ms, c.2.1 = d)
  | [], T, h => ⟨h, fun h => .inl h⟩
  | c :: ms, T, h => by
    obtain ⟨h1, h2⟩ := more_get d v ms (putTT T c.2.1 c.2.2) (wf_putTT h _ _)
    refine ⟨h1, fun hg => ?_⟩
    rcases h2 hg with h3 | ⟨x, hx, e⟩
    · rw [get_putTT h] at h3
      by_cases e : d = c.2.1
      · exact .inr ⟨c, List.mem_cons_self .., e.symm⟩
      · rw [if_neg e] at h3; exact .inl h3
    · exact .inr ⟨x, List.mem_cons_of_mem _ hx, e⟩
theorem itR_val {x : Iv} : (itR x)[32]? = some x.2 := by
  unfold itR; rw [List.getElem?_append_right (by rw [dgR_len]; decide), dgR_len]; rfl
theorem findI_neg {key : Dig} {l : List It} : findI key l 0 < 0 ↔ lookI l key = none := by
  have h := findI_look key l 0
  cases hl : lookI l key with
  | none =>
    rw [hl] at h
    have := of_decide_eq_false (show decide (0 ≤ findI key l 0) = false from h)
    exact ⟨fun _ => rfl, fun _ => by omega⟩
  | some v =>
    rw [hl] at h
    have := of_decide_eq_true (show decide (0 ≤ findI key l 0) = true from h)
    exact ⟨fun h => by omega, fun h => by cases h⟩
theorem lw_Order (w : World) (v vm : Value) (cs ms : List Cl) (hv : ClsIn w v cs) (hvm : ClsIn w vm ms) : Ret Try.prog 5 [v, vm].toArray w fun r w' => r = .bool true ∧ Keep All w w' := by
  obtain ⟨am, cm, rfl, hcm, hcmm⟩ := SlR.form hvm
  refine enter (fn := Try.f5) (n := 89) Try.func5 rfl rfl (by simp) ?_
  refine W_seq ?_
  refine W_region ?_
  refine o_asc rfl ?_
  refine ops_nil ?_
  refine W_seq ?_
  refine W_seq ?_
  refine W_region ?_
  refine op_call rfl rfl rfl (lw_speaks w) ?_; rintro v1 w1 ⟨rfl, hk1⟩
  refine op_run (r_not rfl) rfl ?_
  refine ops_nil ?_
  refine W_cond rfl (fun h2 => ?_) (fun h2 => ?_)
  · refine W_seq ?_
    refine W_region ?_
    refine o_asc rfl ?_
    refine ops_nil ?_
    refine W_ret ?_
    refine ret1 (.bool false) rfl ?_ ?_; rfl
    cases h2
  · refine W_skip ?_
    refine W_seq ?_
    refine W_cut [20] [15, 16, 17, 18, 19, 20] (fun vs w4 => ∃ g : Bool, vs = [.bool g] ∧ (g = false → smallC cs ∧ smallC ms) ∧ Keep All w1 w4) ?_ ?_
    · refine W_region ?_
      refine o_mvt rfl ?_
      refine op_call rfl rfl rfl (lw_Great w1 v cs (hv.k hk1)) ?_; rintro v5 w5 ⟨⟨g, rfl, hg⟩, hk5⟩
      refine o_mvt rfl ?_
      refine g_split rfl rfl rfl (fun g6 => ?_) (fun g6 => ?_)
      · refine o_mvt (g_yes rfl rfl rfl g6) ?_
        refine op_call rfl rfl (g_yes rfl rfl rfl g6) (lw_Great w5 _ ms (hvm.k (hk1.trans hk5))) ?_; rintro v7 w7 ⟨⟨g2, rfl, hg2⟩, hk7⟩
        refine o_pkFt rfl g6 rfl ?_
        refine ops_nil ?_
        exact ⟨by (repeat (first | with_reducible exact offM_refl _ _ | refine offM_updc rfl ?_ | refine offM_upd rfl ?_ | refine offM_updo rfl ?_ | refine offM_updo_none ?_ | refine offM_head rfl rfl ?_)), g2, rfl, fun h => ⟨hg g6, hg2 h⟩, hk5.trans hk7⟩
      · refine op_skip (g_no rfl rfl rfl g6) ?_
        refine op_skip (g_no rfl rfl rfl g6) ?_
        refine o_pkTc rfl g6 rfl ?_
        refine ops_nil ?_
        exact ⟨by (repeat (first | with_reducible exact offM_refl _ _ | refine offM_updc rfl ?_ | refine offM_upd rfl ?_ | refine offM_updo rfl ?_ | refine offM_updo_none ?_ | refine offM_head rfl rfl ?_)), true, rfl, (fun h => by cases h), hk5⟩
    · rintro J10 vs w10 ⟨g, rfl, hg, hk10⟩ -
      refine W_cond rfl (fun h11 => ?_) (fun h11 => ?_)
      · refine W_seq ?_
        refine W_region ?_
        refine o_asc rfl ?_
        refine ops_nil ?_
        refine W_ret ?_
        refine ret1 (.bool true) rfl ?_ ?_; rfl
        exact ⟨rfl, hk1.trans hk10⟩
      · refine W_skip ?_
        refine W_seq ?_
        refine W_region ?_
        obtain ⟨hsm, hsmm⟩ := hg h11
        have hkw10 : Keep All w w10 := hk1.trans hk10
        have hms50 := hsmm.1
        obtain ⟨B, hB⟩ : ∃ B, B = w10.heap.size := ⟨_, rfl⟩
        refine o_mvt rfl ?_
        refine op_call rfl rfl rfl (lw_play w10 v cs (hv.k hkw10) hsm) ?_; rintro v13 w13 ⟨u, rfl, hT13, hI13, hk13⟩
        rw [← hB] at hT13 ⊢
        have hag := play_ok cs (.no, []) (fun _ => rfl) trivial
        have hsv := play_short 200 cs (.no, []) (fun x h => by cases h) hsm.2
        have hll := play_len cs (.no, [])
        obtain ⟨T, hT_⟩ : ∃ T, T = (playC cs).1 := ⟨_, rfl⟩
        obtain ⟨l, hl_⟩ : ∃ l, l = (playC cs).2 := ⟨_, rfl⟩
        have ha : Agree T l := by rw [hT_, hl_]; exact hag.1
        have hw : T.wf 64 := by rw [hT_]; exact hag.2
        have hs1 : ∀ x ∈ l, x.2.length ≤ 200 := by rw [hl_]; exact hsv
        have hl50 : l.length ≤ 50 := by
          rw [hl_]
          have e0 : ((Tre.no, ([] : List It)) : Tre × List It).2.length = 0 := rfl
          have : (playC cs).2.length ≤ _ := hll
          have := hsm.1
          omega
        have hsh : T.short := ha.short hw fun x hx => Nat.le_trans (hs1 x hx) (by decide)
        have hkc : (keysT T []).length ≤ 2 ^ 20 := Nat.le_trans (ha.keys_le hw) (by omega)
        rw [← hT_] at hT13
        rw [← hl_] at hI13
        obtain ⟨au, cu, rfl, _, _⟩ := hI13.form
        refine o_mvt rfl ?_
        refine op_run (r_extract rfl rfl) rfl ?_
        refine op_run (r_extract rfl rfl) rfl ?_
        refine o_ast rfl ?_
        refine o_ast rfl ?_
        refine ops_nil ?_
        refine W_seq ?_
        refine W_seq ?_
        refine W_region ?_
        refine o_mvt rfl ?_
        refine op_run (r_isNilP rfl rfl) rfl ?_
        refine ops_nil ?_
        refine W_cond rfl (fun h14 => ?_) (fun h14 => ?_)
        · refine W_seq ?_
          refine W_region ?_
          refine o_asc rfl ?_
          refine ops_nil ?_
          refine W_ret ?_
          refine ret1 (.bool false) rfl ?_ ?_; rfl
          cases h14
        · refine W_skip ?_
          refine W_seq ?_
          refine W_region ?_
          obtain ⟨X, hX⟩ : ∃ X, X = w13.heap.size := ⟨_, rfl⟩
          refine op_call rfl rfl rfl (tr_New w13) ?_; rintro v16 w16 ⟨rfl, hX16, hk16⟩
          rw [← hX] at hX16 ⊢
          have hBX : B ≠ X := by obtain ⟨a, ha⟩ := hT13.cell; have := ha.lt; omega
          have hkw13 : Keep All w w13 := hkw10.trans hk13
          have hwX : w.heap.size ≤ X := by have := hkw13.size; omega
          have stay : ∀ (wa wb : World) (X0 : Tre), TrieIn wa X X0 → Keep (fun z => z ≠ X) wa wb → TrieIn wa B T → ItIn wa (.slice au l.length cu) l → Keep All w wa → TrieIn wb B T ∧ ItIn wb (.slice au l.length cu) l ∧ Keep All w wb := fun wa wb X0 h1 hk h2 h3 h4 => by
            obtain ⟨a, hc⟩ := h1.cell
            exact ⟨h2.other hc hBX hk, h3.other hc hk, h4.new hk hwX⟩
          refine o_ast rfl ?_
          refine ops_nil ?_
          refine W_seq ?_
          refine W_seq ?_
          refine W_region ?_
          refine o_mvt rfl ?_
          refine op_run (r_len rfl rfl rfl) rfl ?_
          refine o_mvc rfl ?_
          refine ops_nil ?_
          refine W_block ?_
          refine W_loop [31] [9, 31, 32, 33, 34, 35, 36, 37, 38, 39, 40, 41] (fun vs w' => ∃ k : Nat, vs = [.int .i64 k] ∧ k ≤ ms.length ∧ TrieIn w' X (moreT (ms.take k)) ∧ TrieIn w' B T ∧ ItIn w' (.slice au l.length cu) l ∧ Keep All w w') (fun vs _ => match vs with | [.int _ y] => ms.length - y.toNat | _ => 0) ⟨0, rfl, Nat.zero_le _, hX16, hT13.k hk16, hI13.k hk16, hkw13.trans hk16⟩ ?_
          rintro J17 vs w17 ⟨k, rfl, hk, hX17, hT17, hI17, hkw⟩ -
          refine W_seq ?_
          refine W_region ?_
          refine op_run (r_lss rfl rfl) rfl ?_
          refine ops_nil ?_
          refine W_seq ?_
          refine W_cond_p rfl (fun h18 => ?_) (fun h18 => ?_)
          · refine W_skip ?_
            refine W_seq ?_
            refine W_block ?_
            refine W_seq ?_
            refine W_region ?_
            have hkl : k < ms.length := by omega
            obtain ⟨c, hc⟩ : ∃ c, ms[k]? = some c := ⟨_, List.getElem?_eq_getElem hkl⟩
            obtain ⟨b, off, cp, vv, ev_, hby, hcell⟩ := (hvm.k hkw).at hc
            cases ev_
            obtain ⟨av, cv, rfl, _, _⟩ := hby.form
            have hinc := inc64' k (by omega)
            have hcl := hsmm.2 c (List.mem_of_getElem? hc)
            refine op_run (r_idxS rfl rfl rfl rfl (by omega) (by omega)) rfl ?_
            refine op_run (r_loadA (callR c.1 c.2.1 (.slice av c.2.2.length cv)) rfl rfl rfl (by first | rfl | (rw [binV_len]; rfl) | (rw [dgR_len]; rfl) | (rw [refR_len]; rfl) | (rw [secR_len]; rfl) | (rw [List.length_map, tagF_len]; rfl) | (rw [callR_len]; rfl) | (rw [dgR_len]; rfl)) ((fun j u hj => by rw [Int.toNat_natCast]; exact hcell j u hj))) rfl ?_
            refine o_alloc rfl rfl rfl ?_; intro w21 b21 e21 hB21 hk21 hs21
            refine o_storeA (cs := callR c.1 c.2.1 (.slice av c.2.2.length cv)) rfl rfl (by first | rfl | exact binV_one _ | exact dgR_one _ | exact refR_one _ | exact secR_one _ | exact all_c8 _ | exact callR_one (Sl.oneI hby)) (by first | rfl | (rw [binV_len]; rfl) | (rw [dgR_len]; rfl) | (rw [refR_len]; rfl) | (rw [secR_len]; rfl) | (rw [List.length_map, tagF_len]; rfl) | (rw [callR_len]; rfl) | (rw [dgR_len]; rfl)) hB21 (by exact Nat.le_of_eq (by simp [callR_len])) rfl ?_; intro w22 hB22 hk22 hs22
            have hB22 : Blk w22 b21 (callR c.1 c.2.1 (.slice av c.2.2.length cv)) 47 := by
              have h := hB22
              rwa [splice_all (by simp [callR_len])] at h
            have hk1722 : Keep All w17 w22 := hk21.new hk22 (by omega)
            refine ops_nil ?_
            refine W_region ?_
            refine o_mvt rfl ?_
            refine op_run (r_fieldAddr rfl rfl rfl rfl rfl) rfl ?_
            refine op_run (r_loadA (dgR c.2.1) rfl rfl rfl (by first | rfl | (rw [binV_len]; rfl) | (rw [dgR_len]; rfl) | (rw [refR_len]; rfl) | (rw [secR_len]; rfl) | (rw [List.length_map, tagF_len]; rfl) | (rw [callR_len]; rfl) | (rw [dgR_len]; rfl)) (hB22.key)) rfl ?_
            refine op_run (r_fieldAddr rfl rfl rfl rfl rfl) rfl ?_
            refine op_run (r_load rfl rfl rfl (hB22.cell callR_val)) rfl ?_
            refine op_call rfl rfl rfl (tr_Put w22 X (moreT (ms.take k)) c.2.1 _ c.2.2 (hX17.k hk1722) (Sl.k hby hk1722) (by omega)) ?_; rintro v25 w25 ⟨hX25, hk25⟩
            refine ops_nil ?_
            refine W_region ?_
            refine op_run (r_add rfl rfl) rfl ?_
            refine o_mvt rfl ?_
            refine ops_nil ?_
            obtain ⟨h1, h2, h3⟩ := stay w22 w25 _ (hX17.k hk1722) hk25 (hT17.k hk1722) (hI17.k hk1722) (hkw.trans hk1722)
            refine ⟨by (repeat (first | with_reducible exact offM_refl _ _ | refine offM_updc rfl ?_ | refine offM_upd rfl ?_ | refine offM_updo rfl ?_ | refine offM_updo_none ?_ | refine offM_head rfl rfl ?_)), ⟨k + 1, congrArg (fun z : Int => [Value.int .i64 z]) hinc, by omega, by rw [moreT_s hc]; exact hX25, h1, h2, h3⟩, ?_⟩
            show ms.length - (IntKind.i64.wrap ((k : Int) + 1)).toNat < ms.length - (k : Int).toNat
            rw [hinc]; omega
          · refine W_exit ?_
            refine W_seq ?_
            refine W_seq ?_
            refine W_region ?_
            refine o_mvt rfl ?_
            refine op_run (r_len rfl rfl rfl) rfl ?_
            refine op_run ((r_sub rfl rfl).val (congrArg (Value.int .i64) (show IntKind.i64.wrap ((l.length : Int) - 1) = (l.length : Int) - 1 from wrap_i64 (by omega) (by omega)))) rfl ?_
            refine o_ast rfl ?_
            refine ops_nil ?_
            refine W_block ?_
            have hke : k = ms.length := by omega
            rw [hke, List.take_length] at hX17
            have hmw : (moreT ms).wf 64 := (more_get Dig.zero [] ms .no trivial).1
            refine W_loop [10] [10, 45, 46, 47, 48, 49, 50, 51, 52, 53, 54, 55, 56, 57, 58, 59, 60] (fun vs w' => ∃ (j : Nat) (Y : Tre), vs = [.int .i64 ((j : Int) - 1)] ∧ j ≤ l.length ∧ (Y.wf 64 ∧ ∀ d : Dig, Y.get (nibs d.val) = (lookI (l.drop j) d).or ((moreT ms).get (nibs d.val))) ∧ TrieIn w' X Y ∧ TrieIn w' B T ∧ ItIn w' (.slice au l.length cu) l ∧ Keep All w w') (fun vs _ => match vs with | [.int _ y] => (y + 1).toNat | _ => 0) ⟨l.length, moreT ms, rfl, Nat.le_refl _, ⟨hmw, fun d => by rw [List.drop_length]; rfl⟩, hX17, hT17, hI17, hkw⟩ ?_
            clear hT17 hI17 hX17 hkw
            rintro J27 vs w27 ⟨j, Y, rfl, hj, ⟨hYw, hYg⟩, hX27, hT27, hI27, hkw⟩ -
            refine W_seq ?_
            refine W_seq ?_
            refine W_region ?_
            refine o_mvt rfl ?_
            refine op_run (r_geq rfl rfl) rfl ?_
            refine ops_nil ?_
            refine W_cond_p rfl (fun h28 => ?_) (fun h28 => ?_)
            · refine W_skip ?_
              refine W_seq ?_
              have hj0 : 0 < j := by omega
              obtain ⟨y, hy⟩ : ∃ y, l[j - 1]? = some y := ⟨_, List.getElem?_eq_getElem (by omega)⟩
              obtain ⟨b, off, cp, vv, ev_, hby, hc⟩ := hI27.at hy
              cases ev_
              have hjt : ((j : Int) - 1).toNat = j - 1 := by omega
              have hyl := hs1 y (List.mem_of_getElem? hy)
              refine W_block ?_
              refine W_gate 11 (fun w' => Keep All w27 w') (by kernel_rfl) (Keep.drawn w27) (fun hS => ?_)
              refine gt_mvt 0 rfl (by kernel_rfl) (by kernel_rfl) (by kernel_rfl) (by kernel_rfl) rfl hS ?_
              refine gt_mvt 1 rfl (by kernel_rfl) (by kernel_rfl) (by kernel_rfl) (by kernel_rfl) rfl hS ?_
              refine gt_mvt 2 rfl (by kernel_rfl) (by kernel_rfl) (by kernel_rfl) (by kernel_rfl) rfl hS ?_
              refine gt_run 3 (fun w' hS' => (r_idxS rfl rfl rfl rfl (by omega) (by omega))) rfl (by kernel_rfl) (by kernel_rfl) (by kernel_rfl) (by kernel_rfl) rfl hS ?_
              refine gt_run 4 (fun w' hS' => (r_fieldAddr rfl rfl rfl rfl rfl)) rfl (by kernel_rfl) (by kernel_rfl) (by kernel_rfl) (by kernel_rfl) rfl hS ?_
              refine gt_run 5 (fun w' hS' => (r_loadA (dgR y.1) rfl rfl rfl (by first | rfl | (rw [binV_len]; rfl) | (rw [dgR_len]; rfl) | (rw [refR_len]; rfl) | (rw [secR_len]; rfl) | (rw [List.length_map, tagF_len]; rfl) | (rw [callR_len]; rfl) | (rw [dgR_len]; rfl)) ((fun i u hi => by rw [hjt]; exact hS'.cell (itR_dg hc i u hi) trivial)))) rfl (by kernel_rfl) (by kernel_rfl) (by kernel_rfl) (by kernel_rfl) rfl hS ?_
              refine gt_mvt 6 rfl (by kernel_rfl) (by kernel_rfl) (by kernel_rfl) (by kernel_rfl) rfl hS ?_
              refine gt_mvt 7 rfl (by kernel_rfl) (by kernel_rfl) (by kernel_rfl) (by kernel_rfl) rfl hS ?_
              refine gt_run 8 (fun w' hS' => (r_idxS rfl rfl rfl rfl (by omega) (by omega))) rfl (by kernel_rfl) (by kernel_rfl) (by kernel_rfl) (by kernel_rfl) rfl hS ?_
              refine gt_run 9 (fun w' hS' => (r_fieldAddr rfl rfl rfl rfl rfl)) rfl (by kernel_rfl) (by kernel_rfl) (by kernel_rfl) (by kernel_rfl) rfl hS ?_
              refine gt_run 10 (fun w' hS' => (r_load (v := vv) rfl rfl rfl (by rw [hjt]; have h := hc 32 vv itR_val; rw [Addr.add_lit] at h; exact hS'.cell h trivial))) rfl (by kernel_rfl) (by kernel_rfl) (by kernel_rfl) (by kernel_rfl) rfl hS ?_
              refine gt_past 11 (by kernel_rfl) (by kernel_rfl) (one_of rfl ?_)
              refine op_call rfl rfl rfl (tr_Put _ X Y y.1 vv y.2 (hX27.k hS) (Sl.k hby hS) (by omega)) ?_; rintro v34 w34 ⟨hX34, hk34⟩
              refine ops_nil ?_
              refine gt_done (by kernel_rfl) ?_
              refine W_region ?_
              refine o_mvt rfl ?_
              refine op_run ((r_sub rfl rfl).val (congrArg (Value.int .i64) (show IntKind.i64.wrap ((j : Int) - 1 - 1) = ((j - 1 : Nat) : Int) - 1 from (wrap_i64 (by omega) (by omega)).trans (by omega)))) rfl ?_
              refine o_ast rfl ?_
              refine ops_nil ?_
              obtain ⟨h1, h2, h3⟩ := stay _ w34 _ (hX27.k hS) hk34 (hT27.k hS) (hI27.k hS) (hkw.trans hS)
              refine ⟨by (repeat (first | with_reducible exact offM_refl _ _ | refine offM_updc rfl ?_ | refine offM_upd rfl ?_ | refine offM_updo rfl ?_ | refine offM_updo_none ?_ | refine offM_head rfl rfl ?_)), ⟨j - 1, putTT Y y.1 y.2, rfl, by omega, ⟨wf_putTT hYw _ _, fun d => ?_⟩, hX34, h1, h2, h3⟩, ?_⟩
              · rw [get_putTT hYw, hYg d, List.drop_eq_getElem_cons (show j - 1 < l.length by omega), (List.getElem?_eq_some_iff.1 hy).2, show j - 1 + 1 = j by omega]
                show _ = (if y.1 = d then some y.2 else lookI (l.drop j) d).or _
                by_cases e : d = y.1
                · rw [if_pos e, if_pos e.symm]; rfl
                · rw [if_neg e, if_neg (fun h => e h.symm)]
              · show (((j - 1 : Nat) : Int) - 1 + 1).toNat < ((j : Int) - 1 + 1).toNat
                omega
            · refine W_exit ?_
              refine W_seq ?_
              refine W_seq ?_
              refine W_region ?_
              refine o_mvt rfl ?_
              refine op_run (r_len rfl rfl rfl) rfl ?_
              refine o_mvc rfl ?_
              refine ops_nil ?_
              refine W_block ?_
              have hje : j = 0 := by omega
              subst hje
              rw [List.drop_zero] at hYg
              refine W_loop [63] [12, 63, 64, 65, 66, 67, 68, 69, 70, 71, 72, 73, 74, 75, 76] (fun vs w' => ∃ (k : Nat) (Z : Tre), vs = [.int .i64 k] ∧ k ≤ ms.length ∧ (Z.wf 64 ∧ (∀ d : Dig, lookI l d ≠ none → Z.get (nibs d.val) = lookI l d) ∧ ∀ (d : Dig) (x : List UInt8), lookI l d = none → Z.get (nibs d.val) = some x → ∃ c ∈ ms.drop k, c.2.1 = d) ∧ TrieIn w' X Z ∧ TrieIn w' B T ∧ ItIn w' (.slice au l.length cu) l ∧ Keep All w w') (fun vs _ => match vs with | [.int _ y] => ms.length - y.toNat | _ => 0)
                ⟨0, Y, rfl, Nat.zero_le _, ⟨hYw, fun d hd => by
                  rw [hYg d]
                  cases hl : lookI l d with
                  | none => exact absurd hl hd
                  | some x => rfl, fun d x hn hg => by
                  rw [hYg d, hn] at hg
                  rcases (more_get d x ms .no trivial).2 hg with h | h
                  · cases h
                  · exact h⟩, hX27, hT27, hI27, hkw⟩ ?_
              clear hT27 hI27 hX27 hkw
              rintro J36 vs w36 ⟨k, Z, rfl, hk, ⟨hZw, hZ1, hZ2⟩, hX36, hT36, hI36, hkw⟩ -
              refine W_seq ?_
              refine W_region ?_
              refine op_run (r_lss rfl rfl) rfl ?_
              refine ops_nil ?_
              refine W_seq ?_
              refine W_cond_p rfl (fun h37 => ?_) (fun h37 => ?_)
              · refine W_skip ?_
                refine W_seq ?_
                refine W_block ?_
                refine W_seq ?_
                refine W_region ?_
                have hkl : k < ms.length := by omega
                obtain ⟨c, hc⟩ : ∃ c, ms[k]? = some c := ⟨_, List.getElem?_eq_getElem hkl⟩
                obtain ⟨b, off, cp, vv, ev_, hby, hcell⟩ := (hvm.k hkw).at hc
                cases ev_
                obtain ⟨av, cv, rfl, _, _⟩ := hby.form
                have hinc := inc64' k (by omega)
                have hdk : ms.drop k = c :: ms.drop (k + 1) := by rw [List.drop_eq_getElem_cons hkl, (List.getElem?_eq_some_iff.1 hc).2]
                refine op_run (r_idxS rfl rfl rfl rfl (by omega) (by omega)) rfl ?_
                refine op_run (r_loadA (callR c.1 c.2.1 (.slice av c.2.2.length cv)) rfl rfl rfl (by first | rfl | (rw [binV_len]; rfl) | (rw [dgR_len]; rfl) | (rw [refR_len]; rfl) | (rw [secR_len]; rfl) | (rw [List.length_map, tagF_len]; rfl) | (rw [callR_len]; rfl) | (rw [dgR_len]; rfl)) ((fun j u hj => by rw [Int.toNat_natCast]; exact hcell j u hj))) rfl ?_
                refine o_alloc rfl rfl rfl ?_; intro w40 b40 e40 hB40 hk40 hs40
                refine o_storeA (cs := callR c.1 c.2.1 (.slice av c.2.2.length cv)) rfl rfl (by first | rfl | exact binV_one _ | exact dgR_one _ | exact refR_one _ | exact secR_one _ | exact all_c8 _ | exact callR_one (Sl.oneI hby)) (by first | rfl | (rw [binV_len]; rfl) | (rw [dgR_len]; rfl) | (rw [refR_len]; rfl) | (rw [secR_len]; rfl) | (rw [List.length_map, tagF_len]; rfl) | (rw [callR_len]; rfl) | (rw [dgR_len]; rfl)) hB40 (by exact Nat.le_of_eq (by simp [callR_len])) rfl ?_; intro w41 hB41 hk41 hs41
                have hB41 : Blk w41 b40 (callR c.1 c.2.1 (.slice av c.2.2.length cv)) 47 := by
                  have h := hB41
                  rwa [splice_all (by simp [callR_len])] at h
                have hk3641 : Keep All w36 w41 := hk40.new hk41 (by omega)
                refine ops_nil ?_
                refine W_seq ?_
                refine W_region ?_
                refine o_mvt rfl ?_
                refine op_run (r_fieldAddr rfl rfl rfl rfl rfl) rfl ?_
                refine op_run (r_loadA (dgR c.2.1) rfl rfl rfl (by first | rfl | (rw [binV_len]; rfl) | (rw [dgR_len]; rfl) | (rw [refR_len]; rfl) | (rw [secR_len]; rfl) | (rw [List.length_map, tagF_len]; rfl) | (rw [callR_len]; rfl) | (rw [dgR_len]; rfl)) (hB41.key)) rfl ?_
                refine op_call rfl rfl rfl (rf8_Find w41 _ l c.2.1 (hI36.k hk3641) (by omega)) ?_; rintro v43 w43 ⟨rfl, hk43⟩
                have hk3643 := hk3641.trans hk43
                refine op_run (r_lss rfl rfl) rfl ?_
                refine ops_nil ?_
                refine W_cond_p rfl (fun h44 => ?_) (fun h44 => ?_)
                · refine W_region ?_
                  refine o_mvt rfl ?_
                  refine op_run (r_fieldAddr rfl rfl rfl rfl rfl) rfl ?_
                  refine op_run (r_loadA (dgR c.2.1) rfl rfl rfl (by first | rfl | (rw [binV_len]; rfl) | (rw [dgR_len]; rfl) | (rw [refR_len]; rfl) | (rw [secR_len]; rfl) | (rw [List.length_map, tagF_len]; rfl) | (rw [callR_len]; rfl) | (rw [dgR_len]; rfl)) ((hk43.blk' hB41 trivial).key)) rfl ?_
                  refine op_call rfl rfl rfl (tr_Drop w43 X Z c.2.1 (hX36.k hk3643)) ?_; rintro v46 w46 ⟨rfl, hX46, hk46⟩
                  refine ops_nil ?_
                  refine W_region ?_
                  refine op_run (r_add rfl rfl) rfl ?_
                  refine o_mvt rfl ?_
                  refine ops_nil ?_
                  obtain ⟨h1, h2, h3⟩ := stay _ w46 _ (hX36.k hk3643) hk46 (hT36.k hk3643) (hI36.k hk3643) (hkw.trans hk3643)
                  have hcn := findI_neg.1 h44
                  refine ⟨by (repeat (first | with_reducible exact offM_refl _ _ | refine offM_updc rfl ?_ | refine offM_upd rfl ?_ | refine offM_updo rfl ?_ | refine offM_updo_none ?_ | refine offM_head rfl rfl ?_)), ⟨k + 1, dropTT Z c.2.1, congrArg (fun z : Int => [Value.int .i64 z]) hinc, by omega, ⟨wf_dropTT hZw _, fun d hd => ?_, fun d x hn hg => ?_⟩, hX46, h1, h2, h3⟩, ?_⟩
                  · rw [get_dropTT hZw, if_neg (fun e => hd (by rw [e]; exact hcn))]; exact hZ1 d hd
                  · rw [get_dropTT hZw] at hg
                    by_cases e : d = c.2.1
                    · rw [if_pos e] at hg; cases hg
                    · rw [if_neg e] at hg
                      obtain ⟨c2, hc2, e2⟩ := hZ2 d x hn hg
                      rw [hdk] at hc2
                      rcases List.mem_cons.1 hc2 with rfl | h
                      · exact absurd e2.symm e
                      · exact ⟨c2, h, e2⟩
                  · show ms.length - (IntKind.i64.wrap ((k : Int) + 1)).toNat < ms.length - (k : Int).toNat
                    rw [hinc]; omega
                · refine W_skip ?_
                  refine W_region ?_
                  refine op_run (r_add rfl rfl) rfl ?_
                  refine o_mvt rfl ?_
                  refine ops_nil ?_
                  have hcn : lookI l c.2.1 ≠ none := fun h => h44 (findI_neg.2 h)
                  refine ⟨by (repeat (first | with_reducible exact offM_refl _ _ | refine offM_updc rfl ?_ | refine offM_upd rfl ?_ | refine offM_updo rfl ?_ | refine offM_updo_none ?_ | refine offM_head rfl rfl ?_)), ⟨k + 1, Z, congrArg (fun z : Int => [Value.int .i64 z]) hinc, by omega, ⟨hZw, hZ1, fun d x hn hg => ?_⟩, hX36.k hk3643, hT36.k hk3643, hI36.k hk3643, hkw.trans hk3643⟩, ?_⟩
                  · obtain ⟨c2, hc2, e2⟩ := hZ2 d x hn hg
                    rw [hdk] at hc2
                    rcases List.mem_cons.1 hc2 with rfl | h
                    · exact absurd (by rw [e2]; exact hn) hcn
                    · exact ⟨c2, h, e2⟩
                  · show ms.length - (IntKind.i64.wrap ((k : Int) + 1)).toNat < ms.length - (k : Int).toNat
                    rw [hinc]; omega
              · refine W_exit ?_
                refine W_seq ?_
                refine W_region ?_
                refine o_mvt rfl ?_
                have hke : k = ms.length := by omega
                rw [hke, List.drop_length] at hZ2
                have hZT : Z = T := Tre.uniqD hZw hw fun d => by
                  rw [ha d]
                  cases hl : lookI l d with
                  | some x => rw [hZ1 d (by rw [hl]; exact fun h => by cases h), hl]
                  | none =>
                    cases hg : Z.get (nibs d.val) with
                    | none => rfl
                    | some x => obtain ⟨c, hc, _⟩ := hZ2 d x hl hg; cases hc
                subst hZT
                refine op_call rfl rfl rfl (tr_Root w36 X Z hX36 hsh) ?_; rintro v49 w49 ⟨rfl, hk49⟩
                refine o_mvt rfl ?_
                refine op_call rfl rfl rfl (tr_Root w49 B Z (hT36.k hk49) hsh) ?_; rintro v50 w50 ⟨rfl, hk50⟩
                refine op_run (r_eqlC (p := rootT Z = rootT Z) rfl rfl rfl rfl (by kernel_rfl) (okC_dgR _) (okC_dgR _) rfl (dgR_inj)) rfl ?_
                refine o_mvt rfl ?_
                refine g_split rfl rfl rfl (fun g52 => ?_) (fun g52 => ?_)
                · refine o_mvt (g_yes rfl rfl rfl g52) ?_
                  refine op_call rfl rfl (g_yes rfl rfl rfl g52) (tr_Keys w50 X Z ((hX36.k hk49).k hk50) hkc) ?_; rintro v53 w53 ⟨hO53, hk53⟩
                  refine o_mvt (g_yes rfl rfl rfl g52) ?_
                  refine op_call rfl rfl (g_yes rfl rfl rfl g52) (tr_Keys w53 B Z (((hT36.k hk49).k hk50).k hk53) hkc) ?_; rintro v54 w54 ⟨hO54, hk54⟩
                  refine op_call rfl rfl (g_yes rfl rfl rfl g52) (rf03_SameT w54 _ _ ((keysT Z []).map packDig) ((keysT Z []).map packDig) (Sl.k hO53.sl hk54) hO54.sl) ?_; rintro v55 w55 ⟨rfl, hk55⟩
                  refine o_pkTt rfl g52 rfl ?_
                  refine o_ast rfl ?_
                  refine ops_nil ?_
                  refine W_ret ?_
                  refine ret1 (.bool (decide ((keysT Z []).map packDig = (keysT Z []).map packDig))) rfl ?_ ?_; rfl
                  exact ⟨by rw [decide_eq_true rfl], ((((hkw.trans hk49).trans hk50).trans hk53).trans hk54).trans hk55⟩
                · refine op_skip (g_no rfl rfl rfl g52) ?_
                  refine op_skip (g_no rfl rfl rfl g52) ?_
                  refine op_skip (g_no rfl rfl rfl g52) ?_
                  refine op_skip (g_no rfl rfl rfl g52) ?_
                  refine op_skip (g_no rfl rfl rfl g52) ?_
                  refine o_pkFc rfl g52 rfl ?_
                  refine o_ast rfl ?_
                  refine ops_nil ?_
                  refine W_ret ?_
                  refine ret1 (.bool false) rfl ?_ ?_; rfl
                  simp at g52
end Go.Proofs.Ytpiidddccmohdaa.B
