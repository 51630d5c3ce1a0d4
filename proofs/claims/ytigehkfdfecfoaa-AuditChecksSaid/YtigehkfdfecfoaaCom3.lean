/-
  The document's commits: Bytes, ref, Right.
-/
import Derived.Test.YtigehkfdfecfoaaCom2
import Derived.Test.YtigehkfdfecfoaaRef07p
namespace Go.Proofs.Ytigehkfdfecfoaa.B
open Go
set_option linter.unusedVariables false
set_option maxHeartbeats 2000000
set_option maxRecDepth 100000
attribute [local irreducible] W OpsW OpsQ retP
/-- Bytes are built, while block b1 stays. -/
structure Bld (w : World) (b1 : Nat) (l : List Value) (e : TypeId) (w' : World) (u : Value) (xs : List UInt8) : Prop where
  own : OwnB w' 5 u xs
  kw : Keep All w w'
  inb : InB (fun z => w.heap.size ≤ z ∧ z ≠ b1) u
  blk : Blk w' b1 l e
theorem Bld.step {w w' w2 : World} {b1 : Nat} {l : List Value} {e : TypeId} {u u2 : Value} {xs ys : List UInt8} (h : Bld w b1 l e w' u xs) (hO : OwnB w2 5 u2 ys) (hk : Keep (fun z => some z ≠ u.ownBlock) w' w2) (hin : InB (fun z => u.ownBlock = some z ∨ w'.heap.size ≤ z) u2) : Bld w b1 l e w2 u2 ys := by
  have h1 := h.kw.size
  have h2 := h.blk.lt
  refine ⟨hO, h.kw.own hk (fun y hy _ => (h.inb y hy).1), fun z hz => ?_, hk.blk' h.blk (fun e => (h.inb b1 e.symm).2 rfl)⟩
  rcases hin z hz with h3 | h3
  · exact h.inb z h3
  · exact ⟨by omega, by omega⟩
theorem Bld.keep {w w' w2 : World} {b1 : Nat} {l : List Value} {e : TypeId} {u : Value} {xs : List UInt8} (h : Bld w b1 l e w' u xs) (hk : Keep All w' w2) : Bld w b1 l e w2 u xs :=
  ⟨h.own.keep hk (fun _ _ => trivial), h.kw.trans hk, h.inb, hk.blk' h.blk trivial⟩
/-- What is kept by a step that writes the bytes alone. -/
theorem Bld.past {w w' w2 : World} {b1 : Nat} {l : List Value} {e : TypeId} {u : Value} {xs : List UInt8} (h : Bld w b1 l e w' u xs) (hk : Keep (fun z => some z ≠ u.ownBlock) w' w2) : Keep All w w2 := h.kw.own hk (fun y hy _ => (h.inb y hy).1)
theorem rf13_ref (w : World) (r : Rf) : Ret Try.prog 106 [.agg (refR r).toArray].toArray w fun u w' => u = .bool (decide r.may) ∧ Keep All w w' := by
  refine enter (fn := Try.f106) (n := 21) Try.func106 rfl rfl (by simp) ?_
  refine W_seq ?_
  refine W_region ?_
  refine o_box rfl rfl rfl ?_; intro w1 b1 e1 hB1 hk1 hs1
  have hB1 : Blk w1 b1 (refR r) 79 := hB1
  refine o_asc rfl ?_
  refine ops_nil ?_
  refine W_seq ?_
  refine W_region ?_
  refine op_run (r_fieldAddr rfl rfl rfl rfl rfl) rfl ?_
  refine op_run (r_load rfl rfl rfl (hB1.cell (refR_32 r))) rfl ?_
  refine op_run (r_geq rfl rfl) rfl ?_
  refine o_mvt rfl ?_
  refine g_split rfl rfl rfl (fun g3 => ?_) (fun g3 => ?_)
  · refine op_run (r_fieldAddr rfl rfl rfl rfl rfl) (g_yes rfl rfl rfl g3) ?_
    refine op_run (r_load rfl rfl rfl (hB1.cell (refR_32 r))) (g_yes rfl rfl rfl g3) ?_
    refine op_run (r_leq rfl rfl) (g_yes rfl rfl rfl g3) ?_
    refine o_pkTt rfl g3 rfl ?_
    refine o_mvt rfl ?_
    refine g_split rfl rfl rfl (fun g5 => ?_) (fun g5 => ?_)
    · refine op_run (r_fieldAddr rfl rfl rfl rfl rfl) (g_yes rfl rfl rfl g5) ?_
      refine op_run (r_load rfl rfl rfl (hB1.cell (refR_33 r))) (g_yes rfl rfl rfl g5) ?_
      refine op_run (r_geq rfl rfl) (g_yes rfl rfl rfl g5) ?_
      refine o_pkTt rfl g5 rfl ?_
      refine o_mvt rfl ?_
      refine g_split rfl rfl rfl (fun g7 => ?_) (fun g7 => ?_)
      · refine op_run (r_fieldAddr rfl rfl rfl rfl rfl) (g_yes rfl rfl rfl g7) ?_
        refine op_run (r_load rfl rfl rfl (hB1.cell (refR_33 r))) (g_yes rfl rfl rfl g7) ?_
        refine op_run (r_leq rfl rfl) (g_yes rfl rfl rfl g7) ?_
        refine o_pkTt rfl g7 rfl ?_
        refine o_ast rfl ?_
        refine ops_nil ?_
        refine W_ret ?_
        refine ret1 (.bool (decide (r.len ≤ 65536))) rfl ?_ ?_; rfl
        refine ⟨congrArg Value.bool ?_, hk1⟩
        have g3 := of_decide_eq_true g3; have g5 := of_decide_eq_true g5; have g7 := of_decide_eq_true g7
        rw [decide_eq_decide]; unfold Rf.may; omega
      · refine op_skip (g_no rfl rfl rfl g7) ?_
        refine op_skip (g_no rfl rfl rfl g7) ?_
        refine op_skip (g_no rfl rfl rfl g7) ?_
        refine o_pkFc rfl g7 rfl ?_
        refine o_ast rfl ?_
        refine ops_nil ?_
        refine W_ret ?_
        refine ret1 (.bool false) rfl ?_ ?_; rfl
        exact ⟨congrArg Value.bool (decide_eq_false fun h => of_decide_eq_false g7 h.2.2.1).symm, hk1⟩
    · refine op_skip (g_no rfl rfl rfl g5) ?_
      refine op_skip (g_no rfl rfl rfl g5) ?_
      refine op_skip (g_no rfl rfl rfl g5) ?_
      refine o_pkFc rfl g5 rfl ?_
      refine o_mvt rfl ?_
      refine op_skip (g_no rfl rfl rfl rfl) ?_
      refine op_skip (g_no rfl rfl rfl rfl) ?_
      refine op_skip (g_no rfl rfl rfl rfl) ?_
      refine o_pkFc rfl rfl rfl ?_
      refine o_ast rfl ?_
      refine ops_nil ?_
      refine W_ret ?_
      refine ret1 (.bool false) rfl ?_ ?_; rfl
      exact ⟨congrArg Value.bool (decide_eq_false fun h => of_decide_eq_false g5 h.2.1).symm, hk1⟩
  · refine op_skip (g_no rfl rfl rfl g3) ?_
    refine op_skip (g_no rfl rfl rfl g3) ?_
    refine op_skip (g_no rfl rfl rfl g3) ?_
    refine o_pkFc rfl g3 rfl ?_
    refine o_mvt rfl ?_
    refine op_skip (g_no rfl rfl rfl rfl) ?_
    refine op_skip (g_no rfl rfl rfl rfl) ?_
    refine op_skip (g_no rfl rfl rfl rfl) ?_
    refine o_pkFc rfl rfl rfl ?_
    refine o_mvt rfl ?_
    refine op_skip (g_no rfl rfl rfl rfl) ?_
    refine op_skip (g_no rfl rfl rfl rfl) ?_
    refine op_skip (g_no rfl rfl rfl rfl) ?_
    refine o_pkFc rfl rfl rfl ?_
    refine o_ast rfl ?_
    refine ops_nil ?_
    refine W_ret ?_
    refine ret1 (.bool false) rfl ?_ ?_; rfl
    exact ⟨congrArg Value.bool (decide_eq_false fun h => of_decide_eq_false g3 h.1).symm, hk1⟩
/-- Whether bin k may stand where it stands. -/
def prevN (l : List Bn) (k : Nat) : Int := ((l[k - 1]?).map (·.number)).getD 0
def okB (l : List Bn) (k : Nat) (x : Bn) : Prop := x.may ∧ ¬ (0 < k ∧ x.number ≤ prevN l k)
instance (l : List Bn) (k : Nat) (x : Bn) : Decidable (okB l k x) := inferInstanceAs (Decidable (_ ∧ _))
theorem rising_get : ∀ (l : List Bn) (last : Int), rising last l ↔ ∀ k x, l[k]? = some x → (if k = 0 then last else prevN l k) < x.number
  | [], last => by simp [rising]
  | y :: l, last => by
    have ih := rising_get l y.number
    unfold prevN at ih ⊢
    constructor
    · rintro ⟨h1, h2⟩ k x hx
      match k, hx with
      | 0, hx => injection hx with hx; subst hx; simpa using h1
      | k + 1, hx =>
        have h := ih.1 h2 k x hx
        match k, hx, h with
        | 0, _, h => simpa using h
        | k + 1, _, h => simpa using h
    · intro h
      refine ⟨by simpa using h 0 y rfl, ih.2 fun k x hx => ?_⟩
      have h1 := h (k + 1) x hx
      match k, hx, h1 with
      | 0, _, h1 => simpa using h1
      | k + 1, _, h1 => simpa using h1
theorem okB_all (l : List Bn) : (rising (-1) l ∧ ∀ x ∈ l, x.may) ↔ ∀ k x, l[k]? = some x → okB l k x := by
  rw [rising_get]
  constructor
  · rintro ⟨h1, h2⟩ k x hx
    refine ⟨h2 x (List.mem_of_getElem? hx), ?_⟩
    rintro ⟨h3, h4⟩
    have := h1 k x hx
    rw [if_neg (by omega)] at this
    omega
  · intro h
    refine ⟨fun k x hx => ?_, fun x hx => ?_⟩
    · have h1 := h k x hx
      split
      · have := h1.1.1.1; omega
      · rename_i hk
        by_cases hn : x.number ≤ prevN l k
        · exact absurd ⟨by omega, hn⟩ h1.2
        · omega
    · obtain ⟨k, hk, rfl⟩ := List.getElem_of_mem hx
      exact (h k _ (List.getElem?_eq_getElem hk)).1
theorem rf13_Right (w : World) (c : Cm) (vb ve : Value) (vks : List Value) (hc : CmIn w c vb ve vks) :
    Ret Try.prog 99 [.agg (cmV c vb ve).toArray].toArray w fun u w' => u = .bool (decide c.right) ∧ Keep All w w' := by
  obtain ⟨ab, cb, rfl, hcb, hcbm⟩ := hc.1.form
  have hmx : cb ≤ 9223372036854775807 := hcbm
  refine enter (fn := Try.f99) (n := 79) Try.func99 rfl rfl (by simp) ?_
  refine W_seq ?_
  refine W_region ?_
  refine o_box rfl rfl rfl ?_; intro w1 b1 e1 hB1 hk1 hs1
  have hB1 : Blk w1 b1 (cmV c (.slice ab c.bins.length cb) ve) 108 := hB1
  refine o_asc rfl ?_
  refine ops_nil ?_
  refine W_seq ?_
  refine W_seq ?_
  refine W_region ?_
  refine o_asc rfl ?_
  refine ops_nil ?_
  refine W_block ?_
  refine W_loop [3] [2, 3, 4, 5, 6, 7, 8, 9, 10, 11, 12, 13, 14, 15, 16, 17, 18, 19, 20, 21, 22, 23, 24, 25, 26, 27, 28, 29, 30, 31, 32, 33, 34, 35, 36, 37, 38, 39, 40, 41, 42, 43, 44, 45, 46, 47, 48, 49, 50, 51, 52, 53, 54, 55, 56, 57, 58, 59, 60] (fun vs w' => ∃ k : Nat, vs = [.int .i64 k] ∧ k ≤ c.bins.length ∧ (∀ j, j < k → ∀ x, c.bins[j]? = some x → okB c.bins j x) ∧ Keep All w1 w') (fun vs _ => match vs with | [.int _ y] => c.bins.length - y.toNat | _ => 0) ⟨0, rfl, Nat.zero_le _, fun j hj => by omega, Keep.refl _⟩ ?_
  rintro J2 vs w2 ⟨k, rfl, hk, hok, hkA⟩ -
  have hB2 := hkA.blk' hB1 trivial
  refine W_seq ?_
  refine W_seq ?_
  refine W_region ?_
  refine o_mvt rfl ?_
  refine op_run (r_fieldAddr rfl rfl rfl rfl rfl) rfl ?_
  refine op_run (r_load rfl rfl rfl (hB2.cell (cmV_bins c _ _))) rfl ?_
  refine op_run (r_len rfl rfl rfl) rfl ?_
  refine op_run (r_lss rfl rfl) rfl ?_
  refine ops_nil ?_
  refine W_cond_p rfl (fun h4 => ?_) (fun h4 => ?_)
  · refine W_skip ?_
    refine W_seq ?_
    refine W_block ?_
    refine W_seq ?_
    refine W_region ?_
    refine op_run (r_fieldAddr rfl rfl rfl rfl rfl) rfl ?_
    refine op_run (r_load rfl rfl rfl (hB2.cell (cmV_bins c _ _))) rfl ?_
    refine o_mvt rfl ?_
    have hkl : k < c.bins.length := by omega
    have hS := hc.1.k (hk1.trans hkA)
    obtain ⟨bp, op, rfl, hcell⟩ := rows_at' (i := k) binV_len hS hkl (by decide)
    obtain ⟨x, hx⟩ : ∃ x, x = c.bins[k] := ⟨_, rfl⟩
    rw [← hx] at hcell
    have hxk : c.bins[k]? = some x := by rw [hx]; exact List.getElem?_eq_getElem hkl
    refine op_run (r_idxS rfl rfl rfl ti_bin (by omega) (by omega)) rfl ?_
    refine op_run (r_loadA (binV x) rfl rfl rfl (by first | rfl | (rw [binV_len]; rfl) | (rw [dgR_len]; rfl) | (rw [refR_len]; rfl) | (rw [secR_len]; rfl) | (rw [List.length_map, tagF_len]; rfl)) ((by intro j y hj; rw [Int.toNat_natCast]; exact hcell j y hj))) rfl ?_
    refine o_alloc rfl rfl rfl ?_; intro w8 b8 e8 hB8 hk8 hs8
    refine o_storeA (cs := binV x) rfl rfl (by first | rfl | exact binV_one _ | exact dgR_one _ | exact refR_one _ | exact secR_one _ | exact all_c8 _) (by first | rfl | (rw [binV_len]; rfl) | (rw [dgR_len]; rfl) | (rw [refR_len]; rfl) | (rw [secR_len]; rfl) | (rw [List.length_map, tagF_len]; rfl)) hB8 (by exact Nat.le_of_eq (by simp [binV_len])) rfl ?_; intro w9 hB9 hk9 hs9
    have hB9 : Blk w9 b8 (binV x) 31 := by
      have h := hB9
      rwa [splice_all (by simp [binV_len])] at h
    have hkq : Keep All w2 w9 := hk8.new hk9 (by omega)
    have hB19 := hkq.blk' hB2 trivial
    refine ops_nil ?_
    refine W_cut [60] [17, 18, 19, 20, 21, 22, 23, 24, 25, 26, 27, 28, 29, 30, 31, 32, 33, 34, 35, 36, 37, 38, 39, 40, 41, 42, 43, 44, 45, 46, 47, 48, 49, 50, 51, 52, 53, 54, 55, 56, 57, 58, 59, 60] (fun vs w10 => vs = [.bool (decide (¬ okB c.bins k x))] ∧ Keep All w2 w10) ?_ ?_
    · refine W_quiet (Keep All w9) (by kernel_rfl) (by kernel_rfl) (Keep.drawn _) ?_
      refine q_run (fun _ _ => (r_fieldAddr rfl rfl rfl rfl rfl)) rfl ?_
      refine q_run (fun _ hk => r_load rfl rfl rfl (hk.cell (hB9.cell rfl) trivial)) rfl ?_
      refine q_run (fun _ _ => (r_lss rfl rfl)) rfl ?_
      refine q_mvt rfl ?_
      refine q_split rfl rfl rfl (fun g13 => ?_) (fun g13 => ?_)
      · refine q_run (fun _ _ => (r_fieldAddr rfl rfl rfl rfl rfl)) (g_yes rfl rfl rfl g13) ?_
        refine q_run (fun _ hk => r_load rfl rfl rfl (hk.cell (hB9.cell rfl) trivial)) (g_yes rfl rfl rfl g13) ?_
        refine q_run (fun _ _ => (r_gtr rfl rfl)) (g_yes rfl rfl rfl g13) ?_
        refine q_pkFt rfl g13 rfl ?_
        refine q_mvt rfl ?_
        refine q_split rfl rfl rfl (fun g15 => ?_) (fun g15 => ?_)
        · refine q_run (fun _ _ => (r_fieldAddr rfl rfl rfl rfl rfl)) (g_yes rfl rfl rfl g15) ?_
          refine q_run (fun _ hk => r_load rfl rfl rfl (hk.cell (hB9.cell rfl) trivial)) (g_yes rfl rfl rfl g15) ?_
          refine q_run (fun _ _ => (r_lss rfl rfl)) (g_yes rfl rfl rfl g15) ?_
          refine q_pkFt rfl g15 rfl ?_
          refine q_mvt rfl ?_
          refine q_split rfl rfl rfl (fun g17 => ?_) (fun g17 => ?_)
          · refine q_run (fun _ _ => (r_fieldAddr rfl rfl rfl rfl rfl)) (g_yes rfl rfl rfl g17) ?_
            refine q_run (fun _ hk => r_load rfl rfl rfl (hk.cell (hB9.cell rfl) trivial)) (g_yes rfl rfl rfl g17) ?_
            refine q_run (fun _ _ => (r_gtr rfl rfl)) (g_yes rfl rfl rfl g17) ?_
            refine q_pkFt rfl g17 rfl ?_
            refine q_mvt rfl ?_
            refine q_split rfl rfl rfl (fun g19 => ?_) (fun g19 => ?_)
            · refine q_run (fun _ _ => (r_fieldAddr rfl rfl rfl rfl rfl)) (g_yes rfl rfl rfl g19) ?_
              refine q_run (fun _ hk => r_load rfl rfl rfl (hk.cell (hB9.cell rfl) trivial)) (g_yes rfl rfl rfl g19) ?_
              refine q_run (fun _ _ => (r_lss rfl rfl)) (g_yes rfl rfl rfl g19) ?_
              refine q_pkFt rfl g19 rfl ?_
              refine q_mvt rfl ?_
              refine q_split rfl rfl rfl (fun g21 => ?_) (fun g21 => ?_)
              · refine q_run (fun _ _ => (r_fieldAddr rfl rfl rfl rfl rfl)) (g_yes rfl rfl rfl g21) ?_
                refine q_run (fun _ hk => r_load rfl rfl rfl (hk.cell (hB9.cell rfl) trivial)) (g_yes rfl rfl rfl g21) ?_
                refine q_run (fun _ _ => (r_gtr rfl rfl)) (g_yes rfl rfl rfl g21) ?_
                refine q_pkFt rfl g21 rfl ?_
                refine q_mvt rfl ?_
                have k13 := of_decide_eq_false g13
                have k15 := of_decide_eq_false g15
                have k17 := of_decide_eq_false g17
                have k19 := of_decide_eq_false g19
                have k21 := of_decide_eq_false g21
                refine q_split rfl rfl rfl (fun g23 => ?_) (fun g23 => ?_)
                · refine q_mvt (g_yes rfl rfl rfl g23) ?_
                  refine q_run (fun _ _ => (r_gtr rfl rfl)) (g_yes rfl rfl rfl g23) ?_
                  refine q_mvt (g_yes rfl rfl rfl g23) ?_
                  have k23 := of_decide_eq_false g23
                  have hmay : x.may := by unfold Bn.may; omega
                  refine q_split rfl rfl rfl (fun g24 => ?_) (fun g24 => ?_)
                  · refine q_run (fun _ _ => (r_fieldAddr rfl rfl rfl rfl rfl)) (g_yes rfl rfl rfl g24) ?_
                    have k24 := of_decide_eq_true g24
                    obtain ⟨bq, oq, eq_, hcellp⟩ := rows_at' (i := k - 1) binV_len hS (by omega) (by decide)
                    cases eq_
                    have hpv : prevN c.bins k = c.bins[k - 1].number := by unfold prevN; rw [List.getElem?_eq_getElem (by omega)]; rfl
                    refine q_run (fun _ hk => r_load rfl rfl rfl (hk.cell (hB19.cell (cmV_bins c _ _)) trivial)) (g_yes rfl rfl rfl g24) ?_
                    refine q_mvt (g_yes rfl rfl rfl g24) ?_
                    refine q_run (fun _ _ => ((r_sub rfl rfl).val (congrArg (Value.int .i64) (show IntKind.i64.wrap ((k : Int) - 1) = ((k - 1 : Nat) : Int) from (wrap_i64 (by omega) (by omega)).trans (by omega))))) (g_yes rfl rfl rfl g24) ?_
                    refine q_run (fun _ _ => r_idxS rfl rfl rfl ti_bin (by omega) (by omega)) (g_yes rfl rfl rfl g24) ?_
                    refine q_run (fun _ _ => (r_fieldAddr rfl rfl rfl rfl rfl)) (g_yes rfl rfl rfl g24) ?_
                    refine q_run (fun _ hk => r_load rfl rfl rfl (hk.cell (by have h := hcellp 0 _ rfl; rw [Addr.add_lit] at h; exact hkq.cell h trivial) trivial)) (g_yes rfl rfl rfl g24) ?_
                    refine q_run (fun _ _ => (r_fieldAddr rfl rfl rfl rfl rfl)) (g_yes rfl rfl rfl g24) ?_
                    refine q_run (fun _ hk => r_load rfl rfl rfl (hk.cell (hB9.cell rfl) trivial)) (g_yes rfl rfl rfl g24) ?_
                    refine q_run (fun _ _ => (r_geq rfl rfl)) (g_yes rfl rfl rfl g24) ?_
                    refine q_pkTt rfl g24 (g_yes rfl rfl rfl g23) ?_
                    refine q_pkFt rfl g23 rfl ?_
                    refine q_nil ?_; intro w29 hk29
                    exact ⟨by (repeat (first | with_reducible exact offM_refl _ _ | refine offM_updc rfl ?_ | refine offM_upd rfl ?_ | refine offM_updo rfl ?_ | refine offM_updo_none ?_ | refine offM_head rfl rfl ?_)), congrArg (fun b => [Value.bool b]) (by
                      rw [decide_eq_decide]
                      constructor
                      · intro h hh; exact hh.2 ⟨by omega, by rw [hpv]; exact h⟩
                      · intro h; exact Classical.byContradiction fun hh => h ⟨hmay, fun h2 => hh (by have := h2.2; rw [hpv] at this; exact this)⟩), hkq.trans hk29⟩
                  · refine q_skip (g_no rfl rfl rfl g24) ?_
                    refine q_skip (g_no rfl rfl rfl g24) ?_
                    refine q_skip (g_no rfl rfl rfl g24) ?_
                    refine q_skip (g_no rfl rfl rfl g24) ?_
                    refine q_skip (g_no rfl rfl rfl g24) ?_
                    refine q_skip (g_no rfl rfl rfl g24) ?_
                    refine q_skip (g_no rfl rfl rfl g24) ?_
                    refine q_skip (g_no rfl rfl rfl g24) ?_
                    refine q_skip (g_no rfl rfl rfl g24) ?_
                    refine q_skip (g_no rfl rfl rfl g24) ?_
                    refine q_pkFc rfl g24 (g_yes rfl rfl rfl g23) ?_
                    refine q_pkFt rfl g23 rfl ?_
                    refine q_nil ?_; intro w31 hk31
                    exact ⟨by (repeat (first | with_reducible exact offM_refl _ _ | refine offM_updc rfl ?_ | refine offM_upd rfl ?_ | refine offM_updo rfl ?_ | refine offM_updo_none ?_ | refine offM_head rfl rfl ?_)), congrArg (fun b => [Value.bool b]) (by
                      have k24 := of_decide_eq_false g24
                      symm; exact decide_eq_false fun hh => hh ⟨hmay, fun h2 => k24 (by have := h2.1; omega)⟩), hkq.trans hk31⟩
                · refine q_skip (g_no rfl rfl rfl g23) ?_
                  refine q_skip (g_no rfl rfl rfl g23) ?_
                  refine q_skip (g_no rfl rfl rfl g23) ?_
                  refine q_skip (g_und rfl rfl rfl) ?_
                  refine q_skip (g_und rfl rfl rfl) ?_
                  refine q_skip (g_und rfl rfl rfl) ?_
                  refine q_skip (g_und rfl rfl rfl) ?_
                  refine q_skip (g_und rfl rfl rfl) ?_
                  refine q_skip (g_und rfl rfl rfl) ?_
                  refine q_skip (g_und rfl rfl rfl) ?_
                  refine q_skip (g_und rfl rfl rfl) ?_
                  refine q_skip (g_und rfl rfl rfl) ?_
                  refine q_skip (g_und rfl rfl rfl) ?_
                  refine q_skip (g_no rfl rfl rfl g23) ?_
                  refine q_pkTc rfl g23 rfl ?_
                  refine q_nil ?_; intro w33 hk33
                  exact ⟨by (repeat (first | with_reducible exact offM_refl _ _ | refine offM_updc rfl ?_ | refine offM_upd rfl ?_ | refine offM_updo rfl ?_ | refine offM_updo_none ?_ | refine offM_head rfl rfl ?_)), congrArg (fun b => [Value.bool b]) (by have g := of_decide_eq_true g23; symm; exact decide_eq_true fun hh => by have := hh.1.2.2.2; omega), hkq.trans hk33⟩
              · refine q_skip (g_no rfl rfl rfl g21) ?_
                refine q_skip (g_no rfl rfl rfl g21) ?_
                refine q_skip (g_no rfl rfl rfl g21) ?_
                refine q_pkTc rfl g21 rfl ?_
                refine q_mvt rfl ?_
                refine q_skip (g_no rfl rfl rfl rfl) ?_
                refine q_skip (g_no rfl rfl rfl rfl) ?_
                refine q_skip (g_no rfl rfl rfl rfl) ?_
                refine q_skip (g_und rfl rfl rfl) ?_
                refine q_skip (g_und rfl rfl rfl) ?_
                refine q_skip (g_und rfl rfl rfl) ?_
                refine q_skip (g_und rfl rfl rfl) ?_
                refine q_skip (g_und rfl rfl rfl) ?_
                refine q_skip (g_und rfl rfl rfl) ?_
                refine q_skip (g_und rfl rfl rfl) ?_
                refine q_skip (g_und rfl rfl rfl) ?_
                refine q_skip (g_und rfl rfl rfl) ?_
                refine q_skip (g_und rfl rfl rfl) ?_
                refine q_skip (g_no rfl rfl rfl rfl) ?_
                refine q_pkTc rfl rfl rfl ?_
                refine q_nil ?_; intro w35 hk35
                exact ⟨by (repeat (first | with_reducible exact offM_refl _ _ | refine offM_updc rfl ?_ | refine offM_upd rfl ?_ | refine offM_updo rfl ?_ | refine offM_updo_none ?_ | refine offM_head rfl rfl ?_)), congrArg (fun b => [Value.bool b]) (by have g := of_decide_eq_true g21; symm; exact decide_eq_true fun hh => by have := hh.1.2.2.1; omega), hkq.trans hk35⟩
            · refine q_skip (g_no rfl rfl rfl g19) ?_
              refine q_skip (g_no rfl rfl rfl g19) ?_
              refine q_skip (g_no rfl rfl rfl g19) ?_
              refine q_pkTc rfl g19 rfl ?_
              refine q_mvt rfl ?_
              refine q_skip (g_no rfl rfl rfl rfl) ?_
              refine q_skip (g_no rfl rfl rfl rfl) ?_
              refine q_skip (g_no rfl rfl rfl rfl) ?_
              refine q_pkTc rfl rfl rfl ?_
              refine q_mvt rfl ?_
              refine q_skip (g_no rfl rfl rfl rfl) ?_
              refine q_skip (g_no rfl rfl rfl rfl) ?_
              refine q_skip (g_no rfl rfl rfl rfl) ?_
              refine q_skip (g_und rfl rfl rfl) ?_
              refine q_skip (g_und rfl rfl rfl) ?_
              refine q_skip (g_und rfl rfl rfl) ?_
              refine q_skip (g_und rfl rfl rfl) ?_
              refine q_skip (g_und rfl rfl rfl) ?_
              refine q_skip (g_und rfl rfl rfl) ?_
              refine q_skip (g_und rfl rfl rfl) ?_
              refine q_skip (g_und rfl rfl rfl) ?_
              refine q_skip (g_und rfl rfl rfl) ?_
              refine q_skip (g_und rfl rfl rfl) ?_
              refine q_skip (g_no rfl rfl rfl rfl) ?_
              refine q_pkTc rfl rfl rfl ?_
              refine q_nil ?_; intro w37 hk37
              exact ⟨by (repeat (first | with_reducible exact offM_refl _ _ | refine offM_updc rfl ?_ | refine offM_upd rfl ?_ | refine offM_updo rfl ?_ | refine offM_updo_none ?_ | refine offM_head rfl rfl ?_)), congrArg (fun b => [Value.bool b]) (by have g := of_decide_eq_true g19; symm; exact decide_eq_true fun hh => by have := hh.1.2.1.2; omega), hkq.trans hk37⟩
          · refine q_skip (g_no rfl rfl rfl g17) ?_
            refine q_skip (g_no rfl rfl rfl g17) ?_
            refine q_skip (g_no rfl rfl rfl g17) ?_
            refine q_pkTc rfl g17 rfl ?_
            refine q_mvt rfl ?_
            refine q_skip (g_no rfl rfl rfl rfl) ?_
            refine q_skip (g_no rfl rfl rfl rfl) ?_
            refine q_skip (g_no rfl rfl rfl rfl) ?_
            refine q_pkTc rfl rfl rfl ?_
            refine q_mvt rfl ?_
            refine q_skip (g_no rfl rfl rfl rfl) ?_
            refine q_skip (g_no rfl rfl rfl rfl) ?_
            refine q_skip (g_no rfl rfl rfl rfl) ?_
            refine q_pkTc rfl rfl rfl ?_
            refine q_mvt rfl ?_
            refine q_skip (g_no rfl rfl rfl rfl) ?_
            refine q_skip (g_no rfl rfl rfl rfl) ?_
            refine q_skip (g_no rfl rfl rfl rfl) ?_
            refine q_skip (g_und rfl rfl rfl) ?_
            refine q_skip (g_und rfl rfl rfl) ?_
            refine q_skip (g_und rfl rfl rfl) ?_
            refine q_skip (g_und rfl rfl rfl) ?_
            refine q_skip (g_und rfl rfl rfl) ?_
            refine q_skip (g_und rfl rfl rfl) ?_
            refine q_skip (g_und rfl rfl rfl) ?_
            refine q_skip (g_und rfl rfl rfl) ?_
            refine q_skip (g_und rfl rfl rfl) ?_
            refine q_skip (g_und rfl rfl rfl) ?_
            refine q_skip (g_no rfl rfl rfl rfl) ?_
            refine q_pkTc rfl rfl rfl ?_
            refine q_nil ?_; intro w39 hk39
            exact ⟨by (repeat (first | with_reducible exact offM_refl _ _ | refine offM_updc rfl ?_ | refine offM_upd rfl ?_ | refine offM_updo rfl ?_ | refine offM_updo_none ?_ | refine offM_head rfl rfl ?_)), congrArg (fun b => [Value.bool b]) (by have g := of_decide_eq_true g17; symm; exact decide_eq_true fun hh => by have := hh.1.2.1.1; omega), hkq.trans hk39⟩
        · refine q_skip (g_no rfl rfl rfl g15) ?_
          refine q_skip (g_no rfl rfl rfl g15) ?_
          refine q_skip (g_no rfl rfl rfl g15) ?_
          refine q_pkTc rfl g15 rfl ?_
          refine q_mvt rfl ?_
          refine q_skip (g_no rfl rfl rfl rfl) ?_
          refine q_skip (g_no rfl rfl rfl rfl) ?_
          refine q_skip (g_no rfl rfl rfl rfl) ?_
          refine q_pkTc rfl rfl rfl ?_
          refine q_mvt rfl ?_
          refine q_skip (g_no rfl rfl rfl rfl) ?_
          refine q_skip (g_no rfl rfl rfl rfl) ?_
          refine q_skip (g_no rfl rfl rfl rfl) ?_
          refine q_pkTc rfl rfl rfl ?_
          refine q_mvt rfl ?_
          refine q_skip (g_no rfl rfl rfl rfl) ?_
          refine q_skip (g_no rfl rfl rfl rfl) ?_
          refine q_skip (g_no rfl rfl rfl rfl) ?_
          refine q_pkTc rfl rfl rfl ?_
          refine q_mvt rfl ?_
          refine q_skip (g_no rfl rfl rfl rfl) ?_
          refine q_skip (g_no rfl rfl rfl rfl) ?_
          refine q_skip (g_no rfl rfl rfl rfl) ?_
          refine q_skip (g_und rfl rfl rfl) ?_
          refine q_skip (g_und rfl rfl rfl) ?_
          refine q_skip (g_und rfl rfl rfl) ?_
          refine q_skip (g_und rfl rfl rfl) ?_
          refine q_skip (g_und rfl rfl rfl) ?_
          refine q_skip (g_und rfl rfl rfl) ?_
          refine q_skip (g_und rfl rfl rfl) ?_
          refine q_skip (g_und rfl rfl rfl) ?_
          refine q_skip (g_und rfl rfl rfl) ?_
          refine q_skip (g_und rfl rfl rfl) ?_
          refine q_skip (g_no rfl rfl rfl rfl) ?_
          refine q_pkTc rfl rfl rfl ?_
          refine q_nil ?_; intro w41 hk41
          exact ⟨by (repeat (first | with_reducible exact offM_refl _ _ | refine offM_updc rfl ?_ | refine offM_upd rfl ?_ | refine offM_updo rfl ?_ | refine offM_updo_none ?_ | refine offM_head rfl rfl ?_)), congrArg (fun b => [Value.bool b]) (by have g := of_decide_eq_true g15; symm; exact decide_eq_true fun hh => by have := hh.1.1.2; omega), hkq.trans hk41⟩
      · refine q_skip (g_no rfl rfl rfl g13) ?_
        refine q_skip (g_no rfl rfl rfl g13) ?_
        refine q_skip (g_no rfl rfl rfl g13) ?_
        refine q_pkTc rfl g13 rfl ?_
        refine q_mvt rfl ?_
        refine q_skip (g_no rfl rfl rfl rfl) ?_
        refine q_skip (g_no rfl rfl rfl rfl) ?_
        refine q_skip (g_no rfl rfl rfl rfl) ?_
        refine q_pkTc rfl rfl rfl ?_
        refine q_mvt rfl ?_
        refine q_skip (g_no rfl rfl rfl rfl) ?_
        refine q_skip (g_no rfl rfl rfl rfl) ?_
        refine q_skip (g_no rfl rfl rfl rfl) ?_
        refine q_pkTc rfl rfl rfl ?_
        refine q_mvt rfl ?_
        refine q_skip (g_no rfl rfl rfl rfl) ?_
        refine q_skip (g_no rfl rfl rfl rfl) ?_
        refine q_skip (g_no rfl rfl rfl rfl) ?_
        refine q_pkTc rfl rfl rfl ?_
        refine q_mvt rfl ?_
        refine q_skip (g_no rfl rfl rfl rfl) ?_
        refine q_skip (g_no rfl rfl rfl rfl) ?_
        refine q_skip (g_no rfl rfl rfl rfl) ?_
        refine q_pkTc rfl rfl rfl ?_
        refine q_mvt rfl ?_
        refine q_skip (g_no rfl rfl rfl rfl) ?_
        refine q_skip (g_no rfl rfl rfl rfl) ?_
        refine q_skip (g_no rfl rfl rfl rfl) ?_
        refine q_skip (g_und rfl rfl rfl) ?_
        refine q_skip (g_und rfl rfl rfl) ?_
        refine q_skip (g_und rfl rfl rfl) ?_
        refine q_skip (g_und rfl rfl rfl) ?_
        refine q_skip (g_und rfl rfl rfl) ?_
        refine q_skip (g_und rfl rfl rfl) ?_
        refine q_skip (g_und rfl rfl rfl) ?_
        refine q_skip (g_und rfl rfl rfl) ?_
        refine q_skip (g_und rfl rfl rfl) ?_
        refine q_skip (g_und rfl rfl rfl) ?_
        refine q_skip (g_no rfl rfl rfl rfl) ?_
        refine q_pkTc rfl rfl rfl ?_
        refine q_nil ?_; intro w43 hk43
        exact ⟨by (repeat (first | with_reducible exact offM_refl _ _ | refine offM_updc rfl ?_ | refine offM_upd rfl ?_ | refine offM_updo rfl ?_ | refine offM_updo_none ?_ | refine offM_head rfl rfl ?_)), congrArg (fun b => [Value.bool b]) (by have g := of_decide_eq_true g13; symm; exact decide_eq_true fun hh => by have := hh.1.1.1; omega), hkq.trans hk43⟩
    · rintro J45 vs w45 ⟨rfl, hk45⟩ -
      refine W_cond_p rfl (fun h46 => ?_) (fun h46 => ?_)
      · refine W_seq ?_
        refine W_region ?_
        refine o_asc rfl ?_
        refine ops_nil ?_
        refine W_ret ?_
        refine ret1 (.bool false) rfl ?_ ?_; rfl
        exact ⟨congrArg Value.bool (decide_eq_false fun hr => h46 ((okB_all c.bins).1 hr.1 k x hxk)).symm, (hk1.trans hkA).trans hk45⟩
      · refine W_skip ?_
        refine W_region ?_
        refine o_mvt rfl ?_
        refine op_run (r_add rfl rfl) rfl ?_
        refine o_ast rfl ?_
        refine ops_nil ?_
        have hinc := inc64' k (by omega)
        have hko := Decidable.not_not.1 h46
        refine ⟨by (repeat (first | with_reducible exact offM_refl _ _ | refine offM_updc rfl ?_ | refine offM_upd rfl ?_ | refine offM_updo rfl ?_ | refine offM_updo_none ?_ | refine offM_head rfl rfl ?_)), ⟨k + 1, congrArg (fun z : Int => [Value.int .i64 z]) hinc, by omega, fun j hj y hy => ?_, hkA.trans hk45⟩, ?_⟩
        · by_cases he : j = k
          · subst he
            rw [hxk] at hy; injection hy with hy; subst hy; exact hko
          · exact hok j (by omega) y hy
        · show c.bins.length - (IntKind.i64.wrap ((k : Int) + 1)).toNat < c.bins.length - (k : Int).toNat
          rw [hinc]; omega
  · refine W_exit ?_
    refine W_seq ?_
    refine W_region ?_
    refine op_run (r_fieldAddr rfl rfl rfl rfl rfl) rfl ?_
    have hbs : rising (-1) c.bins ∧ ∀ x ∈ c.bins, x.may := (okB_all c.bins).2 fun j x hx => hok j (by have := (List.getElem?_eq_some_iff.1 hx).1; omega) x hx
    have hkw := hk1.trans hkA
    refine op_run (r_load rfl rfl rfl (hB2.cell rfl)) rfl ?_
    refine op_run (r_gtr rfl rfl) rfl ?_
    refine o_mvt rfl ?_
    refine g_split rfl rfl rfl (fun g50 => ?_) (fun g50 => ?_)
    · refine op_run (r_fieldAddr rfl rfl rfl rfl rfl) (g_yes rfl rfl rfl g50) ?_
      refine op_run (r_loadA (refR c.prev) rfl rfl rfl (by first | rfl | (rw [binV_len]; rfl) | (rw [dgR_len]; rfl) | (rw [refR_len]; rfl) | (rw [secR_len]; rfl) | (rw [List.length_map, tagF_len]; rfl)) ((fun j x hj => by rw [Addr.add_lit]; exact hB2.cell (cmV_prev c _ _ hj)))) (g_yes rfl rfl rfl g50) ?_
      refine op_call rfl rfl (g_yes rfl rfl rfl g50) (rf13_ref w2 c.prev) ?_; rintro v52 w52 ⟨rfl, hk52⟩
      refine o_pkTt rfl g50 rfl ?_
      refine o_mvt rfl ?_
      refine g_split rfl rfl rfl (fun g53 => ?_) (fun g53 => ?_)
      · refine op_run (r_fieldAddr rfl rfl rfl rfl rfl) (g_yes rfl rfl rfl g53) ?_
        refine op_run (r_loadA (refR c.vols) rfl rfl rfl (by first | rfl | (rw [binV_len]; rfl) | (rw [dgR_len]; rfl) | (rw [refR_len]; rfl) | (rw [secR_len]; rfl) | (rw [List.length_map, tagF_len]; rfl)) ((fun j x hj => by rw [Addr.add_lit]; exact (hk52.blk' hB2 trivial).cell (cmV_vols c _ _ hj)))) (g_yes rfl rfl rfl g53) ?_
        refine op_call rfl rfl (g_yes rfl rfl rfl g53) (rf13_ref w52 c.vols) ?_; rintro v55 w55 ⟨rfl, hk55⟩
        refine o_pkTt rfl g53 rfl ?_
        refine o_mvt rfl ?_
        refine g_split rfl rfl rfl (fun g56 => ?_) (fun g56 => ?_)
        · refine op_run (r_fieldAddr rfl rfl rfl rfl rfl) (g_yes rfl rfl rfl g56) ?_
          refine op_run (r_loadA (refR c.idx) rfl rfl rfl (by first | rfl | (rw [binV_len]; rfl) | (rw [dgR_len]; rfl) | (rw [refR_len]; rfl) | (rw [secR_len]; rfl) | (rw [List.length_map, tagF_len]; rfl)) ((fun j x hj => by rw [Addr.add_lit]; exact ((hk52.trans hk55).blk' hB2 trivial).cell (cmV_idx c _ _ hj)))) (g_yes rfl rfl rfl g56) ?_
          refine op_call rfl rfl (g_yes rfl rfl rfl g56) (rf13_ref w55 c.idx) ?_; rintro v58 w58 ⟨rfl, hk58⟩
          refine o_pkTt rfl g56 rfl ?_
          refine o_ast rfl ?_
          refine ops_nil ?_
          refine W_ret ?_
          refine ret1 (.bool (decide c.idx.may)) rfl ?_ ?_; rfl
          refine ⟨congrArg Value.bool ?_, hkw.trans ((hk52.trans hk55).trans hk58)⟩
          have g50 := of_decide_eq_true g50; have g53 := of_decide_eq_true g53; have g56 := of_decide_eq_true g56
          rw [decide_eq_decide]
          exact ⟨fun h => ⟨hbs, g53, g56, h, by omega⟩, fun h => h.2.2.2.1⟩
        · refine op_skip (g_no rfl rfl rfl g56) ?_
          refine op_skip (g_no rfl rfl rfl g56) ?_
          refine op_skip (g_no rfl rfl rfl g56) ?_
          refine o_pkFc rfl g56 rfl ?_
          refine o_ast rfl ?_
          refine ops_nil ?_
          refine W_ret ?_
          refine ret1 (.bool false) rfl ?_ ?_; rfl
          exact ⟨congrArg Value.bool (decide_eq_false fun h => of_decide_eq_false g56 h.2.2.1).symm, hkw.trans (hk52.trans hk55)⟩
      · refine op_skip (g_no rfl rfl rfl g53) ?_
        refine op_skip (g_no rfl rfl rfl g53) ?_
        refine op_skip (g_no rfl rfl rfl g53) ?_
        refine o_pkFc rfl g53 rfl ?_
        refine o_mvt rfl ?_
        refine op_skip (g_no rfl rfl rfl rfl) ?_
        refine op_skip (g_no rfl rfl rfl rfl) ?_
        refine op_skip (g_no rfl rfl rfl rfl) ?_
        refine o_pkFc rfl rfl rfl ?_
        refine o_ast rfl ?_
        refine ops_nil ?_
        refine W_ret ?_
        refine ret1 (.bool false) rfl ?_ ?_; rfl
        exact ⟨congrArg Value.bool (decide_eq_false fun h => of_decide_eq_false g53 h.2.1).symm, hkw.trans hk52⟩
    · refine op_skip (g_no rfl rfl rfl g50) ?_
      refine op_skip (g_no rfl rfl rfl g50) ?_
      refine op_skip (g_no rfl rfl rfl g50) ?_
      refine o_pkFc rfl g50 rfl ?_
      refine o_mvt rfl ?_
      refine op_skip (g_no rfl rfl rfl rfl) ?_
      refine op_skip (g_no rfl rfl rfl rfl) ?_
      refine op_skip (g_no rfl rfl rfl rfl) ?_
      refine o_pkFc rfl rfl rfl ?_
      refine o_mvt rfl ?_
      refine op_skip (g_no rfl rfl rfl rfl) ?_
      refine op_skip (g_no rfl rfl rfl rfl) ?_
      refine op_skip (g_no rfl rfl rfl rfl) ?_
      refine o_pkFc rfl rfl rfl ?_
      refine o_ast rfl ?_
      refine ops_nil ?_
      refine W_ret ?_
      refine ret1 (.bool false) rfl ?_ ?_; rfl
      exact ⟨congrArg Value.bool (decide_eq_false fun h => of_decide_eq_false g50 (by have := h.2.2.2.2; omega)).symm, hkw⟩
end Go.Proofs.Ytigehkfdfecfoaa.B
