/-
  SpaceBack's walk.
-/
import Derived.Test.YtcmkfembphakiaaSpaceBack
namespace Go.Proofs.Ytcmkfembphakiaa.B
open Go
set_option linter.unusedVariables false
set_option maxHeartbeats 2000000
set_option maxRecDepth 100000
attribute [local irreducible] W OpsW OpsQ retP
/-- What holds throughout: the space has the first sectors and the extents. -/
structure InvB (w : World) (b : Nat) (A : Nat → Prop) (B S fs : Nat) (w' : World) (va : Value) (l : List (Nat × Nat)) : Prop where
  ok : OkL S fs l
  sp : SpC w' b A S (exF fs l)
  own : Own w' 34 2 va l.length (exC l)
  inb : InB (fun j => w.heap.size ≤ j ∧ ¬ A j) va
  kw : Keep All w w'
  sz : B ≤ w'.heap.size
theorem InvB.mk' {w : World} {b : Nat} {A : Nat → Prop} {B S fs : Nat} {w1 w2 : World} {va : Value} {l l' : List (Nat × Nat)} (hA : ∀ k, A k → w.heap.size ≤ k ∧ k < B) (h : InvB w b A B S fs w1 va l) (hok : OkL S fs l') (hs : SpC w2 b A S (exF fs l')) (hk : Keep (fun k => ¬ A k) w1 w2) (hl : l' = l) : InvB w b A B S fs w2 va l' := by
  subst hl
  exact ⟨hok, hs, h.own.keep hk (h.inb.mono fun j hj => hj.2), h.inb, h.kw.outA hk (fun k hk => (hA k hk).1), Nat.le_trans h.sz hk.size⟩
theorem InvB.keep {w : World} {b : Nat} {A : Nat → Prop} {B S fs : Nat} {w1 w2 : World} {va : Value} {l : List (Nat × Nat)} (h : InvB w b A B S fs w1 va l) (hk : Keep All w1 w2) : InvB w b A B S fs w2 va l :=
  ⟨h.ok, h.sp.keep hk (fun _ _ => trivial), h.own.keep hk (fun _ _ => trivial), h.inb, h.kw.trans hk, Nat.le_trans h.sz hk.size⟩
theorem ti_ext : ∃ z, tinfo Try.prog 34 = some (some z, 2, 16) ∧ z.cells.size = 2 := ⟨.agg #[.int .i64 0, .int .i64 0], by kernel_rfl, rfl⟩
theorem walk_SpaceBack (w : World) (S0 fs0 : Int) (v1 v2 : Value) (xs ks : List Int) (hx : Ints w v1 xs) (hks : Ints w v2 ks) :
    Ret Try.prog 4 [.int .i64 S0, .int .i64 fs0, v1, v2].toArray w fun r w' => r = .bool true ∧ Keep All w w' := by
  have hxl := hx.len_le
  have hkl := hks.len_le
  obtain ⟨a1, c1, rfl, _, _⟩ := hx.form
  obtain ⟨a2, c2, rfl, _, _⟩ := hks.form
  obtain ⟨ze, hze, hzs⟩ := ti_ext
  refine enter (fn := Try.f4) (n := 176) Try.func4 rfl rfl (by simp) ?_
  refine W_seq ?_
  refine W_region ?_
  refine o_asc rfl ?_
  refine ops_nil ?_
  refine W_seq ?_
  refine W_seq ?_
  refine W_region ?_
  refine op_call rfl rfl rfl (speaks06 w) ?_; rintro v1 w1 ⟨rfl, hk1⟩
  refine op_run (r_not rfl) rfl ?_
  refine ops_nil ?_
  refine W_no rfl (rfl) ?_
  refine W_skip ?_
  refine W_seq ?_
  refine W_cut [50] [26, 27, 28, 29, 30, 31, 32, 33, 34, 35, 36, 37, 38, 39, 40, 41, 42, 43, 44, 45, 46, 47, 48, 49, 50] (fun vs w4 => vs = [.bool (decide (S0 < 1 ∨ 300 < S0 ∨ fs0 < 0 ∨ S0 < fs0 ∨ 40 < xs.length ∨ 60 < ks.length))] ∧ w4 = w1) ?_ ?_
  · refine W_region ?_
    refine o_mvt rfl ?_
    refine op_run (r_lss rfl rfl) rfl ?_
    refine o_mvt rfl ?_
    refine g_split rfl rfl rfl (fun g5 => ?_) (fun g5 => ?_)
    · refine o_mvt (g_yes rfl rfl rfl g5) ?_
      refine op_run (r_gtr rfl rfl) (g_yes rfl rfl rfl g5) ?_
      refine o_pkFt rfl g5 rfl ?_
      refine o_mvt rfl ?_
      refine g_split rfl rfl rfl (fun g6 => ?_) (fun g6 => ?_)
      · refine o_mvt (g_yes rfl rfl rfl g6) ?_
        refine op_run (r_lss rfl rfl) (g_yes rfl rfl rfl g6) ?_
        refine o_pkFt rfl g6 rfl ?_
        refine o_mvt rfl ?_
        refine g_split rfl rfl rfl (fun g7 => ?_) (fun g7 => ?_)
        · refine o_mvt (g_yes rfl rfl rfl g7) ?_
          refine o_mvt (g_yes rfl rfl rfl g7) ?_
          refine op_run (r_gtr rfl rfl) (g_yes rfl rfl rfl g7) ?_
          refine o_pkFt rfl g7 rfl ?_
          refine o_mvt rfl ?_
          refine g_split rfl rfl rfl (fun g8 => ?_) (fun g8 => ?_)
          · refine o_mvt (g_yes rfl rfl rfl g8) ?_
            refine op_run (r_len rfl rfl rfl) (g_yes rfl rfl rfl g8) ?_
            refine op_run (r_gtr rfl rfl) (g_yes rfl rfl rfl g8) ?_
            refine o_pkFt rfl g8 rfl ?_
            refine o_mvt rfl ?_
            refine g_split rfl rfl rfl (fun g9 => ?_) (fun g9 => ?_)
            · refine o_mvt (g_yes rfl rfl rfl g9) ?_
              refine op_run (r_len rfl rfl rfl) (g_yes rfl rfl rfl g9) ?_
              refine op_run (r_gtr rfl rfl) (g_yes rfl rfl rfl g9) ?_
              refine o_pkFt rfl g9 rfl ?_
              refine ops_nil ?_
              exact ⟨by (repeat (first | with_reducible exact offM_refl _ _ | refine offM_updc rfl ?_ | refine offM_upd rfl ?_ | refine offM_updo rfl ?_ | refine offM_updo_none ?_ | refine offM_head rfl rfl ?_)), congrArg (fun b => [Value.bool b]) (by have := of_decide_eq_false g5; have := of_decide_eq_false g6; have := of_decide_eq_false g7; have := of_decide_eq_false g8; have := of_decide_eq_false g9; rw [decide_eq_decide]; constructor <;> intro hh <;> omega), rfl⟩
            · refine op_skip (g_no rfl rfl rfl g9) ?_
              refine op_skip (g_no rfl rfl rfl g9) ?_
              refine op_skip (g_no rfl rfl rfl g9) ?_
              refine o_pkTc rfl g9 rfl ?_
              refine ops_nil ?_
              exact ⟨by (repeat (first | with_reducible exact offM_refl _ _ | refine offM_updc rfl ?_ | refine offM_upd rfl ?_ | refine offM_updo rfl ?_ | refine offM_updo_none ?_ | refine offM_head rfl rfl ?_)), congrArg (fun b => [Value.bool b]) (by have := of_decide_eq_true g9; symm; apply decide_eq_true; omega), rfl⟩
          · refine op_skip (g_no rfl rfl rfl g8) ?_
            refine op_skip (g_no rfl rfl rfl g8) ?_
            refine op_skip (g_no rfl rfl rfl g8) ?_
            refine o_pkTc rfl g8 rfl ?_
            refine o_mvt rfl ?_
            refine op_skip (g_no rfl rfl rfl rfl) ?_
            refine op_skip (g_no rfl rfl rfl rfl) ?_
            refine op_skip (g_no rfl rfl rfl rfl) ?_
            refine o_pkTc rfl rfl rfl ?_
            refine ops_nil ?_
            exact ⟨by (repeat (first | with_reducible exact offM_refl _ _ | refine offM_updc rfl ?_ | refine offM_upd rfl ?_ | refine offM_updo rfl ?_ | refine offM_updo_none ?_ | refine offM_head rfl rfl ?_)), congrArg (fun b => [Value.bool b]) (by have := of_decide_eq_true g8; symm; apply decide_eq_true; omega), rfl⟩
        · refine op_skip (g_no rfl rfl rfl g7) ?_
          refine op_skip (g_no rfl rfl rfl g7) ?_
          refine op_skip (g_no rfl rfl rfl g7) ?_
          refine o_pkTc rfl g7 rfl ?_
          refine o_mvt rfl ?_
          refine op_skip (g_no rfl rfl rfl rfl) ?_
          refine op_skip (g_no rfl rfl rfl rfl) ?_
          refine op_skip (g_no rfl rfl rfl rfl) ?_
          refine o_pkTc rfl rfl rfl ?_
          refine o_mvt rfl ?_
          refine op_skip (g_no rfl rfl rfl rfl) ?_
          refine op_skip (g_no rfl rfl rfl rfl) ?_
          refine op_skip (g_no rfl rfl rfl rfl) ?_
          refine o_pkTc rfl rfl rfl ?_
          refine ops_nil ?_
          exact ⟨by (repeat (first | with_reducible exact offM_refl _ _ | refine offM_updc rfl ?_ | refine offM_upd rfl ?_ | refine offM_updo rfl ?_ | refine offM_updo_none ?_ | refine offM_head rfl rfl ?_)), congrArg (fun b => [Value.bool b]) (by have := of_decide_eq_true g7; symm; apply decide_eq_true; omega), rfl⟩
      · refine op_skip (g_no rfl rfl rfl g6) ?_
        refine op_skip (g_no rfl rfl rfl g6) ?_
        refine o_pkTc rfl g6 rfl ?_
        refine o_mvt rfl ?_
        refine op_skip (g_no rfl rfl rfl rfl) ?_
        refine op_skip (g_no rfl rfl rfl rfl) ?_
        refine op_skip (g_no rfl rfl rfl rfl) ?_
        refine o_pkTc rfl rfl rfl ?_
        refine o_mvt rfl ?_
        refine op_skip (g_no rfl rfl rfl rfl) ?_
        refine op_skip (g_no rfl rfl rfl rfl) ?_
        refine op_skip (g_no rfl rfl rfl rfl) ?_
        refine o_pkTc rfl rfl rfl ?_
        refine o_mvt rfl ?_
        refine op_skip (g_no rfl rfl rfl rfl) ?_
        refine op_skip (g_no rfl rfl rfl rfl) ?_
        refine op_skip (g_no rfl rfl rfl rfl) ?_
        refine o_pkTc rfl rfl rfl ?_
        refine ops_nil ?_
        exact ⟨by (repeat (first | with_reducible exact offM_refl _ _ | refine offM_updc rfl ?_ | refine offM_upd rfl ?_ | refine offM_updo rfl ?_ | refine offM_updo_none ?_ | refine offM_head rfl rfl ?_)), congrArg (fun b => [Value.bool b]) (by have := of_decide_eq_true g6; symm; apply decide_eq_true; omega), rfl⟩
    · refine op_skip (g_no rfl rfl rfl g5) ?_
      refine op_skip (g_no rfl rfl rfl g5) ?_
      refine o_pkTc rfl g5 rfl ?_
      refine o_mvt rfl ?_
      refine op_skip (g_no rfl rfl rfl rfl) ?_
      refine op_skip (g_no rfl rfl rfl rfl) ?_
      refine o_pkTc rfl rfl rfl ?_
      refine o_mvt rfl ?_
      refine op_skip (g_no rfl rfl rfl rfl) ?_
      refine op_skip (g_no rfl rfl rfl rfl) ?_
      refine op_skip (g_no rfl rfl rfl rfl) ?_
      refine o_pkTc rfl rfl rfl ?_
      refine o_mvt rfl ?_
      refine op_skip (g_no rfl rfl rfl rfl) ?_
      refine op_skip (g_no rfl rfl rfl rfl) ?_
      refine op_skip (g_no rfl rfl rfl rfl) ?_
      refine o_pkTc rfl rfl rfl ?_
      refine o_mvt rfl ?_
      refine op_skip (g_no rfl rfl rfl rfl) ?_
      refine op_skip (g_no rfl rfl rfl rfl) ?_
      refine op_skip (g_no rfl rfl rfl rfl) ?_
      refine o_pkTc rfl rfl rfl ?_
      refine ops_nil ?_
      exact ⟨by (repeat (first | with_reducible exact offM_refl _ _ | refine offM_updc rfl ?_ | refine offM_upd rfl ?_ | refine offM_updo rfl ?_ | refine offM_updo_none ?_ | refine offM_head rfl rfl ?_)), congrArg (fun b => [Value.bool b]) (by have := of_decide_eq_true g5; symm; apply decide_eq_true; omega), rfl⟩
  · rintro J16 vs w16 ⟨rfl, rfl⟩ -
    refine W_cond_p rfl (fun h17 => ?_) (fun h17 => ?_)
    · refine W_seq ?_
      refine W_region ?_
      refine o_asc rfl ?_
      refine ops_nil ?_
      refine W_ret ?_
      refine ret1 (.bool true) rfl ?_ ?_; rfl
      exact ⟨rfl, hk1⟩
    · refine W_skip ?_
      refine W_seq ?_
      refine W_region ?_
      refine o_mvt rfl ?_
      refine o_mvt rfl ?_
      obtain ⟨S, rfl⟩ := Int.eq_ofNat_of_zero_le (show 0 ≤ S0 by omega)
      obtain ⟨fs, rfl⟩ := Int.eq_ofNat_of_zero_le (show 0 ≤ fs0 by omega)
      refine op_call rfl rfl rfl (sp_New_ok (sz := (S : Int)) (fs := (fs : Int)) (by omega) (by omega) (by omega) (by omega)) ?_; rintro v19 w19 ⟨b, rfl, hb, hS19, hk19⟩
      refine o_mvt rfl ?_
      refine op_run (r_extract rfl rfl) rfl ?_
      refine op_run (r_extract rfl rfl) rfl ?_
      refine o_ast rfl ?_
      refine o_ast rfl ?_
      refine ops_nil ?_
      refine W_seq ?_
      refine W_cut [62] [57, 58, 59, 60, 61, 62] (fun vs w20 => vs = [.bool false] ∧ w20 = w19) ?_ ?_
      · refine W_region ?_
        refine o_mvt rfl ?_
        refine op_run (r_neq rfl rfl) rfl ?_
        refine o_mvt rfl ?_
        refine g_split rfl rfl rfl (fun g21 => ?_) (fun g21 => ?_)
        · refine o_mvt (g_yes rfl rfl rfl g21) ?_
          refine op_run (r_isNilP rfl rfl) (g_yes rfl rfl rfl g21) ?_
          refine o_pkFt rfl g21 rfl ?_
          refine ops_nil ?_
          exact ⟨by (repeat (first | with_reducible exact offM_refl _ _ | refine offM_updc rfl ?_ | refine offM_upd rfl ?_ | refine offM_updo rfl ?_ | refine offM_updo_none ?_ | refine offM_head rfl rfl ?_)), rfl, rfl⟩
        · refine op_skip (g_no rfl rfl rfl g21) ?_
          refine op_skip (g_no rfl rfl rfl g21) ?_
          refine o_pkTc rfl g21 rfl ?_
          refine ops_nil ?_
          exact absurd (of_decide_eq_true g21) (by simp)
      · rintro J24 vs w24 ⟨rfl, rfl⟩ -
        refine W_no rfl (rfl) ?_
        refine W_skip ?_
        refine W_seq ?_
        refine W_region ?_
        refine o_bs0 rfl rfl rfl ?_; intro w27 b27 e27 hB27 hk27 hs27
        refine o_ast rfl ?_
        refine ops_nil ?_
        refine W_seq ?_
        refine W_seq ?_
        refine W_region ?_
        refine o_mvt rfl ?_
        refine op_run (r_len rfl rfl rfl) rfl ?_
        refine o_mvc rfl ?_
        refine ops_nil ?_
        refine W_block ?_
        obtain ⟨A, hA0, hA⟩ := hS19.shrink
        have hw1 := hk1.size
        have hAw : ∀ k, A k → w.heap.size ≤ k ∧ k < w24.heap.size := fun k hk => by have := hA k hk; omega
        have hI27 : InvB w b A w24.heap.size S fs w27 (.slice (some ⟨b27, 0, none⟩) 0 0) [] := by
          refine ⟨OkL.nil _ _, ?_, Own.blk hB27 rfl (by omega), fun j hj => ?_, (hk1.trans hk19).trans hk27, hk27.size⟩
          · have h := hA0.keep hk27 (fun _ _ => trivial)
            rw [Int.toNat_natCast, Int.toNat_natCast] at h
            rw [show exF fs [] = (fun i => decide (i < fs)) from by funext i; simp [exF]]
            exact h
          · obtain rfl : b27 = j := by injection hj
            exact ⟨by have := hk19.size; omega, fun h => by have := (hAw _ h).2; omega⟩
        refine W_loop [11, 66] [8, 11, 13, 14, 15, 17, 66, 67, 68, 69, 70, 71, 72, 73, 74, 75, 76, 77, 78, 79, 80, 81, 82, 83, 84, 85, 86, 87, 88, 89, 90, 91, 92, 93, 94, 95, 96, 97, 98, 99, 100, 101, 102, 103, 104, 105, 106, 107, 108, 109] (fun vs w' => ∃ (va : Value) (k : Nat) (l : List (Nat × Nat)), vs = [va, .int .i64 k] ∧ k ≤ xs.length ∧ l.length ≤ k ∧ InvB w b A w24.heap.size S fs w' va l) (fun vs _ => match vs with | [_, .int _ k] => xs.length - k.toNat | _ => 0) ⟨_, 0, [], rfl, by omega, Nat.le_refl _, hI27⟩ ?_
        rintro J vs w2 ⟨va, k, l, rfl, hk, hlk, hI⟩ -
        refine W_seq ?_
        refine W_region ?_
        refine op_run (r_lss rfl rfl) rfl ?_
        refine ops_nil ?_
        refine W_seq ?_
        refine W_cond_p rfl (fun h29 => ?_) (fun h29 => ?_)
        · refine W_skip ?_
          refine W_seq ?_
          refine W_block ?_
          refine W_seq ?_
          refine W_region ?_
          have hkx : k < xs.length := by omega
          have hinc := inc64' k (by omega)
          obtain ⟨b0, off0, c0, e0, _, hcell⟩ := SlR.at hx (by omega) (by omega)
          cases e0
          obtain ⟨cs, hcl, hcs, rfl⟩ := hcell k xs[k] (by simp [hkx])
          have hcs0 := hI.kw.cell (hcs 0 _ rfl) trivial
          rw [Nat.mul_one, Nat.add_zero] at hcs0
          obtain ⟨m, hm15, hm⟩ := and_15 xs[k]
          have hm1 : IntKind.i64.wrap ((m : Int) + 1) = ((m + 1 : Nat) : Int) := inc64' m (by omega)
          obtain ⟨a, c, rfl, hac, hcm⟩ := hI.own.form
          refine op_run (r_idxS1 rfl rfl rfl rfl (by omega) (by omega)) rfl ?_
          refine op_run (r_load rfl rfl rfl hcs0) rfl ?_
          refine o_ast rfl ?_
          refine ops_nil ?_
          refine W_seq ?_
          refine W_region ?_
          refine o_mvt rfl ?_
          refine op_run ((r_and rfl rfl).val (congrArg (Value.int .i64) hm)) rfl ?_
          refine op_run ((r_add rfl rfl).val (congrArg (Value.int .i64) hm1)) rfl ?_
          refine o_ast rfl ?_
          refine ops_nil ?_
          refine W_seq ?_
          refine W_region ?_
          refine o_mvt rfl ?_
          refine o_mvt rfl ?_
          refine op_call rfl rfl rfl (sp_Take_ex (m := m) hI.sp hI.ok) ?_; rintro v32 w32 ⟨p, e, rfl, hcase, hk32⟩
          refine o_mvt rfl ?_
          refine op_run (r_extract rfl rfl) rfl ?_
          refine op_run (r_extract rfl rfl) rfl ?_
          refine o_ast rfl ?_
          refine o_ast rfl ?_
          refine ops_nil ?_
          refine W_seq ?_
          refine W_region ?_
          refine o_mvt rfl ?_
          refine op_run (r_eql rfl rfl) rfl ?_
          refine ops_nil ?_
          refine W_cond_p rfl (fun h33 => ?_) (fun h33 => ?_)
          · refine W_seq ?_
            refine W_seq ?_
            refine W_region ?_
            refine o_mvt rfl ?_
            refine op_run (r_len rfl rfl rfl) rfl ?_
            refine o_mvc rfl ?_
            refine ops_nil ?_
            refine W_block ?_
            obtain ⟨_, hpS, hap, hok32, hS32⟩ := hcase.resolve_right (fun h => h.1 h33)
            have hown32 := hI.own.keep hk32 (hI.inb.mono fun j hj => hj.2)
            have hkw32 : Keep All w w32 := hI.kw.outA hk32 (fun k hk => (hAw k hk).1)
            refine W_loop [83] [8, 17, 83, 84, 85, 86, 87, 88, 89, 90, 91, 92, 93, 94, 95, 96, 97, 98, 99, 100, 101, 102] (fun vs w' => ∃ j : Nat, vs = [.int .i64 j] ∧ j ≤ l.length ∧ Keep All w32 w') (fun vs _ => match vs with | [.int _ j] => l.length - j.toNat | _ => 0) ⟨0, rfl, by omega, Keep.refl _⟩ ?_
            rintro J34 vs w34 ⟨j, rfl, hj, hk34⟩ -
            refine W_seq ?_
            refine W_region ?_
            refine op_run (r_lss rfl rfl) rfl ?_
            refine ops_nil ?_
            refine W_seq ?_
            refine W_cond_p rfl (fun h35 => ?_) (fun h35 => ?_)
            · refine W_skip ?_
              refine W_seq ?_
              refine W_block ?_
              refine W_seq ?_
              refine W_region ?_
              have hjl : j < l.length := by omega
              have hincj := inc64' j (by omega)
              obtain ⟨b9, off9, rfl, hc1, hc2⟩ := ex_at (hown32.keep hk34 (fun _ _ => trivial)).sl hjl
              have hx1 := hI.ok.hi l[j] (by simp)
              have hap1 := hap l[j] (by simp)
              refine op_run (r_idxS rfl rfl rfl rfl (by omega) (by omega)) rfl ?_
              refine op_run (r_loadA ([.int .i64 l[j].1, .int .i64 l[j].2]) rfl rfl rfl rfl (by rw [Int.toNat_natCast]; exact row2 hc1 hc2)) rfl ?_
              refine o_alloc rfl rfl rfl ?_; intro w38 b38 e38 hB38 hk38 hs38
              refine o_storeA (cs := [.int .i64 l[j].1, .int .i64 l[j].2]) rfl rfl rfl rfl hB38 (by exact Nat.le_refl _) rfl ?_; intro w39 hB39 hk39 hs39
              have hC39 : Blk w39 b38 [Value.int .i64 l[j].1, .int .i64 l[j].2] 34 := hB39
              have hk39' : Keep All w32 w39 := (hk34.trans hk38).new hk39 (by have := hk34.size; omega)
              refine ops_nil ?_
              refine W_cut [101] [87, 88, 89, 90, 91, 92, 93, 94, 95, 96, 97, 98, 99, 100, 101] (fun vs w40 => vs = [.bool false] ∧ w40 = w39) ?_ ?_
              · refine W_region ?_
                refine o_mvt rfl ?_
                refine op_run (r_fieldAddr rfl rfl rfl rfl rfl) rfl ?_
                refine op_run (r_load rfl rfl rfl (hC39.cell rfl)) rfl ?_
                refine op_run (r_fieldAddr rfl rfl rfl rfl rfl) rfl ?_
                refine op_run (r_load rfl rfl rfl (hC39.cell rfl)) rfl ?_
                refine op_run ((r_add rfl rfl).val (congrArg (Value.int .i64) (wrap_i64 (by omega) (by omega)))) rfl ?_
                refine op_run (r_lss rfl rfl) rfl ?_
                refine o_mvt rfl ?_
                refine g_split rfl rfl rfl (fun g43 => ?_) (fun g43 => ?_)
                · refine op_run (r_fieldAddr rfl rfl rfl rfl rfl) (g_yes rfl rfl rfl g43) ?_
                  refine op_run (r_load rfl rfl rfl (hC39.cell rfl)) (g_yes rfl rfl rfl g43) ?_
                  refine o_mvt (g_yes rfl rfl rfl g43) ?_
                  refine o_mvt (g_yes rfl rfl rfl g43) ?_
                  refine op_run ((r_add rfl rfl).val (congrArg (Value.int .i64) (wrap_i64 (by omega) (by omega)))) (g_yes rfl rfl rfl g43) ?_
                  refine op_run (r_lss rfl rfl) (g_yes rfl rfl rfl g43) ?_
                  refine o_pkTt rfl g43 rfl ?_
                  refine ops_nil ?_
                  exact ⟨by (repeat (first | with_reducible exact offM_refl _ _ | refine offM_updc rfl ?_ | refine offM_upd rfl ?_ | refine offM_updo rfl ?_ | refine offM_updo_none ?_ | refine offM_head rfl rfl ?_)), congrArg (fun b => [Value.bool b]) (decide_eq_false (by have := of_decide_eq_true g43; unfold apart at hap1; omega)), rfl⟩
                · refine op_skip (g_no rfl rfl rfl g43) ?_
                  refine op_skip (g_no rfl rfl rfl g43) ?_
                  refine op_skip (g_no rfl rfl rfl g43) ?_
                  refine op_skip (g_no rfl rfl rfl g43) ?_
                  refine op_skip (g_no rfl rfl rfl g43) ?_
                  refine op_skip (g_no rfl rfl rfl g43) ?_
                  refine o_pkFc rfl g43 rfl ?_
                  refine ops_nil ?_
                  exact ⟨by (repeat (first | with_reducible exact offM_refl _ _ | refine offM_updc rfl ?_ | refine offM_upd rfl ?_ | refine offM_updo rfl ?_ | refine offM_updo_none ?_ | refine offM_head rfl rfl ?_)), rfl, rfl⟩
              · rintro J47 vs w47 ⟨rfl, rfl⟩ -
                refine W_no rfl (rfl) ?_
                refine W_skip ?_
                refine W_region ?_
                refine op_run (r_add rfl rfl) rfl ?_
                refine o_mvt rfl ?_
                refine ops_nil ?_
                refine ⟨by (repeat (first | with_reducible exact offM_refl _ _ | refine offM_updc rfl ?_ | refine offM_upd rfl ?_ | refine offM_updo rfl ?_ | refine offM_updo_none ?_ | refine offM_head rfl rfl ?_)), ⟨j + 1, ?_, by omega, hk39'⟩, ?_⟩
                · rw [← hincj]; rfl
                · show l.length - (IntKind.i64.wrap ((j : Int) + 1)).toNat < l.length - (j : Int).toNat
                  rw [hincj]; omega
            · refine W_exit ?_
              refine W_region ?_
              refine o_mvt rfl ?_
              refine o_mvt rfl ?_
              refine o_mvt rfl ?_
              refine op_run (r_build ([.int .i64 p, .int .i64 ((m + 1 : Nat) : Int)]) (_) ([(0, .int .i64 p), (1, .int .i64 ((m + 1 : Nat) : Int))]) rfl rfl rfl rfl rfl (rfl)) rfl ?_
              refine o_bsA1 [.int .i64 p, .int .i64 ((m + 1 : Nat) : Int)] rfl rfl hze rfl (Nat.le_of_ble_eq_true rfl) rfl ?_; intro w52 b52 e52 hB52 hk52 hs52
              have hown52 := (hown32.keep hk34 (fun _ _ => trivial)).keep hk52 (fun _ _ => trivial)
              refine o_app (c := 1) [.int .i64 p, .int .i64 ((m + 1 : Nat) : Int)] rfl rfl rfl hze hzs (by decide) hown52 rfl hB52.all rfl (by omega) (by omega) rfl ?_; intro v53 w53 hown53 hk53 hb53
              refine o_ast rfl ?_
              refine ops_nil ?_
              refine W_region ?_
              refine op_run (r_add rfl rfl) rfl ?_
              refine o_mvt rfl ?_
              refine ops_nil ?_
              refine ⟨by (repeat (first | with_reducible exact offM_refl _ _ | refine offM_updc rfl ?_ | refine offM_upd rfl ?_ | refine offM_updo rfl ?_ | refine offM_updo_none ?_ | refine offM_head rfl rfl ?_)), ⟨v53, k + 1, l ++ [(p, m + 1)], ?_, by omega, by simp; omega, ?_⟩, ?_⟩
              · rw [← hinc]; rfl
              · have hkw52 := (hkw32.trans hk34).trans hk52
                have h1 := hk32.size
                have h2 := hk34.size
                have h3 := hk52.size
                have h4 := hI.sz
                have hnA : ∀ j, w52.heap.size ≤ j → ¬ A j := fun j hj h => by have := (hAw j h).2; omega
                refine ⟨hok32, ((hS32.keep hk34 (fun _ _ => trivial)).keep hk52 (fun _ _ => trivial)).keep hk53 (fun j hj e => (hI.inb j e.symm).2 hj), ?_, fun j hj => ?_, Keep.own hkw52 hk53 (fun j hj _ => (hI.inb j hj).1), by have := hk53.size; omega⟩
                · rw [exC_app, List.length_append]; exact hown53
                · rcases hb53 j hj with h | h
                  · exact hI.inb j h
                  · exact ⟨by have := hkw52.size; omega, hnA j h⟩
              · show xs.length - (IntKind.i64.wrap ((k : Int) + 1)).toNat < xs.length - (k : Int).toNat
                rw [hinc]; omega
          · refine W_skip ?_
            refine W_region ?_
            refine op_run (r_add rfl rfl) rfl ?_
            refine o_mvt rfl ?_
            refine ops_nil ?_
            refine ⟨by (repeat (first | with_reducible exact offM_refl _ _ | refine offM_updc rfl ?_ | refine offM_upd rfl ?_ | refine offM_updo rfl ?_ | refine offM_updo_none ?_ | refine offM_head rfl rfl ?_)), ⟨_, k + 1, l, ?_, by omega, by omega, hI.mk' hAw hI.ok (hcase.resolve_left (fun h => h33 h.1)).2 hk32 rfl⟩, ?_⟩
            · rw [← hinc]; rfl
            · show xs.length - (IntKind.i64.wrap ((k : Int) + 1)).toNat < xs.length - (k : Int).toNat
              rw [hinc]; omega
        · refine W_exit ?_
          refine W_cut [11] [11, 19, 20, 110, 111, 112, 113, 114, 115, 116, 117, 118, 119, 120, 121, 122, 123, 124, 125, 126, 127, 128, 129, 130, 131, 132, 133, 134, 135, 136, 137, 138, 139, 140, 141, 142, 143, 144] (fun vs w56 => ∃ (va : Value) (l : List (Nat × Nat)), vs = [va] ∧ l.length ≤ 40 ∧ InvB w b A w24.heap.size S fs w56 va l) ?_ ?_
          · refine W_seq ?_
            refine W_region ?_
            refine o_mvt rfl ?_
            refine op_run (r_len rfl rfl rfl) rfl ?_
            refine o_mvc rfl ?_
            refine ops_nil ?_
            refine W_block ?_
            have hl40 : l.length ≤ 40 := by omega
            refine W_loop [11, 112] [11, 19, 20, 112, 113, 114, 115, 116, 117, 118, 119, 120, 121, 122, 123, 124, 125, 126, 127, 128, 129, 130, 131, 132, 133, 134, 135, 136, 137, 138, 139, 140, 141, 142, 143, 144] (fun vs w' => ∃ (va : Value) (k : Nat) (l : List (Nat × Nat)), vs = [va, .int .i64 k] ∧ k ≤ ks.length ∧ l.length ≤ 40 ∧ InvB w b A w24.heap.size S fs w' va l) (fun vs _ => match vs with | [_, .int _ k] => ks.length - k.toNat | _ => 0) ⟨_, 0, l, rfl, by omega, hl40, hI⟩ ?_
            clear hI hl40 hlk hk
            rintro J57 vs w57 ⟨va, k, l, rfl, hk, hl40, hI⟩ -
            refine W_seq ?_
            refine W_region ?_
            refine op_run (r_lss rfl rfl) rfl ?_
            refine ops_nil ?_
            refine W_seq ?_
            obtain ⟨a, c, rfl, hac, hcm⟩ := hI.own.form
            refine W_cond_p rfl (fun h58 => ?_) (fun h58 => ?_)
            · refine W_skip ?_
              refine W_seq ?_
              refine W_block ?_
              refine W_seq ?_
              refine W_region ?_
              have hkx : k < ks.length := by omega
              have hinc := inc64' k (by omega)
              obtain ⟨b0, off0, c0, e0, _, hcell⟩ := SlR.at hks (by omega) (by omega)
              cases e0
              obtain ⟨cs, hcl, hcs, rfl⟩ := hcell k ks[k] (by simp [hkx])
              have hcs0 := hI.kw.cell (hcs 0 _ rfl) trivial
              rw [Nat.mul_one, Nat.add_zero] at hcs0
              refine op_run (r_idxS1 rfl rfl rfl rfl (by omega) (by omega)) rfl ?_
              refine op_run (r_load rfl rfl rfl hcs0) rfl ?_
              refine o_ast rfl ?_
              refine ops_nil ?_
              refine W_seq ?_
              refine W_seq ?_
              refine W_region ?_
              refine o_mvt rfl ?_
              refine op_run (r_len rfl rfl rfl) rfl ?_
              refine op_run (r_eql rfl rfl) rfl ?_
              refine ops_nil ?_
              obtain ⟨m, hm15, hm⟩ := and_65535 ks[k]
              obtain ⟨i, hmi⟩ : ∃ i : Nat, m % l.length = i := ⟨_, rfl⟩
              have hmod : ((m : Int).tmod (l.length : Int)) = (i : Int) := by rw [← hmi]; exact (Int.ofNat_tmod m l.length).symm
              have hinci : i < 65536 → IntKind.i64.wrap ((i : Int) + 1) = ((i + 1 : Nat) : Int) := fun h => inc64' i (by omega)
              refine W_cond_p rfl (fun h61 => ?_) (fun h61 => ?_)
              · refine W_exit ?_
                exact ⟨by (repeat (first | with_reducible exact offM_refl _ _ | refine offM_updc rfl ?_ | refine offM_upd rfl ?_ | refine offM_updo rfl ?_ | refine offM_updo_none ?_ | refine offM_head rfl rfl ?_)), _, l, rfl, hl40, hI⟩
              · refine W_skip ?_
                refine W_seq ?_
                refine W_region ?_
                refine o_mvt rfl ?_
                refine op_run ((r_and rfl rfl).val (congrArg (Value.int .i64) hm)) rfl ?_
                refine o_mvt rfl ?_
                refine op_run (r_len rfl rfl rfl) rfl ?_
                refine op_run ((r_rem rfl rfl (by omega)).val (congrArg (Value.int .i64) hmod)) rfl ?_
                have hil : i < l.length := by rw [← hmi]; exact Nat.mod_lt _ (by omega)
                have hinci := hinci (by omega)
                refine o_ast rfl ?_
                refine ops_nil ?_
                refine W_seq ?_
                refine W_tail 11 (by kernel_rfl) (by kernel_rfl) ?_; intro w64 hk64 hs64
                have hI64 := hI.keep hk64
                obtain ⟨b9, off9, rfl, hc1, hc2⟩ := ex_at hI64.own.sl hil
                refine q_mvt rfl ?_
                refine q_mvt rfl ?_
                refine q_mvt rfl ?_
                refine q_run (still1 (r_idxS rfl rfl rfl rfl (by omega) (by omega))) rfl ?_
                refine q_run (still1 (r_fieldAddr rfl rfl rfl rfl rfl)) rfl ?_
                refine q_run (still1 (r_load rfl rfl rfl ((by rw [Int.toNat_natCast]; exact hc1)))) rfl ?_
                refine q_mvt rfl ?_
                refine q_mvt rfl ?_
                refine q_run (still1 (r_idxS rfl rfl rfl rfl (by omega) (by omega))) rfl ?_
                refine q_run (still1 (r_fieldAddr rfl rfl rfl rfl rfl)) rfl ?_
                refine q_run (still1 (r_load rfl rfl rfl ((by rw [Int.toNat_natCast]; exact hc2)))) rfl ?_
                refine q_nil ?_
                have hl3 : l = l.take i ++ l[i] :: l.drop (i + 1) := by rw [← List.drop_eq_getElem_cons hil, List.take_append_drop]
                have hok69 := hI64.ok
                have hsp69 := hI64.sp
                rw [hl3] at hok69 hsp69
                refine op_call rfl rfl rfl (sp_Release_ex hsp69 hok69) ?_; rintro v69 w69 ⟨hS69, hk69⟩
                have hown69 := hI64.own.keep hk69 (hI64.inb.mono fun j hj => hj.2)
                have hkw69 : Keep All w w69 := hI64.kw.outA hk69 (fun k hk => (hAw k hk).1)
                refine ops_nil ?_
                refine W_tail 7 (by kernel_rfl) (by kernel_rfl) ?_; intro w70 hk70 hs70
                refine q_mvt rfl ?_
                refine q_mvt rfl ?_
                refine q_run (still1 (r_sliceS_hi rfl rfl rfl rfl (by omega) (by omega))) rfl ?_
                refine q_mvt rfl ?_
                refine q_mvt rfl ?_
                refine q_run (still1 ((r_add rfl rfl).val (congrArg (Value.int .i64) hinci))) rfl ?_
                refine q_run (still1 (r_sliceS_lo rfl rfl rfl rfl (by omega) (by omega))) rfl ?_
                refine q_nil ?_
                have hown70 := hown69.keep hk70 (fun _ _ => trivial)
                have hsub := Sl.sub (l := i + 1) (h := l.length) (m := c) hown70.sl (by omega) (Nat.le_refl _) hac (Nat.le_refl _)
                have hcut := hown70.take i (by omega)
                rw [List.take_of_length_le (Nat.le_of_eq (exC_len l)), exC_drop] at hsub
                rw [exC_take] at hcut
                refine o_appS (v := .slice (some ⟨b9, off9, none⟩) i c) (by rw [subSl_0]; rfl) rfl hsub rfl hze hzs rfl hcut (exC_one _) (by omega) (by omega) rfl ?_; intro v73 w73 hown73 hk73 hb73
                refine o_ast rfl ?_
                refine ops_nil ?_
                refine W_region ?_
                refine op_run (r_add rfl rfl) rfl ?_
                refine o_mvt rfl ?_
                refine ops_nil ?_
                refine ⟨by (repeat (first | with_reducible exact offM_refl _ _ | refine offM_updc rfl ?_ | refine offM_upd rfl ?_ | refine offM_updo rfl ?_ | refine offM_updo_none ?_ | refine offM_head rfl rfl ?_)), ⟨v73, k + 1, l.take i ++ l.drop (i + 1), ?_, by omega, by simp; omega, ?_⟩, ?_⟩
                · rw [← hinc]; rfl
                · have h1 := hk69.size
                  have h2 := hk70.size
                  have h3 := hk64.size
                  have h4 := hI.sz
                  refine ⟨hok69.drop1.1, (hS69.keep hk70 (fun _ _ => trivial)).keep hk73 (fun j hj e => (hI.inb j e.symm).2 hj), ?_, fun j hj => ?_, Keep.own (hkw69.trans hk70) hk73 (fun j hj _ => (hI.inb j hj).1), by have := hk73.size; omega⟩
                  · rw [exC_app, show (l.take i ++ l.drop (i + 1)).length = i + (l.length - (i + 1)) by simp; omega]
                    exact hown73
                  · rcases hb73 j hj with h | h
                    · exact hI.inb j h
                    · exact ⟨by have := hkw69.size; omega, fun h' => by have := (hAw j h').2; omega⟩
                · show ks.length - (IntKind.i64.wrap ((k : Int) + 1)).toNat < ks.length - (k : Int).toNat
                  rw [hinc]; omega
            · refine W_exit ?_
              exact ⟨by (repeat (first | with_reducible exact offM_refl _ _ | refine offM_updc rfl ?_ | refine offM_upd rfl ?_ | refine offM_updo rfl ?_ | refine offM_updo_none ?_ | refine offM_head rfl rfl ?_)), _, l, rfl, hl40, hI⟩
          · rintro J76 vs w76 ⟨va, l, rfl, hl40, hI⟩ -
            obtain ⟨a, c, rfl, hac, hcm⟩ := hI.own.form
            refine W_seq ?_
            refine W_seq ?_
            refine W_region ?_
            refine o_mvt rfl ?_
            refine op_run (r_len rfl rfl rfl) rfl ?_
            refine o_mvc rfl ?_
            refine ops_nil ?_
            refine W_block ?_
            refine W_loop [147] [22, 147, 148, 149, 150, 151, 152, 153, 154, 155, 156, 157] (fun vs w' => ∃ j : Nat, vs = [.int .i64 j] ∧ j ≤ l.length ∧ OkL S fs (l.drop j) ∧ SpC w' b A S (exF fs (l.drop j)) ∧ Own w' 34 2 (.slice a l.length c) l.length (exC l) ∧ Keep All w w' ∧ w24.heap.size ≤ w'.heap.size) (fun vs _ => match vs with | [.int _ j] => l.length - j.toNat | _ => 0) ⟨0, rfl, by omega, hI.ok, hI.sp, hI.own, hI.kw, hI.sz⟩ ?_
            rintro J77 vs w77 ⟨j, rfl, hj, hok77, hsp77, hown77, hkw77, hsz77⟩ -
            refine W_seq ?_
            refine W_region ?_
            refine op_run (r_lss rfl rfl) rfl ?_
            refine ops_nil ?_
            refine W_seq ?_
            refine W_cond_p rfl (fun h78 => ?_) (fun h78 => ?_)
            · refine W_skip ?_
              refine W_seq ?_
              refine W_block ?_
              refine W_seq ?_
              refine W_region ?_
              have hjl : j < l.length := by omega
              have hincj := inc64' j (by omega)
              obtain ⟨b9, off9, rfl, hc1, hc2⟩ := ex_at hown77.sl hjl
              refine op_run (r_idxS rfl rfl rfl rfl (by omega) (by omega)) rfl ?_
              refine op_run (r_loadA ([.int .i64 l[j].1, .int .i64 l[j].2]) rfl rfl rfl rfl (by rw [Int.toNat_natCast]; exact row2 hc1 hc2)) rfl ?_
              refine o_alloc rfl rfl rfl ?_; intro w81 b81 e81 hB81 hk81 hs81
              refine o_storeA (cs := [.int .i64 l[j].1, .int .i64 l[j].2]) rfl rfl rfl rfl hB81 (by exact Nat.le_refl _) rfl ?_; intro w82 hB82 hk82 hs82
              have hC82 : Blk w82 b81 [Value.int .i64 l[j].1, .int .i64 l[j].2] 34 := hB82
              have hsp82 := (hsp77.keep hk81 (fun _ _ => trivial)).keep hk82 (fun k hk => by have := (hAw k hk).2; omega)
              have hown82 := (hown77.keep hk81 (fun _ _ => trivial)).keep hk82 (hown77.lt.mono fun k hk => by omega)
              have hkw82 : Keep All w w82 := (hkw77.trans hk81).new hk82 (by have := hkw77.size; omega)
              refine ops_nil ?_
              refine W_region ?_
              refine o_mvt rfl ?_
              refine op_run (r_fieldAddr rfl rfl rfl rfl rfl) rfl ?_
              refine op_run (r_load rfl rfl rfl (hC82.cell rfl)) rfl ?_
              refine op_run (r_fieldAddr rfl rfl rfl rfl rfl) rfl ?_
              refine op_run (r_load rfl rfl rfl (hC82.cell rfl)) rfl ?_
              rw [List.drop_eq_getElem_cons hjl] at hok77 hsp82
              refine op_call rfl rfl rfl (sp_Release_ex (l := []) hsp82 hok77) ?_; rintro v85 w85 ⟨hS85, hk85⟩
              refine ops_nil ?_
              refine W_region ?_
              refine op_run (r_add rfl rfl) rfl ?_
              refine o_mvt rfl ?_
              refine ops_nil ?_
              refine ⟨by (repeat (first | with_reducible exact offM_refl _ _ | refine offM_updc rfl ?_ | refine offM_upd rfl ?_ | refine offM_updo rfl ?_ | refine offM_updo_none ?_ | refine offM_head rfl rfl ?_)), ⟨j + 1, ?_, by omega, (OkL.drop1 (l := []) hok77).1, hS85, hown82.keep hk85 (hI.inb.mono fun j hj => hj.2), hkw82.outA hk85 (fun k hk => (hAw k hk).1), by have := hk85.size; have := hk81.size; omega⟩, ?_⟩
              · rw [← hincj]; rfl
              · show l.length - (IntKind.i64.wrap ((j : Int) + 1)).toNat < l.length - (j : Int).toNat
                rw [hincj]; omega
            · refine W_exit ?_
              refine W_seq ?_
              refine W_seq ?_
              refine W_region ?_
              refine o_asc rfl ?_
              refine ops_nil ?_
              refine W_block ?_
              have hj' : j = l.length := by omega
              subst hj'
              rw [List.drop_length, show exF fs [] = (fun i => decide (i < fs)) from by funext i; simp [exF]] at hsp77
              refine W_loop [23] [8, 23, 158, 159, 160, 161, 162, 163, 164, 165, 166, 167, 168, 169] (fun vs w' => ∃ i : Nat, vs = [.int .i64 i] ∧ i ≤ S ∧ w' = w77) (fun vs _ => match vs with | [.int _ i] => S - i.toNat | _ => 0) ⟨0, rfl, by omega, rfl⟩ ?_
              rintro J87 vs w87 ⟨i, rfl, hi, rfl⟩ -
              refine W_seq ?_
              refine W_seq ?_
              refine W_region ?_
              refine o_mvt rfl ?_
              refine o_mvt rfl ?_
              refine op_run (r_lss rfl rfl) rfl ?_
              refine ops_nil ?_
              refine W_cond_p rfl (fun h88 => ?_) (fun h88 => ?_)
              · refine W_skip ?_
                refine W_seq ?_
                refine W_block ?_
                refine W_seq ?_
                refine W_region ?_
                refine o_mvt rfl ?_
                refine o_mvt rfl ?_
                have hiS : i < S := by omega
                have hinci := inc64' i (by omega)
                refine op_call rfl rfl rfl (sp_Taken _ b _ _ _ (i : Int) hsp77) ?_; rintro v89 w89 ⟨rfl, rfl⟩
                have hc89 : ((decide (0 ≤ (i : Int)) && decide ((i : Int).toNat < fs)) != decide ((i : Int) < (fs : Int))) = false := by
                  apply neq_self
                  rw [Int.toNat_natCast, decide_eq_true (show 0 ≤ (i : Int) by omega), Bool.true_and, decide_eq_decide]; omega
                refine o_mvt rfl ?_
                refine o_mvt rfl ?_
                refine op_run (r_lss rfl rfl) rfl ?_
                refine op_run (r_neqB rfl rfl rfl) rfl ?_
                refine ops_nil ?_
                refine W_no rfl (hc89) ?_
                refine W_skip ?_
                refine W_region ?_
                refine o_mvt rfl ?_
                refine op_run (r_add rfl rfl) rfl ?_
                refine o_ast rfl ?_
                refine ops_nil ?_
                refine ⟨by (repeat (first | with_reducible exact offM_refl _ _ | refine offM_updc rfl ?_ | refine offM_upd rfl ?_ | refine offM_updo rfl ?_ | refine offM_updo_none ?_ | refine offM_head rfl rfl ?_)), ⟨i + 1, ?_, by omega, rfl⟩, ?_⟩
                · rw [← hinci]; rfl
                · show S - (IntKind.i64.wrap ((i : Int) + 1)).toNat < S - (i : Int).toNat
                  rw [hinci]; omega
              · refine W_exit ?_
                refine W_seq ?_
                refine W_region ?_
                refine o_mvt rfl ?_
                refine op_call rfl rfl rfl (sp_Free _ b _ _ _ hsp77) ?_; rintro v93 w93 ⟨rfl, rfl⟩
                refine o_mvt rfl ?_
                refine o_mvt rfl ?_
                refine op_run ((r_sub rfl rfl).val (congrArg (Value.int .i64) (wrap_i64 (by omega) (by omega)))) rfl ?_
                refine op_run (r_eql rfl rfl) rfl ?_
                refine o_ast rfl ?_
                refine ops_nil ?_
                refine W_ret ?_
                have hc94 : ((S : Int) - (cnt (fun i => decide (i < fs)) S : Int)) = (S : Int) - (fs : Int) := by
                  rw [cnt_next _ _ (by omega)]
                refine ret1 _ rfl rfl ?_
                exact ⟨congrArg Value.bool (decide_eq_true hc94), hkw77⟩
end Go.Proofs.Ytcmkfembphakiaa.B
