/-
  trie: whole, drop, New, Put.
-/
import Derived.Test.YtpiidddccmohdaaTreW2
import Derived.Test.YtpiidddccmohdaaCat
namespace Go.Proofs.Ytpiidddccmohdaa.B
open Go
set_option linter.unusedVariables false
set_option maxHeartbeats 2000000
set_option maxRecDepth 100000
attribute [local irreducible] W OpsW OpsQ retP
def onesTo (K : Nat → Tre) (k : Nat) : List Nat := (List.range k).filter fun i => !(K i).isNo
theorem onesTo_no {K : Nat → Tre} {k : Nat} (h : K k = .no) : onesTo K (k + 1) = onesTo K k := by
  unfold onesTo; rw [List.range_succ, List.filter_append, List.filter_cons, h]; simp [Tre.isNo]
theorem onesTo_is {K : Nat → Tre} {k : Nat} (h : K k ≠ .no) : onesTo K (k + 1) = onesTo K k ++ [k] := by
  unfold onesTo; rw [List.range_succ, List.filter_append, List.filter_cons, Tre.notNo.2 h]; simp
theorem onesTo_pre {K : Nat → Tre} {k : Nat} (h : k ≤ 16) : onesTo K k <+: ones K := by
  obtain ⟨j, hj⟩ : ∃ j, 16 = k + j := ⟨16 - k, by omega⟩
  unfold ones onesTo
  rw [hj, List.range_add, List.filter_append]; exact List.prefix_append _ _
theorem wholeT_two {beg : List UInt8} {K : Nat → Tre} {l k : Nat} (hk : k < 16) (h : onesTo K (k + 1) = [l, k]) : wholeT beg K = .branch beg K := by
  obtain ⟨t, ht⟩ := onesTo_pre (K := K) (k := k + 1) (by omega)
  unfold wholeT
  rw [← ht, h]; rfl
theorem wholeT_one {beg : List UInt8} {K : Nat → Tre} {l : Nat} (h : onesTo K 16 = [l]) : wholeT beg K = reB (K l) ((beg ++ [l.toUInt8]) ++ begT (K l)) := by
  unfold wholeT
  rw [show ones K = onesTo K 16 from rfl, h]
theorem tr_whole (w : World) (v : Value) (beg : List UInt8) (K : Nat → Tre) (hbl : beg.length ≤ 64) (hkl : ∀ i, (begT (K i)).length ≤ 64) (hsome : ∃ i, i < 16 ∧ K i ≠ .no) (hv : NodeIn w (.branch beg K) v) :
    Ret Try.prog 52 [v].toArray w fun r w' => NodeIn w' (wholeT beg K) r ∧ Keep All w w' := by
  have hv0 := hv
  obtain ⟨b, vb, vv, bk, ps, rfl, h1_, h2_, h3_, h4_, h5_, h6_⟩ := hv
  obtain ⟨ab, cb, rfl, hcb, hcbm⟩ := h2_.form
  refine enter (fn := Try.f52) (n := 57) Try.func52 rfl rfl (by simp) ?_
  refine W_seq ?_
  refine W_region ?_
  refine o_asc rfl ?_
  refine ops_nil ?_
  refine W_seq ?_
  refine W_region ?_
  refine o_asc rfl ?_
  refine ops_nil ?_
  refine W_seq ?_
  refine W_seq ?_
  refine W_region ?_
  refine o_mvt rfl ?_
  refine op_run (r_nilCheck rfl) rfl ?_
  refine op_run (r_fieldAddr rfl rfl rfl rfl rfl) rfl ?_
  refine op_run (r_load rfl rfl rfl (h1_.cell rfl)) rfl ?_
  refine o_mvc rfl ?_
  refine ops_nil ?_
  refine W_block ?_
  refine W_loop [3, 11] [2, 3, 4, 5, 11, 12, 13, 14, 15, 16, 17, 18, 19, 20, 21, 22, 23, 24, 25] (fun vs w' => ∃ (k : Nat) (last : Int), vs = [.int .i64 last, .int .i64 k] ∧ k ≤ 16 ∧ ((onesTo K k = [] ∧ last = -1) ∨ ∃ l : Nat, onesTo K k = [l] ∧ last = l ∧ l < 16 ∧ K l ≠ .no) ∧ Keep All w w') (fun vs _ => match vs with | [_, .int _ y] => 16 - y.toNat | _ => 0) ⟨0, -1, rfl, Nat.zero_le _, .inl ⟨rfl, rfl⟩, Keep.refl _⟩ ?_
  rintro J2 vs w2 ⟨k, last, rfl, hk, hlast, hk2⟩ -
  refine W_seq ?_
  refine W_region ?_
  refine op_run (r_lss rfl rfl) rfl ?_
  refine ops_nil ?_
  refine W_seq ?_
  refine W_cond_p rfl (fun h3 => ?_) (fun h3 => ?_)
  · refine W_skip ?_
    refine W_seq ?_
    refine W_block ?_
    refine W_seq ?_
    have hk16 : k < 16 := by omega
    obtain ⟨q, hq⟩ : ∃ q, ps[k]? = some q := ⟨_, List.getElem?_eq_getElem (by omega)⟩
    have hNq := h6_ _ _ hq
    obtain ⟨aq, rfl, haq⟩ := hNq.ptr
    have hinc := inc64' k (by omega)
    refine W_quiet (Keep All w2) (by kernel_rfl) (by kernel_rfl) (Keep.drawn _) ?_
    refine q_mvt rfl ?_
    refine q_run (fun _ _ => (r_nilCheck rfl)) rfl ?_
    refine q_run (fun _ _ => r_idxA1 rfl rfl rfl rfl (by omega) (by omega)) rfl ?_
    refine q_run (fun _ hk => r_load (v := .pointer aq) rfl rfl rfl (hk.cell ((hk2.blk' h4_ trivial).cell (by rw [Int.toNat_natCast, Nat.zero_add]; exact hq)) trivial)) rfl ?_
    refine q_ast rfl ?_
    refine q_ast rfl ?_
    refine q_nil ?_; intro w7 hk7
    refine W_block ?_
    refine W_seq ?_
    refine W_region ?_
    refine o_mvt rfl ?_
    refine op_run (r_isNilP rfl rfl) rfl ?_
    refine o_ast rfl ?_
    refine ops_nil ?_
    refine W_cond rfl (fun h8 => ?_) (fun h8 => ?_)
    · refine W_skip ?_
      refine W_region ?_
      refine op_run (r_add rfl rfl) rfl ?_
      refine o_mvt rfl ?_
      refine ops_nil ?_
      have hno : K k = .no := haq.1 (by cases aq with
        | none => rfl
        | some x => cases h8)
      refine ⟨by (repeat (first | with_reducible exact offM_refl _ _ | refine offM_updc rfl ?_ | refine offM_upd rfl ?_ | refine offM_updo rfl ?_ | refine offM_updo_none ?_ | refine offM_head rfl rfl ?_)), ⟨k + 1, last, congrArg (fun z : Int => [Value.int .i64 last, Value.int .i64 z]) hinc, by omega, by rw [onesTo_no hno]; exact hlast, hk2.trans hk7⟩, ?_⟩
      show 16 - (IntKind.i64.wrap ((k : Int) + 1)).toNat < 16 - (k : Int).toNat
      rw [hinc]; omega
    · refine W_seq ?_
      refine W_region ?_
      have hnn : K k ≠ .no := fun e => by
        have := haq.2 e
        subst this; cases h8
      refine o_mvt rfl ?_
      refine op_run (r_geq rfl rfl) rfl ?_
      refine o_ast rfl ?_
      refine ops_nil ?_
      refine W_cond_p rfl (fun h10 => ?_) (fun h10 => ?_)
      · refine W_seq ?_
        refine W_region ?_
        refine o_mvt rfl ?_
        refine o_ast rfl ?_
        refine ops_nil ?_
        refine W_ret ?_
        refine ret1 (.pointer (some ⟨b, 0, none⟩)) rfl ?_ ?_; rfl
        obtain ⟨l, hl, _⟩ : ∃ l : Nat, onesTo K k = [l] ∧ last = l := by
          rcases hlast with ⟨_, e⟩ | ⟨l, e1, e2, _⟩
          · omega
          · exact ⟨l, e1, e2⟩
        rw [wholeT_two hk16 (show onesTo K (k + 1) = [l, k] from by rw [onesTo_is hnn, hl]; rfl)]
        exact ⟨hv0.k (hk2.trans hk7), hk2.trans hk7⟩
      · refine W_region ?_
        refine o_mvt rfl ?_
        refine o_ast rfl ?_
        refine ops_nil ?_
        refine W_region ?_
        refine op_run (r_add rfl rfl) rfl ?_
        refine o_mvt rfl ?_
        refine ops_nil ?_
        have hl0 : onesTo K k = [] := by
          rcases hlast with ⟨e, _⟩ | ⟨l, _, e2, _⟩
          · exact e
          · omega
        refine ⟨by (repeat (first | with_reducible exact offM_refl _ _ | refine offM_updc rfl ?_ | refine offM_upd rfl ?_ | refine offM_updo rfl ?_ | refine offM_updo_none ?_ | refine offM_head rfl rfl ?_)), ⟨k + 1, k, congrArg (fun z : Int => [Value.int .i64 k, Value.int .i64 z]) hinc, by omega, .inr ⟨k, by rw [onesTo_is hnn, hl0]; rfl, rfl, hk16, hnn⟩, hk2.trans hk7⟩, ?_⟩
        show 16 - (IntKind.i64.wrap ((k : Int) + 1)).toNat < 16 - (k : Int).toNat
        rw [hinc]; omega
  · refine W_exit ?_
    refine W_seq ?_
    refine W_region ?_
    refine o_mvt rfl ?_
    refine op_run (r_nilCheck rfl) rfl ?_
    refine op_run (r_fieldAddr rfl rfl rfl rfl rfl) rfl ?_
    obtain rfl : k = 16 := by omega
    obtain ⟨l, hl, rfl, hl16, hln⟩ : ∃ l : Nat, onesTo K 16 = [l] ∧ last = l ∧ l < 16 ∧ K l ≠ .no := by
      rcases hlast with ⟨e, _⟩ | h
      · obtain ⟨i, hi, hin⟩ := hsome
        have := mem_ones.2 ⟨hi, hin⟩
        rw [show ones K = onesTo K 16 from rfl, e] at this; cases this
      · exact h
    obtain ⟨q, hq⟩ : ∃ q, ps[l]? = some q := ⟨_, List.getElem?_eq_getElem (by omega)⟩
    obtain ⟨bq, vqb, vqv, pk, rfl, hBq, hbq, hvq, hcase⟩ := (h6_ _ _ hq).open hln
    obtain ⟨aqb, cqb, rfl, _, _⟩ := hbq.form
    refine op_run (r_load rfl rfl rfl ((hk2.blk' h1_ trivial).cell rfl)) rfl ?_
    refine o_mvt rfl ?_
    refine op_run (r_nilCheck rfl) rfl ?_
    refine op_run (r_idxA1 rfl rfl rfl rfl (by omega) (by omega)) rfl ?_
    refine op_run (r_load (v := .pointer (some ⟨bq, 0, none⟩)) rfl rfl rfl ((hk2.blk' h4_ trivial).cell (by rw [Int.toNat_natCast, Nat.zero_add]; exact hq))) rfl ?_
    refine o_ast rfl ?_
    refine ops_nil ?_
    refine W_seq ?_
    refine W_held (fun w' => Keep All w w') (by kernel_rfl) (hk2.trans (Keep.drawn w2)) (fun hS => ?_)
    refine any_mvt 0 rfl (by kernel_rfl) (by kernel_rfl) (by kernel_rfl) rfl hS ?_
    refine any_run 1 (fun w' hS' => (r_nilCheck rfl)) rfl (by kernel_rfl) (by kernel_rfl) (by kernel_rfl) rfl hS ?_
    refine any_run 2 (fun w' hS' => (r_fieldAddr rfl rfl rfl rfl rfl)) rfl (by kernel_rfl) (by kernel_rfl) (by kernel_rfl) rfl hS ?_
    refine any_run 3 (fun w' hS' => (r_load rfl rfl rfl (((hS'.blk' h1_ trivial).cell rfl)))) rfl (by kernel_rfl) (by kernel_rfl) (by kernel_rfl) rfl hS ?_
    refine any_mvt 4 rfl (by kernel_rfl) (by kernel_rfl) (by kernel_rfl) rfl hS ?_
    refine any_run 5 (fun w' hS' => ((r_conv rfl rfl rfl).val (congrArg (Value.int .u8) (show IntKind.u8.wrap (l : Int) = ((l.toUInt8.toNat : Nat) : Int) from by rw [u8_of hl16]; exact (show IntKind.u8.wrap (l : Int) = (l : Int) % 256 from rfl).trans (by omega))))) rfl (by kernel_rfl) (by kernel_rfl) (by kernel_rfl) rfl hS ?_
    refine any_mvt 7 rfl (by kernel_rfl) (by kernel_rfl) (by kernel_rfl) rfl hS ?_
    refine any_run 8 (fun w' hS' => (r_nilCheck rfl)) rfl (by kernel_rfl) (by kernel_rfl) (by kernel_rfl) rfl hS ?_
    refine any_run 9 (fun w' hS' => (r_fieldAddr rfl rfl rfl rfl rfl)) rfl (by kernel_rfl) (by kernel_rfl) (by kernel_rfl) rfl hS ?_
    refine any_run 10 (fun w' hS' => (r_load rfl rfl rfl (((hS'.blk' hBq trivial).cell rfl)))) rfl (by kernel_rfl) (by kernel_rfl) (by kernel_rfl) rfl hS ?_
    refine any_mvt 13 rfl (by kernel_rfl) (by kernel_rfl) (by kernel_rfl) rfl hS ?_
    refine any_run 14 (fun w' hS' => (r_nilCheck rfl)) rfl (by kernel_rfl) (by kernel_rfl) (by kernel_rfl) rfl hS ?_
    refine any_run 15 (fun w' hS' => (r_fieldAddr rfl rfl rfl rfl rfl)) rfl (by kernel_rfl) (by kernel_rfl) (by kernel_rfl) rfl hS ?_
    refine any_run 16 (fun w' hS' => (r_load rfl rfl rfl (((hS'.blk' hBq trivial).cell rfl)))) rfl (by kernel_rfl) (by kernel_rfl) (by kernel_rfl) rfl hS ?_
    refine any_mvt 17 rfl (by kernel_rfl) (by kernel_rfl) (by kernel_rfl) rfl hS ?_
    refine any_run 18 (fun w' hS' => (r_nilCheck rfl)) rfl (by kernel_rfl) (by kernel_rfl) (by kernel_rfl) rfl hS ?_
    refine any_run 19 (fun w' hS' => (r_fieldAddr rfl rfl rfl rfl rfl)) rfl (by kernel_rfl) (by kernel_rfl) (by kernel_rfl) rfl hS ?_
    refine any_run 20 (fun w' hS' => (r_load rfl rfl rfl (((hS'.blk' hBq trivial).cell rfl)))) rfl (by kernel_rfl) (by kernel_rfl) (by kernel_rfl) rfl hS ?_
    refine any_one 6 (by kernel_rfl) (one_of rfl ?_)
    refine o_bs1 (v := (c8 l.toUInt8)) rfl rfl rfl rfl rfl rfl ?_; intro w21 b21 e21 hB21 hk21 hs21
    refine ops_nil ⟨hS.trans hk21, fun hS => ?_⟩
    refine any_one 11 (by kernel_rfl) (one_of rfl ?_)
    refine o_bsL ([.slice ab beg.length cb, .slice (some ⟨b21, 0, none⟩) 1 1, .slice aqb (begT (K l)).length cqb]) rfl rfl rfl rfl rfl rfl rfl rfl rfl ?_; intro w23 b23 e23 hB23 hk23 hs23
    have hS23 : Sl w23 (.slice (some ⟨b23, 0, none⟩) 3 3) 3 1 [.slice ab beg.length cb, .slice (some ⟨b21, 0, none⟩) 1 1, .slice aqb (begT (K l)).length cqb] := (Own.blk (n := 3) (sz := 1) hB23 rfl (by unfold maxLen; omega)).sl
    have hS21 : By w23 (.slice (some ⟨b21, 0, none⟩) 1 1) [l.toUInt8] := Sl.k (Own.blk (n := 1) (sz := 1) hB21 rfl (by unfold maxLen; omega)).sl hk23
    have hkl' := hkl l
    refine ops_nil ⟨hS.trans hk23, fun hS => ?_⟩
    have hgs25 : ∀ x ∈ [(Value.slice ab beg.length cb, beg), (Value.slice (some ⟨b21, 0, none⟩) 1 1, [l.toUInt8]), (Value.slice aqb (begT (K l)).length cqb, begT (K l))], By w23 x.1 x.2 := fun x hx => by
      rcases List.mem_cons.1 hx with rfl | hx
      · exact Sl.k h2_ hS
      · rcases List.mem_cons.1 hx with rfl | hx
        · exact hS21
        · rcases List.mem_cons.1 hx with rfl | hx
          · exact Sl.k hbq hS
          · cases hx
    refine any_one 12 (by kernel_rfl) (one_of rfl ?_)
    refine op_call rfl rfl rfl (sl_ConcatB w23 _ [(.slice ab beg.length cb, beg), (.slice (some ⟨b21, 0, none⟩) 1 1, [l.toUInt8]), (.slice aqb (begT (K l)).length cqb, begT (K l))] hS23 hgs25 (by simp; omega) (by simp)) ?_; rintro v25 w25 ⟨hO25, hin25, hk25⟩
    have hby25 : By w25 v25 ((beg ++ [l.toUInt8]) ++ begT (K l)) := by
      have h := OwnB.by_ hO25
      simpa using h
    obtain ⟨a25, c25, rfl, _, _⟩ := hby25.form
    refine ops_nil ⟨hS.trans hk25, fun hS => ?_⟩
    refine any_run 21 (fun w' hS' => (r_build ([.slice a25 ((beg ++ [l.toUInt8]) ++ begT (K l)).length c25, vqv, .pointer pk]) (_) ([(0, .slice a25 ((beg ++ [l.toUInt8]) ++ begT (K l)).length c25), (1, vqv), (2, .pointer pk)]) rfl rfl rfl rfl rfl ((by clear hBq hcase; cases vqv <;> (try rfl); all_goals cases hvq)))) rfl (by kernel_rfl) (by kernel_rfl) (by kernel_rfl) rfl hS ?_
    refine any_one 22 (by kernel_rfl) (one_of rfl ?_)
    refine o_box (cs := [.slice a25 ((beg ++ [l.toUInt8]) ++ begT (K l)).length c25, vqv, .pointer pk]) rfl rfl rfl ?_; intro w28 b28 e28 hB28 hk28 hs28
    refine ops_nil ⟨hS.trans hk28, fun hS => ?_⟩
    refine any_ast 23 rfl (by kernel_rfl) (by kernel_rfl) (by kernel_rfl) rfl hS ?_
    refine any_done (by kernel_rfl) ?_
    refine W_ret ?_
    refine ret1 (.pointer (some ⟨b28, 0, none⟩)) rfl ?_ ?_; rfl
    have hcase' : (pk = none ∧ ∃ beg val, K l = .leaf beg val ∧ By w28 vqv val) ∨ ∃ beg kids bk ps, K l = .branch beg kids ∧ pk = some ⟨bk, 0, none⟩ ∧ Blk w28 bk ps 88 ∧ ps.length = 16 ∧ ∀ (i : Nat) (p : Value), ps[i]? = some p → NodeIn w28 (kids i) p := by
      rcases hcase with ⟨e, beg, v0, e2, h⟩ | ⟨beg, kids, bk, ps, e1, e2, h1, h2, h3⟩
      · exact .inl ⟨e, beg, v0, e2, Sl.k h hS⟩
      · exact .inr ⟨beg, kids, bk, ps, e1, e2, hS.blk' h1 trivial, h2, fun i p hp => (h3 i p hp).k hS⟩
    rw [wholeT_one hl]
    exact ⟨NodeIn.re hln (Sl.k hbq hS) hvq hcase' (Sl.k hby25 hk28) hB28, hS⟩
def DropIH (L : Nat) : Prop := ∀ (w : World) (T : Tre) (v vr : Value) (rest val : List UInt8), L ≤ 64 → T.wf L → rest.length = L → T.get rest = some val → NodeIn w T v → By w vr rest →
  Ret Try.prog 36 [v, vr].toArray w fun r w' => NodeIn w' (dropT T rest) r ∧ Keep All w w'
theorem tr_drop1 (L : Nat) (IH : ∀ L', L' < L → DropIH L') : DropIH L := by
  intro w T v vr rest val hL64 hwf hrl hget hv hr
  have hT : T ≠ .no := fun e => by rw [e] at hget; cases hget
  obtain ⟨b, vb, vvn, pk, rfl, hB, hb, hvn, hcase⟩ := hv.open hT
  obtain ⟨ab, cb, rfl, hcb0, hcbm⟩ := hb.form
  obtain ⟨a0, c0, rfl, hc0, hcm0⟩ := hr.form
  refine enter (fn := Try.f36) (n := 39) Try.func36 rfl rfl (by simp) ?_
  refine W_seq ?_
  refine W_region ?_
  refine o_asc rfl ?_
  refine ops_nil ?_
  refine W_seq ?_
  refine W_seq ?_
  refine W_region ?_
  refine o_mvt rfl ?_
  refine op_run (r_nilCheck rfl) rfl ?_
  refine op_run (r_fieldAddr rfl rfl rfl rfl rfl) rfl ?_
  refine op_run (r_load rfl rfl rfl (hB.cell rfl)) rfl ?_
  refine op_run (r_isNilP rfl rfl) rfl ?_
  refine ops_nil ?_
  refine W_cond rfl (fun h2 => ?_) (fun h2 => ?_)
  · refine W_seq ?_
    refine W_region ?_
    refine o_asc rfl ?_
    refine ops_nil ?_
    refine W_ret ?_
    refine ret1 (.pointer none) rfl ?_ ?_; rfl
    obtain ⟨beg, v0, rfl⟩ : ∃ beg v0, T = .leaf beg v0 := by
      rcases hcase with ⟨_, beg, v0, e, _⟩ | ⟨_, _, _, _, _, e, _⟩
      · exact ⟨_, _, e⟩
      · subst e; cases h2
    exact ⟨rfl, Keep.refl _⟩
  · refine W_skip ?_
    refine W_seq ?_
    refine W_region ?_
    obtain ⟨beg, kids, bk, ps, rfl, rfl, hBk, hps, hkids⟩ : ∃ beg kids bk ps, T = .branch beg kids ∧ pk = some ⟨bk, 0, none⟩ ∧ Blk w bk ps 88 ∧ ps.length = 16 ∧ ∀ (i : Nat) (p : Value), ps[i]? = some p → NodeIn w (kids i) p := by
      rcases hcase with ⟨rfl, _⟩ | h
      · cases h2
      · exact h
    have hb : By w (.slice ab beg.length cb) beg := hb
    have hB : Blk w b [.slice ab beg.length cb, vvn, .pointer (some ⟨bk, 0, none⟩)] 69 := hB
    obtain ⟨y, rs, rfl, hg2⟩ := Tre.get_some hget
    have hbl := hwf.1
    have hy16 : y.toNat < 16 := Nat.lt_of_not_le fun h => by rw [hwf.2.2.2.1 _ h] at hg2; cases hg2
    obtain ⟨q, hq⟩ : ∃ q, ps[y.toNat]? = some q := ⟨_, List.getElem?_eq_getElem (by omega)⟩
    have hNq := hkids _ _ hq
    obtain ⟨bq, oq, cq, eq_, _, _, hcy⟩ := hr.at (by rw [List.length_append, List.length_cons]; omega)
    cases eq_
    have hgy : ((beg ++ y :: rs).map c8)[beg.length]? = some (c8 y) := by rw [List.getElem?_map, List.getElem?_append_right (Nat.le_refl _), Nat.sub_self]; rfl
    have hcl2 : beg.length < (beg ++ y :: rs).length := by rw [List.length_append, List.length_cons]; omega
    have hd2 := By.dropS (k := beg.length + 1) hr (by omega)
    rw [drop_mid] at hd2
    have hinc := inc64' beg.length (by omega)
    have hrs : rs.length = L - beg.length - 1 := by rw [List.length_append, List.length_cons] at hrl; omega
    refine o_mvt rfl ?_
    refine op_run (r_nilCheck rfl) rfl ?_
    refine op_run (r_fieldAddr rfl rfl rfl rfl rfl) rfl ?_
    refine op_run (r_load rfl rfl rfl (hB.cell rfl)) rfl ?_
    refine op_run (r_len rfl rfl rfl) rfl ?_
    refine o_ast rfl ?_
    refine ops_nil ?_
    refine W_seq ?_
    refine W_held (fun w' => Keep All w w') (by kernel_rfl) (Keep.drawn w) (fun hS => ?_)
    refine any_mvt 0 rfl (by kernel_rfl) (by kernel_rfl) (by kernel_rfl) rfl hS ?_
    refine any_mvt 1 rfl (by kernel_rfl) (by kernel_rfl) (by kernel_rfl) rfl hS ?_
    refine any_mvt 2 rfl (by kernel_rfl) (by kernel_rfl) (by kernel_rfl) rfl hS ?_
    refine any_run 3 (fun w' hS' => (r_idxS1 rfl rfl rfl rfl (by (show (0 : Int) ≤ (beg.length : Int); omega)) (by (show (beg.length : Int) < _; omega)))) rfl (by kernel_rfl) (by kernel_rfl) (by kernel_rfl) rfl hS ?_
    refine any_run 4 (fun w' hS' => (r_load (v := c8 y) rfl rfl rfl (hS'.cell (show w.cell? ⟨bq, oq + ((beg.length : Nat) : Int).toNat, none⟩ = _ from by rw [Int.toNat_natCast]; exact hcy _ _ hgy) trivial))) rfl (by kernel_rfl) (by kernel_rfl) (by kernel_rfl) rfl hS ?_
    refine any_mvt 5 rfl (by kernel_rfl) (by kernel_rfl) (by kernel_rfl) rfl hS ?_
    refine any_run 6 (fun w' hS' => (r_nilCheck rfl)) rfl (by kernel_rfl) (by kernel_rfl) (by kernel_rfl) rfl hS ?_
    refine any_run 7 (fun w' hS' => (r_fieldAddr rfl rfl rfl rfl rfl)) rfl (by kernel_rfl) (by kernel_rfl) (by kernel_rfl) rfl hS ?_
    refine any_run 8 (fun w' hS' => (r_load rfl rfl rfl (((hS'.blk' hB trivial).cell rfl)))) rfl (by kernel_rfl) (by kernel_rfl) (by kernel_rfl) rfl hS ?_
    refine any_mvt 9 rfl (by kernel_rfl) (by kernel_rfl) (by kernel_rfl) rfl hS ?_
    refine any_mvt 10 rfl (by kernel_rfl) (by kernel_rfl) (by kernel_rfl) rfl hS ?_
    refine any_run 11 (fun w' hS' => (r_idxS1 rfl rfl rfl rfl (by (show (0 : Int) ≤ (beg.length : Int); omega)) (by (show (beg.length : Int) < _; omega)))) rfl (by kernel_rfl) (by kernel_rfl) (by kernel_rfl) rfl hS ?_
    refine any_run 12 (fun w' hS' => (r_load (v := c8 y) rfl rfl rfl (hS'.cell (show w.cell? ⟨bq, oq + ((beg.length : Nat) : Int).toNat, none⟩ = _ from by rw [Int.toNat_natCast]; exact hcy _ _ hgy) trivial))) rfl (by kernel_rfl) (by kernel_rfl) (by kernel_rfl) rfl hS ?_
    refine any_run 13 (fun w' hS' => (r_nilCheck rfl)) rfl (by kernel_rfl) (by kernel_rfl) (by kernel_rfl) rfl hS ?_
    refine any_run 14 (fun w' hS' => (r_idxA1 rfl rfl rfl rfl (by omega) (by omega))) rfl (by kernel_rfl) (by kernel_rfl) (by kernel_rfl) rfl hS ?_
    refine any_run 15 (fun w' hS' => (r_load (v := q) rfl rfl rfl ((hS'.blk' hBk trivial).cell (by rw [Int.toNat_natCast, Nat.zero_add]; exact hq)))) rfl (by kernel_rfl) (by kernel_rfl) (by kernel_rfl) rfl hS ?_
    refine any_mvt 16 rfl (by kernel_rfl) (by kernel_rfl) (by kernel_rfl) rfl hS ?_
    refine any_mvt 17 rfl (by kernel_rfl) (by kernel_rfl) (by kernel_rfl) rfl hS ?_
    refine any_run 18 (fun w' hS' => ((r_add rfl rfl).val (congrArg (Value.int .i64) hinc))) rfl (by kernel_rfl) (by kernel_rfl) (by kernel_rfl) rfl hS ?_
    refine any_run 19 (fun w' hS' => (r_sliceS_lo rfl rfl rfl rfl (by omega) (by (show ((beg.length + 1 : Nat) : Int) ≤ _; omega)))) rfl (by kernel_rfl) (by kernel_rfl) (by kernel_rfl) rfl hS ?_
    refine any_one 20 (by kernel_rfl) (one_of rfl ?_)
    refine op_call rfl rfl rfl (IH (L - beg.length - 1) (by omega) _ (kids y.toNat) q _ rs val (by omega) (hwf.2.2.1 _) hrs hg2 (hNq.k hS) (Sl.k hd2 hS)) ?_; rintro v14 w14 ⟨hN14, hk14⟩
    obtain ⟨d1, d2⟩ := dropT_all (kids y.toNat) _ rs val (hwf.2.2.1 y.toNat) hrs hg2
    refine ops_nil ⟨hS.trans hk14, fun hS => ?_⟩
    refine any_one 21 (by kernel_rfl) (one_of rfl ?_)
    refine op_call rfl rfl rfl (tr_with w14 _ _ beg kids y hy16 _ (hv.k hS) hN14) ?_; rintro v16 w16 ⟨hN16, hk16⟩
    refine ops_nil ⟨hS.trans hk16, fun hS => ?_⟩
    have hb18 : ∀ i, (begT (if i = y.toNat then dropT (kids y.toNat) rs else kids i)).length ≤ 64 := fun i => by
      split
      · exact Nat.le_trans (wf_beg d1).1 (by omega)
      · exact Nat.le_trans (wf_beg (hwf.2.2.1 i)).1 (by omega)
    have hs18 : ∃ i, i < 16 ∧ (if i = y.toNat then dropT (kids y.toNat) rs else kids i) ≠ .no := by
      obtain ⟨i, j, hij, hi, hj⟩ := hwf.2.2.2.2
      have lt : ∀ i, kids i ≠ .no → i < 16 := fun i h => Nat.lt_of_not_le fun hh => h (hwf.2.2.2.1 i hh)
      by_cases e : i = y.toNat
      · exact ⟨j, lt j hj, by rw [if_neg (by omega)]; exact hj⟩
      · exact ⟨i, lt i hi, by rw [if_neg e]; exact hi⟩
    refine any_one 22 (by kernel_rfl) (one_of rfl ?_)
    refine op_call rfl rfl rfl (tr_whole w16 _ beg (fun i => if i = y.toNat then dropT (kids y.toNat) rs else kids i) (by omega) hb18 hs18 hN16) ?_; rintro v18 w18 ⟨hN18, hk18⟩
    refine ops_nil ⟨hS.trans hk18, fun hS => ?_⟩
    refine any_ast 23 rfl (by kernel_rfl) (by kernel_rfl) (by kernel_rfl) rfl hS ?_
    refine any_done (by kernel_rfl) ?_
    refine W_ret ?_
    refine ret1 v18 rfl ?_ ?_; rfl
    refine ⟨?_, hS⟩
    rw [dropT, getD_mid, drop_mid]
    have e : (fun i => if i = y.toNat then dropT (kids i) rs else kids i) = fun i => if i = y.toNat then dropT (kids y.toNat) rs else kids i := by
      funext i; split
      · rename_i h; rw [h]
      · rfl
    rw [e]; exact hN18
theorem tr_drop (L : Nat) : DropIH L := by
  induction L using Nat.strongRecOn with
  | ind L ih => exact tr_drop1 L ih
end Go.Proofs.Ytpiidddccmohdaa.B
