/-
  PackPuts's walk: both texts put the same bytes.
-/
import Derived.Test.YthjmobiidlolhaaPackFew
namespace Go.Proofs.Ythjmobiidlolhaa.B
open Go
set_option linter.unusedVariables false
attribute [local irreducible] W OpsW OpsQ retP
/-- A Thing. -/
structure Th where
  kind : Int
  n : Int
  v : Nat
  most : Nat
  b : List UInt8
def RTh (w : World) (cs : List Value) (y : Th) : Prop := ∃ vb, cs = [.int .i64 y.kind, .int .i64 y.n, .int .u64 y.v, .int .u64 y.most, vb] ∧ By w vb y.b ∧ y.v < 2 ^ 64 ∧ y.most < 2 ^ 64 ∧ -9223372036854775808 ≤ y.n ∧ y.n ≤ 9223372036854775807
theorem RTh.old {w w' : World} {A : Nat → Prop} {cs : List Value} {y : Th} (h : RTh w cs y) (hk : Keep A w w') (hA : ∀ k, k < w.heap.size → A k) : RTh w' cs y := by
  obtain ⟨vb, h1, h2, h3⟩ := h; exact ⟨vb, h1, h2.old hk hA, h3⟩
theorem SlR.old {α : Type} {w w' : World} {A : Nat → Prop} {v : Value} {sz : Nat} {R R' : List Value → α → Prop} {xs : List α} (h : SlR w v sz R xs) (hk : Keep A w w') (hA : ∀ k, k < w.heap.size → A k) (hR : ∀ cs y, R cs y → R' cs y) : SlR w' v sz R' xs := by
  obtain ⟨a, c, h0, h1, h2, h3, h4⟩ := h
  refine ⟨a, c, h0, h1, h2, h3, fun x hx i y hy => ?_⟩
  obtain ⟨cs, h5, h6, h7⟩ := h4 x hx i y hy
  exact ⟨cs, h5, fun j u hu => hk.cell (h6 j u hu) (hA _ (World.block_lt_of_cell? w _ (h6 j u hu))), hR _ _ h7⟩
abbrev Ths (w : World) (v : Value) (xs : List Th) : Prop := SlR w v 5 (RTh w) xs
theorem Ths.old {w w' : World} {A : Nat → Prop} {v : Value} {xs : List Th} (h : Ths w v xs) (hk : Keep A w w') (hA : ∀ k, k < w.heap.size → A k) : Ths w' v xs := SlR.old h hk hA fun _ _ hr => hr.old hk hA
def grt (xs : List Th) : Bool := decide (60 < xs.length) || xs.any fun y => decide (500 < y.b.length)

theorem walk_great01 (w : World) (v : Value) (xs : List Th) (hx : Ths w v xs) :
    Ret Try.prog 9 [v].toArray w fun r w' => r = .bool (grt xs) ∧ Keep All w w' := by
  have hxl := hx.len_le
  unfold maxLen at hxl
  obtain ⟨a, ca, rfl, _⟩ := hx.form
  refine enter (fn := Try.f9) (n := 19) Try.func9 rfl rfl (by simp) ?_
  refine W_seq ?_
  refine W_region ?_
  refine o_asc rfl ?_
  refine ops_nil ?_
  refine W_seq ?_
  refine W_seq ?_
  refine W_region ?_
  refine o_mvt rfl ?_
  refine op_run (r_len rfl rfl rfl) rfl ?_
  refine op_run (r_gtr rfl rfl) rfl ?_
  refine ops_nil ?_
  refine W_cond_p rfl (fun h1 => ?_) (fun h1 => ?_)
  · refine W_seq ?_
    refine W_region ?_
    refine o_asc rfl ?_
    refine ops_nil ?_
    refine W_ret ?_
    refine ret1 (.bool true) rfl ?_ ?_; rfl
    exact ⟨by unfold grt; rw [decide_eq_true (by omega)]; rfl, Keep.refl _⟩
  · refine W_skip ?_
    refine W_seq ?_
    refine W_seq ?_
    refine W_region ?_
    refine o_mvt rfl ?_
    refine op_run (r_len rfl rfl rfl) rfl ?_
    refine o_mvc rfl ?_
    refine ops_nil ?_
    refine W_block ?_
    refine W_loop [10] [2, 4, 10, 11, 12, 13, 14, 15, 16, 17, 18] (fun vs w1 => ∃ k : Nat, vs = [.int .i64 k] ∧ k ≤ xs.length ∧ (∀ i y, i < k → xs[i]? = some y → y.b.length ≤ 500) ∧ Keep All w w1) (fun vs _ => match vs with | [.int _ k] => xs.length - k.toNat | _ => 0) ⟨0, rfl, Nat.zero_le _, (fun i y h => by omega), Keep.refl _⟩ ?_
    rintro J vs w1 ⟨k, rfl, hk, hall, hk1⟩ -
    refine W_seq ?_
    refine W_region ?_
    refine op_run (r_lss rfl rfl) rfl ?_
    refine ops_nil ?_
    refine W_seq ?_
    refine W_cond_p rfl (fun h4 => ?_) (fun h4 => ?_)
    · refine W_skip ?_
      refine W_seq ?_
      refine W_block ?_
      refine W_seq ?_
      refine W_region ?_
      obtain ⟨b0, off0, c0, e0, _, hcell⟩ := SlR.at hx (by omega) (by omega)
      cases e0
      have hkx : k < xs.length := by omega
      have hget : xs[k]? = some xs[k] := by simp [hkx]
      have hinc := inc64 k (by omega)
      obtain ⟨cs, hcl, hcs, vb, rfl, hvb, hv1, hv2, _⟩ := hcell k _ hget
      obtain ⟨ab, cb, rfl, _⟩ := hvb.form
      refine op_run (r_idxS rfl rfl rfl rfl (by omega) (by omega)) rfl ?_
      refine op_run (r_loadA (_) rfl rfl rfl rfl ((fun j u hu => by rw [Addr.add_lit]; exact hk1.cell (hcs j u hu) trivial))) rfl ?_
      refine o_alloc rfl rfl rfl ?_; intro w7 b7 e7 hB7 hk7 hs7
      refine o_storeA (cs := _) rfl rfl rfl rfl hB7 (by exact Nat.le_refl 5) rfl ?_; intro w8 hB8 hk8 hs8
      refine ops_nil ?_
      refine W_seq ?_
      refine W_region ?_
      refine op_run (r_fieldAddr rfl rfl rfl rfl rfl) rfl ?_
      refine op_run (r_load rfl rfl rfl (hB8.cell rfl)) rfl ?_
      refine op_run (r_len rfl rfl rfl) rfl ?_
      refine op_run (r_gtr rfl rfl) rfl ?_
      refine ops_nil ?_
      refine W_cond_p rfl (fun h10 => ?_) (fun h10 => ?_)
      · refine W_seq ?_
        refine W_region ?_
        refine o_asc rfl ?_
        refine ops_nil ?_
        refine W_ret ?_
        refine ret1 (.bool true) rfl ?_ ?_; rfl
        refine ⟨?_, (hk1.trans hk7).new hk8 (by have := hk1.size; omega)⟩
        unfold grt; congr 1; symm
        rw [Bool.or_eq_true, List.any_eq_true]
        exact .inr ⟨xs[k], List.getElem_mem hkx, decide_eq_true (by omega)⟩
      · refine W_skip ?_
        refine W_region ?_
        refine op_run (r_add rfl rfl) rfl ?_
        refine o_mvt rfl ?_
        refine ops_nil ?_
        refine ⟨by (repeat (first | with_reducible exact offM_refl _ _ | refine offM_updc rfl ?_ | refine offM_upd rfl ?_ | refine offM_updo rfl ?_ | refine offM_updo_none ?_ | refine offM_head rfl rfl ?_)), ⟨k + 1, ?_, by omega, ?_, ?_⟩, ?_⟩
        · rw [← hinc]; rfl
        · intro i y hi hy
          by_cases e : i = k
          · subst e; rw [hget] at hy; injection hy with hy; subst hy; omega
          · exact hall i y (by omega) hy
        · exact (hk1.trans hk7).new hk8 (by have := hk1.size; omega)
        · show xs.length - (IntKind.i64.wrap ((k : Int) + 1)).toNat < xs.length - (k : Int).toNat
          rw [hinc]; omega
    · refine W_exit ?_
      refine W_seq ?_
      refine W_region ?_
      refine o_asc rfl ?_
      refine ops_nil ?_
      refine W_ret ?_
      refine ret1 (.bool false) rfl ?_ ?_; rfl
      refine ⟨?_, hk1⟩
      unfold grt; congr 1; symm
      rw [decide_eq_false (by omega), Bool.false_or, List.any_eq_false]
      intro y hy
      obtain ⟨i, hi, rfl⟩ := List.getElem_of_mem hy
      have := hall i xs[i] (by omega) (by simp [hi])
      simp; omega

def thB (y : Th) : List UInt8 := if y.kind = 0 then encN y.v else encB y.b
theorem thB_len (y : Th) (h : y.v < 2 ^ 64) (hb : y.b.length ≤ 500) : (thB y).length ≤ 510 := by
  unfold thB; split
  · have := encN_len10 h; omega
  · have := encB_len y.b (by omega); omega

set_option maxHeartbeats 1000000 in
theorem walk_PackPuts (w : World) (v : Value) (xs : List Th) (hx : Ths w v xs) :
    Ret Try.prog 4 [v].toArray w fun r w' => r = .bool true ∧ Keep All w w' := by
  obtain ⟨a, ca, rfl, _⟩ := hx.form
  refine enter (fn := Try.f4) (n := 43) Try.func4 rfl rfl (by simp) ?_
  refine W_seq ?_
  refine W_region ?_
  refine o_asc rfl ?_
  refine ops_nil ?_
  refine W_seq ?_
  refine W_seq ?_
  refine W_region ?_
  refine op_call rfl rfl rfl (speaks01 w) ?_; rintro v1 w1 ⟨rfl, hk1⟩
  refine op_run (r_not rfl) rfl ?_
  refine ops_nil ?_
  refine W_no rfl (rfl) ?_
  refine W_skip ?_
  refine W_seq ?_
  refine W_seq ?_
  refine W_region ?_
  refine o_mvt rfl ?_
  refine op_call rfl rfl rfl (walk_great01 w1 _ xs (hx.old hk1 (fun _ _ => trivial))) ?_; rintro v4 w4 ⟨rfl, hk4⟩
  refine ops_nil ?_
  refine W_cond rfl (fun h5 => ?_) (fun h5 => ?_)
  · refine W_seq ?_
    refine W_region ?_
    refine o_asc rfl ?_
    refine ops_nil ?_
    refine W_ret ?_
    refine ret1 (.bool true) rfl ?_ ?_; rfl
    exact ⟨rfl, hk1.trans hk4⟩
  · refine W_skip ?_
    refine W_seq ?_
    refine W_region ?_
    have hsm : xs.length ≤ 60 ∧ ∀ y ∈ xs, y.b.length ≤ 500 := by
      unfold grt at h5
      rw [Bool.or_eq_false_iff, List.any_eq_false] at h5
      have h6 := of_decide_eq_false h5.1
      exact ⟨by omega, fun y hy => by have := h5.2 y hy; simp at this; omega⟩
    obtain ⟨hs1, hs2⟩ := hsm
    clear h5
    refine o_bs0 rfl rfl rfl ?_; intro w7 b7 e7 hB7 hk7 hs7
    refine o_bs0 rfl rfl rfl ?_; intro w8 b8 e8 hB8 hk8 hs8
    refine o_ast rfl ?_
    refine o_ast rfl ?_
    refine ops_nil ?_
    refine W_seq ?_
    refine W_seq ?_
    refine W_region ?_
    refine o_mvt rfl ?_
    refine op_run (r_len rfl rfl rfl) rfl ?_
    refine o_mvc rfl ?_
    refine ops_nil ?_
    refine W_block ?_
    have hko : Keep All w w8 := ((hk1.trans hk4).trans hk7).trans hk8
    refine W_loop [3, 4, 15] [2, 3, 4, 6, 15, 16, 17, 18, 19, 20, 21, 22, 23, 24, 25, 26, 27, 28, 29, 30, 31, 32, 33, 34, 35, 36, 37, 38, 39, 40, 41, 42] (fun vs w9 => ∃ (p q : Value) (zs : List UInt8) (k : Nat), vs = [p, q, .int .i64 k] ∧ k ≤ xs.length ∧ OwnB w9 5 p zs ∧ OwnB w9 5 q zs ∧ (∀ b, p.ownBlock = some b → w.heap.size ≤ b ∧ q.ownBlock ≠ some b) ∧ InB (fun b => w.heap.size ≤ b) q ∧ zs.length ≤ 510 * k ∧ Keep All w w9) (fun vs _ => match vs with | [_, _, .int _ k] => xs.length - k.toNat | _ => 0) ?_ ?_
    · refine ⟨_, _, [], 0, rfl, Nat.zero_le _, Own.blk (n := 0) (hk8.get hB7 trivial) rfl (by decide), Own.blk (n := 0) hB8 rfl (by decide), ?_, ?_, by simp, hko⟩
      · intro b hb
        have hb : b7 = b := Option.some.inj hb
        have := (hk1.trans hk4).size
        refine ⟨by omega, fun h => ?_⟩
        have h : b8 = b := Option.some.inj h
        omega
      · intro b hb
        have hb : b8 = b := Option.some.inj hb
        have := ((hk1.trans hk4).trans hk7).size
        omega
    rintro J vs w9 ⟨p, q, zs, k, rfl, hk, hp, hq, hpb, hqb, hzl, hk9⟩ -
    refine W_seq ?_
    refine W_region ?_
    refine op_run (r_lss rfl rfl) rfl ?_
    refine ops_nil ?_
    refine W_seq ?_
    refine W_cond_p rfl (fun h10 => ?_) (fun h10 => ?_)
    · refine W_skip ?_
      refine W_seq ?_
      refine W_block ?_
      refine W_seq ?_
      refine W_region ?_
      obtain ⟨b0, off0, c0, e0, _, hcell⟩ := SlR.at hx (by omega) (by omega)
      cases e0
      have hkx : k < xs.length := by omega
      have hget : xs[k]? = some xs[k] := by simp [hkx]
      have hinc := inc64 k (by omega)
      obtain ⟨cs, hcl, hcs, vb, rfl, hvb, hv1, hv2, _⟩ := hcell k _ hget
      obtain ⟨ab, cb, rfl, _⟩ := hvb.form
      have hb500 := hs2 xs[k] (List.getElem_mem hkx)
      have hthl := thB_len xs[k] hv1 hb500
      refine op_run (r_idxS rfl rfl rfl rfl (by omega) (by omega)) rfl ?_
      refine op_run (r_loadA (_) rfl rfl rfl rfl ((fun j u hu => by rw [Addr.add_lit]; exact hk9.cell (hcs j u hu) trivial))) rfl ?_
      refine o_alloc rfl rfl rfl ?_; intro w13 b13 e13 hB13 hk13 hs13
      refine o_storeA (cs := _) rfl rfl rfl rfl hB13 (by exact Nat.le_refl 5) rfl ?_; intro w14 hB14 hk14 hs14
      refine ops_nil ?_
      refine W_seq ?_
      refine W_seq ?_
      refine W_region ?_
      refine op_run (r_fieldAddr rfl rfl rfl rfl rfl) rfl ?_
      refine op_run (r_load rfl rfl rfl (hB14.cell rfl)) rfl ?_
      have hkl : Keep All w w14 := (hk9.trans hk13).new hk14 (by have := hk9.size; omega)
      have hB14 : Blk w14 b13 [.int .i64 xs[k].kind, .int .i64 xs[k].n, .int .u64 xs[k].v, .int .u64 xs[k].most, .slice ab xs[k].b.length cb] 30 := hB14
      have hk914 : Keep All w9 w14 := (Keep.refl w9).trans hk13 |>.new hk14 (by omega)
      have hp1 := hp.keep hk914 (fun _ _ => trivial)
      have hq1 := hq.keep hk914 (fun _ _ => trivial)
      have hp9 := hp.lt
      have hq9 := hq.lt
      have hz9 := hk914.size
      refine op_run (r_eql rfl rfl) rfl ?_
      refine ops_nil ?_
      refine W_cond_p rfl (fun h16 => ?_) (fun h16 => ?_)
      · refine W_held (fun w' => Blk w' b13 [.int .i64 xs[k].kind, .int .i64 xs[k].n, .int .u64 xs[k].v, .int .u64 xs[k].most, .slice ab xs[k].b.length cb] 30) (by kernel_rfl) (hB14) (fun hS => ?_)
        refine any_mvt 0 rfl (by kernel_rfl) (by kernel_rfl) (by kernel_rfl) rfl hS ?_
        refine any_run 1 (fun w' hS' => (r_fieldAddr rfl rfl rfl rfl rfl)) rfl (by kernel_rfl) (by kernel_rfl) (by kernel_rfl) rfl hS ?_
        refine any_run 2 (fun w' hS' => r_load rfl rfl rfl (hS'.cell rfl)) rfl (by kernel_rfl) (by kernel_rfl) (by kernel_rfl) rfl hS ?_
        refine any_mvt 4 rfl (by kernel_rfl) (by kernel_rfl) (by kernel_rfl) rfl hS ?_
        refine any_run 5 (fun w' hS' => (r_fieldAddr rfl rfl rfl rfl rfl)) rfl (by kernel_rfl) (by kernel_rfl) (by kernel_rfl) rfl hS ?_
        refine any_run 6 (fun w' hS' => r_load rfl rfl rfl (hS'.cell rfl)) rfl (by kernel_rfl) (by kernel_rfl) (by kernel_rfl) rfl hS ?_
        refine any_one 3 (by kernel_rfl) (one_of rfl ?_)
        have hp2 := hp1.keep (Keep.drawn w14) (fun _ _ => trivial)
        have hq2 := hq1.keep (Keep.drawn w14) (fun _ _ => trivial)
        have hel := encN_len10 hv1
        refine op_call rfl rfl rfl (pack_Number _ p zs xs[k].v hv1 hp2 (by omega)) ?_; rintro v20 w20 ⟨ho1, hk1', hb1'⟩
        have hkw1 := Keep.own (hkl.trans (Keep.drawn w14)) hk1' (fun b hb _ => (hpb b hb).1)
        have hz1 := hk1'.size
        have hq3 := hq2.keep hk1' (fun b hb h => (hpb b h.symm).2 hb)
        refine ops_nil ⟨hk1'.get hS (fun e => by have := hp9 b13 e.symm; omega), fun hS => ?_⟩
        refine any_one 7 (by kernel_rfl) (one_of rfl ?_)
        refine op_call rfl rfl rfl (ref01_Number w20 q zs xs[k].v hv1 hq3 (by omega)) ?_; rintro v22 w22 ⟨ho2, hk2', hb2'⟩
        refine ops_nil ⟨hk2'.get hS (fun e => by have := hq9 b13 e.symm; omega), fun hS => ?_⟩
        refine any_ast 8 rfl (by kernel_rfl) (by kernel_rfl) (by kernel_rfl) rfl hS ?_
        refine any_ast 9 rfl (by kernel_rfl) (by kernel_rfl) (by kernel_rfl) rfl hS ?_
        refine any_done (by kernel_rfl) ?_
        refine W_seq ?_
        refine W_region ?_
        refine o_mvt rfl ?_
        refine o_mvt rfl ?_
        have hqp : ∀ b, v20.ownBlock = some b → q.ownBlock ≠ some b := fun b hb h => by
          rcases hb1' b hb with h1 | h1
          · exact (hpb b h1).2 h
          · have := hq9 b h
            simp only at h1
            omega
        have hby1 := ho1.by_.keep hk2' (fun b hb h => hqp b hb h.symm)
        refine op_call rfl rfl rfl (ref01_Same w22 v20 v22 (zs ++ encN xs[k].v) (zs ++ encN xs[k].v) hby1 ho2.by_) ?_; rintro v24 w24 ⟨rfl, hk3'⟩
        refine op_run (r_not rfl) rfl ?_
        refine ops_nil ?_
        refine W_no rfl ((by simp)) ?_
        refine W_skip ?_
        refine W_region ?_
        refine op_run (r_add rfl rfl) rfl ?_
        refine o_mvt rfl ?_
        refine ops_nil ?_
        have hkw2 := (Keep.own hkw1 hk2' (fun b hb _ => hqb b hb)).trans hk3'
        refine ⟨by (repeat (first | with_reducible exact offM_refl _ _ | refine offM_updc rfl ?_ | refine offM_upd rfl ?_ | refine offM_updo rfl ?_ | refine offM_updo_none ?_ | refine offM_head rfl rfl ?_)), ⟨v20, v22, zs ++ encN xs[k].v, k + 1, ?_, by omega, (Own.keep (ho1.keep hk2' (fun b hb h => hqp b hb h.symm)) hk3' (fun _ _ => trivial)), ho2.keep hk3' (fun _ _ => trivial), ?_, ?_, ?_, hkw2⟩, ?_⟩
        · rw [← hinc]; rfl
        · intro b hb
          refine ⟨?_, fun h => ?_⟩
          · rcases hb1' b hb with h1 | h1
            · exact (hpb b h1).1
            · have := hkl.size; simp only at h1; omega
          · rcases hb2' b h with h1 | h1
            · exact hqp b hb h1
            · have := ho1.lt b hb; omega
        · intro b hb
          rcases hb2' b hb with h1 | h1
          · exact hqb b h1
          · have := hkw1.size; omega
        · simp only [List.length_append]; omega
        · show xs.length - (IntKind.i64.wrap ((k : Int) + 1)).toNat < xs.length - (k : Int).toNat
          rw [hinc]; omega
      · refine W_held (fun w' => Blk w' b13 [.int .i64 xs[k].kind, .int .i64 xs[k].n, .int .u64 xs[k].v, .int .u64 xs[k].most, .slice ab xs[k].b.length cb] 30) (by kernel_rfl) (hB14) (fun hS => ?_)
        refine any_mvt 0 rfl (by kernel_rfl) (by kernel_rfl) (by kernel_rfl) rfl hS ?_
        refine any_run 1 (fun w' hS' => (r_fieldAddr rfl rfl rfl rfl rfl)) rfl (by kernel_rfl) (by kernel_rfl) (by kernel_rfl) rfl hS ?_
        refine any_run 2 (fun w' hS' => r_load rfl rfl rfl (hS'.cell rfl)) rfl (by kernel_rfl) (by kernel_rfl) (by kernel_rfl) rfl hS ?_
        refine any_mvt 4 rfl (by kernel_rfl) (by kernel_rfl) (by kernel_rfl) rfl hS ?_
        refine any_run 5 (fun w' hS' => (r_fieldAddr rfl rfl rfl rfl rfl)) rfl (by kernel_rfl) (by kernel_rfl) (by kernel_rfl) rfl hS ?_
        refine any_run 6 (fun w' hS' => r_load rfl rfl rfl (hS'.cell rfl)) rfl (by kernel_rfl) (by kernel_rfl) (by kernel_rfl) rfl hS ?_
        refine any_one 3 (by kernel_rfl) (one_of rfl ?_)
        have hp2 := hp1.keep (Keep.drawn w14) (fun _ _ => trivial)
        have hq2 := hq1.keep (Keep.drawn w14) (fun _ _ => trivial)
        have hel := encB_len xs[k].b (by omega)
        refine op_call rfl rfl rfl (pack_Bytes _ p _ zs xs[k].b hp2 (fun w' hk => hvb.old (Keep.own (hkl.trans (Keep.drawn w14)) hk (fun b hb _ => (hpb b hb).1)) (fun _ _ => trivial)) (by omega)) ?_; rintro v31 w31 ⟨ho1, hk1', hb1'⟩
        have hkw1 := Keep.own (hkl.trans (Keep.drawn w14)) hk1' (fun b hb _ => (hpb b hb).1)
        have hz1 := hk1'.size
        have hq3 := hq2.keep hk1' (fun b hb h => (hpb b h.symm).2 hb)
        refine ops_nil ⟨hk1'.get hS (fun e => by have := hp9 b13 e.symm; omega), fun hS => ?_⟩
        refine any_one 7 (by kernel_rfl) (one_of rfl ?_)
        refine op_call rfl rfl rfl (ref01_Bytes w31 q _ zs xs[k].b hq3 (fun w' hk => hvb.old (Keep.own hkw1 hk (fun b hb _ => hqb b hb)) (fun _ _ => trivial)) (by omega)) ?_; rintro v33 w33 ⟨ho2, hk2', hb2'⟩
        refine ops_nil ⟨hk2'.get hS (fun e => by have := hq9 b13 e.symm; omega), fun hS => ?_⟩
        refine any_ast 8 rfl (by kernel_rfl) (by kernel_rfl) (by kernel_rfl) rfl hS ?_
        refine any_ast 9 rfl (by kernel_rfl) (by kernel_rfl) (by kernel_rfl) rfl hS ?_
        refine any_done (by kernel_rfl) ?_
        refine W_seq ?_
        refine W_region ?_
        refine o_mvt rfl ?_
        refine o_mvt rfl ?_
        have hqp : ∀ b, v31.ownBlock = some b → q.ownBlock ≠ some b := fun b hb h => by
          rcases hb1' b hb with h1 | h1
          · exact (hpb b h1).2 h
          · have := hq9 b h
            simp only at h1
            omega
        have hby1 := ho1.by_.keep hk2' (fun b hb h => hqp b hb h.symm)
        refine op_call rfl rfl rfl (ref01_Same w33 v31 v33 (zs ++ encB xs[k].b) (zs ++ encB xs[k].b) hby1 ho2.by_) ?_; rintro v35 w35 ⟨rfl, hk3'⟩
        refine op_run (r_not rfl) rfl ?_
        refine ops_nil ?_
        refine W_no rfl ((by simp)) ?_
        refine W_skip ?_
        refine W_region ?_
        refine op_run (r_add rfl rfl) rfl ?_
        refine o_mvt rfl ?_
        refine ops_nil ?_
        have hkw2 := (Keep.own hkw1 hk2' (fun b hb _ => hqb b hb)).trans hk3'
        refine ⟨by (repeat (first | with_reducible exact offM_refl _ _ | refine offM_updc rfl ?_ | refine offM_upd rfl ?_ | refine offM_updo rfl ?_ | refine offM_updo_none ?_ | refine offM_head rfl rfl ?_)), ⟨v31, v33, zs ++ encB xs[k].b, k + 1, ?_, by omega, (Own.keep (ho1.keep hk2' (fun b hb h => hqp b hb h.symm)) hk3' (fun _ _ => trivial)), ho2.keep hk3' (fun _ _ => trivial), ?_, ?_, ?_, hkw2⟩, ?_⟩
        · rw [← hinc]; rfl
        · intro b hb
          refine ⟨?_, fun h => ?_⟩
          · rcases hb1' b hb with h1 | h1
            · exact (hpb b h1).1
            · have := hkl.size; simp only at h1; omega
          · rcases hb2' b h with h1 | h1
            · exact hqp b hb h1
            · have := ho1.lt b hb; omega
        · intro b hb
          rcases hb2' b hb with h1 | h1
          · exact hqb b h1
          · have := hkw1.size; omega
        · simp only [List.length_append]; omega
        · show xs.length - (IntKind.i64.wrap ((k : Int) + 1)).toNat < xs.length - (k : Int).toNat
          rw [hinc]; omega
    · refine W_exit ?_
      refine W_seq ?_
      refine W_region ?_
      refine o_asc rfl ?_
      refine ops_nil ?_
      refine W_ret ?_
      refine ret1 (.bool true) rfl ?_ ?_; rfl
      exact ⟨rfl, hk9⟩
end Go.Proofs.Ythjmobiidlolhaa.B
