/-
  sha: the primes, and the tables.
-/
import Derived.Test.YtnjepmdgbkhoaaaSha3
import Derived.Test.YtnjepmdgbkhoaaaGrid
import Derived.Test.YtnjepmdgbkhoaaaGate
import Derived.Test.YtnjepmdgbkhoaaaTy64
namespace Go.Proofs.Ytnjepmdgbkhoaaa.B
open Go
set_option linter.unusedVariables false
set_option maxHeartbeats 2000000
set_option maxRecDepth 100000
attribute [local irreducible] W OpsW OpsQ retP
theorem pr_closure (w : World) (q pb p : Nat) (hq : 0 < q) (hB : Blk w pb [.int .u64 p] 54) :
    Ret Try.prog 51 [.int .u64 q, .pointer (some ⟨pb, 0, none⟩)].toArray w fun r w' => r = .bool (decide (p % q = 0)) ∧ w' = w := by
  refine enter (fn := Try.f51) (n := 8) Try.func51 rfl rfl (by simp) ?_
  refine W_seq ?_
  refine W_region ?_
  refine o_asc rfl ?_
  refine ops_nil ?_
  refine W_seq ?_
  refine W_region ?_
  refine op_run (r_load rfl rfl rfl (hB.cell rfl)) rfl ?_
  refine o_mvt rfl ?_
  refine op_run ((r_rem rfl rfl (by omega)).val (congrArg (Value.int .u64) (show (p : Int).tmod (q : Int) = ((p % q : Nat) : Int) from (Int.ofNat_tmod p q).symm))) rfl ?_
  refine op_run (r_eql rfl rfl) rfl ?_
  refine o_ast rfl ?_
  refine ops_nil ?_
  refine W_ret ?_
  refine ret1 (.bool (decide (((p % q : Nat) : Int) = 0))) rfl ?_ ?_; rfl
  exact ⟨congrArg Value.bool (by rw [decide_eq_decide]; omega), rfl⟩

theorem sl_Index (w : World) (v : Value) (us : List Nat) (pf : Nat → Bool) (fid : FuncId) (first captured : Array Value) (hfn : isFn Try.prog fid = true) (hv : Sl w v us.length 1 (us.map c64)) (hl : us.length ≤ 1000000)
    (hf : ∀ u ∈ us, Ret Try.prog fid (first ++ #[.int .u64 u] ++ captured) w fun r w' => r = .bool (pf u) ∧ w' = w) :
    Ret Try.prog 54 [v, .func (.func fid) first captured].toArray w fun r w' => ∃ i : Int, r = .int .i64 i ∧ (0 ≤ i ↔ us.any pf = true) ∧ w' = w := by
  obtain ⟨a, c, rfl, _, _⟩ := hv.form
  refine enter (fn := Try.f54) (n := 19) Try.func54 rfl rfl (by simp) ?_
  refine W_seq ?_
  refine W_region ?_
  refine o_asc rfl ?_
  refine ops_nil ?_
  refine W_seq ?_
  refine W_seq ?_
  refine W_region ?_
  refine o_mvt rfl ?_
  refine op_run (r_len rfl rfl rfl) rfl ?_
  refine o_mvc rfl ?_
  refine ops_nil ?_
  refine W_block ?_
  refine W_loop [8] [4, 5, 8, 9, 10, 11, 12, 13, 14, 15, 16, 17, 18] (fun vs w' => ∃ k : Nat, vs = [.int .i64 k] ∧ k ≤ us.length ∧ (us.take k).any pf = false ∧ w' = w) (fun vs _ => match vs with | [.int _ k] => us.length - k.toNat | _ => 0) ⟨0, rfl, by omega, by simp, rfl⟩ ?_
  rintro J vs w1 ⟨k, rfl, hk, hno, rfl⟩ -
  refine W_seq ?_
  refine W_region ?_
  refine op_run (r_lss rfl rfl) rfl ?_
  refine ops_nil ?_
  refine W_seq ?_
  refine W_cond_p rfl (fun h2 => ?_) (fun h2 => ?_)
  · refine W_skip ?_
    refine W_seq ?_
    refine W_block ?_
    refine W_seq ?_
    refine W_region ?_
    refine o_mvt rfl ?_
    refine o_ast rfl ?_
    refine ops_nil ?_
    refine W_seq ?_
    refine W_region ?_
    refine o_mvt rfl ?_
    refine o_mvt rfl ?_
    refine o_mvt rfl ?_
    have hku : k < us.length := by omega
    have hinc := inc64' k (by omega)
    obtain ⟨b0, off0, c0, e0, _, _, hcell⟩ := hv.at (by omega)
    cases e0
    have hck := hcell k (c64 us[k]) (by simp [hku])
    have hfk := hf us[k] (by simp)
    refine op_run (r_idxS1 rfl rfl rfl ti_u64 (by omega) (by omega)) rfl ?_
    refine op_run (r_load rfl rfl rfl (by rw [Int.toNat_natCast]; exact hck)) rfl ?_
    refine op_call rfl hfn rfl hfk ?_; rintro v5 w5 ⟨rfl, rfl⟩
    refine ops_nil ?_
    refine W_cond rfl (fun h6 => ?_) (fun h6 => ?_)
    · refine W_seq ?_
      refine W_region ?_
      refine o_mvt rfl ?_
      refine o_ast rfl ?_
      refine ops_nil ?_
      refine W_ret ?_
      refine ret1 (.int .i64 k) rfl ?_ ?_; rfl
      exact ⟨k, rfl, ⟨fun _ => List.any_eq_true.2 ⟨us[k], by simp, h6⟩, fun _ => by omega⟩, rfl⟩
    · refine W_skip ?_
      refine W_region ?_
      refine op_run (r_add rfl rfl) rfl ?_
      refine o_mvt rfl ?_
      refine ops_nil ?_
      refine ⟨by (repeat (first | with_reducible exact offM_refl _ _ | refine offM_updc rfl ?_ | refine offM_upd rfl ?_ | refine offM_updo rfl ?_ | refine offM_updo_none ?_ | refine offM_head rfl rfl ?_)), ⟨k + 1, ?_, by omega, ?_, rfl⟩, ?_⟩
      · rw [← hinc]; rfl
      · rw [List.take_succ_eq_append_getElem hku, List.any_append, hno]; simp [h6]
      · show us.length - (IntKind.i64.wrap ((k : Int) + 1)).toNat < us.length - (k : Int).toNat
        rw [hinc]; omega
  · refine W_exit ?_
    refine W_seq ?_
    refine W_region ?_
    refine o_asc rfl ?_
    refine ops_nil ?_
    refine W_ret ?_
    refine ret1 (.int .i64 (-1)) rfl ?_ ?_; rfl
    have e : k = us.length := by omega
    subst e
    rw [List.take_length] at hno
    exact ⟨-1, rfl, ⟨fun h => by omega, fun h => by rw [hno] at h; cases h⟩, rfl⟩

theorem sl_Contains (w : World) (v : Value) (us : List Nat) (pf : Nat → Bool) (fid : FuncId) (first captured : Array Value) (hfn : isFn Try.prog fid = true) (hv : Sl w v us.length 1 (us.map c64)) (hl : us.length ≤ 1000000)
    (hf : ∀ u ∈ us, Ret Try.prog fid (first ++ #[.int .u64 u] ++ captured) w fun r w' => r = .bool (pf u) ∧ w' = w) :
    Ret Try.prog 50 [v, .func (.func fid) first captured].toArray w fun r w' => r = .bool (us.any pf) ∧ w' = w := by
  refine enter (fn := Try.f50) (n := 9) Try.func50 rfl rfl (by simp) ?_
  refine W_seq ?_
  refine W_region ?_
  refine o_asc rfl ?_
  refine ops_nil ?_
  refine W_seq ?_
  refine W_region ?_
  refine o_mvt rfl ?_
  refine o_mvt rfl ?_
  refine op_call rfl rfl rfl (sl_Index w v us pf fid first captured hfn hv hl hf) ?_; rintro v1 w1 ⟨i, rfl, hi, rfl⟩
  refine op_run (r_geq rfl rfl) rfl ?_
  refine o_ast rfl ?_
  refine ops_nil ?_
  refine W_ret ?_
  refine ret1 (.bool (decide (0 ≤ i))) rfl ?_ ?_; rfl
  refine ⟨congrArg Value.bool ?_, rfl⟩
  rw [Bool.eq_iff_iff, decide_eq_true_iff]; exact hi
/-- The primes among 2 .. k + 1. -/
def prN : Nat → List Nat
  | 0 => []
  | k + 1 => if (prN k).any (fun q => decide ((k + 2) % q = 0)) then prN k else prN k ++ [k + 2]
theorem prN_ge : ∀ k, ∀ q ∈ prN k, 2 ≤ q ∧ q ≤ k + 1
  | 0, q, h => by cases h
  | k + 1, q, h => by
    rw [prN] at h
    split at h
    · have := prN_ge k q h; omega
    · rw [List.mem_append, List.mem_singleton] at h
      rcases h with h | rfl
      · have := prN_ge k q h; omega
      · omega
theorem prN_pre : ∀ k d, prN k <+: prN (k + d)
  | k, 0 => List.prefix_refl _
  | k, d + 1 => by
    refine List.IsPrefix.trans (prN_pre k d) ?_
    rw [← Nat.add_assoc, prN]
    split
    · exact List.prefix_refl _
    · exact List.prefix_append _ _
def prL : List Nat := [2, 3, 5, 7, 11, 13, 17, 19, 23, 29, 31, 37, 41, 43, 47, 53, 59, 61, 67, 71, 73, 79, 83, 89, 97, 101, 103, 107, 109, 113, 127, 131, 137, 139, 149, 151, 157, 163, 167, 173, 179, 181, 191, 193, 197, 199, 211, 223, 227, 229, 233, 239, 241, 251, 257, 263, 269, 271, 277, 281, 283, 293, 307, 311]
theorem prN_310 : prN 310 = prL := by decide +kernel
theorem prN_end {k : Nat} (hk : k ≤ 310) (h : 64 ≤ (prN k).length) : prN k = prL := by
  have h1 := prN_pre k (310 - k)
  rw [Nat.add_sub_cancel' hk, prN_310] at h1
  exact h1.eq_of_length (Nat.le_antisymm h1.length_le h)
theorem prN_few {k : Nat} (hk : k ≤ 310) (h : (prN k).length < 64) : k < 310 := by
  rcases Nat.lt_or_ge k 310 with h1 | h1
  · exact h1
  · have e : k = 310 := by omega
    subst e
    rw [prN_310] at h
    exact absurd h (by decide)

theorem sh_primes (w : World) : Ret Try.prog 46 [.int .i64 64].toArray w fun r w' => Own w' 54 1 r prL.length (prL.map c64) ∧ InB (fun b => w.heap.size ≤ b) r ∧ Keep All w w' := by
  refine enter (fn := Try.f46) (n := 20) Try.func46 rfl rfl (by simp) ?_
  refine W_seq ?_
  refine W_region ?_
  refine o_asc rfl ?_
  refine ops_nil ?_
  refine W_seq ?_
  refine W_seq ?_
  refine W_region ?_
  refine o_alloc ti_u64 rfl rfl ?_; intro w1 b1 e1 hB1 hk1 hs1
  refine o_store (v := (.int .u64 2)) rfl rfl rfl rfl hB1 (by exact Nat.le_refl _) rfl ?_; intro w2 hB2 hk2 hs2
  refine ops_nil ?_
  refine W_block ?_
  refine W_loop [2, 3] [2, 3, 4, 5, 6, 7, 8, 9, 10, 11, 12, 13, 14, 15, 16, 17, 18] (fun vs w' => ∃ (vo : Value) (pb k : Nat), vs = [vo, .pointer (some ⟨pb, 0, none⟩)] ∧ k ≤ 310 ∧ Own w' 54 1 vo (prN k).length ((prN k).map c64) ∧ InB (fun b => w.heap.size ≤ b ∧ b ≠ pb) vo ∧ Blk w' pb [.int .u64 ((k + 2 : Nat) : Int)] 54 ∧ w.heap.size ≤ pb ∧ Keep All w w') (fun vs w => match vs with | [_, .pointer (some a)] => (match w.cell? a with | some (.int _ p) => 400 - p.toNat | _ => 0) | _ => 0) ⟨.slice none 0 0, b1, 0, rfl, by omega, own_nil _ _ _, InB.nil, hB2, by omega, hk1.new hk2 (by omega)⟩ ?_
  rintro J vs w3 ⟨vo, pb, k, rfl, hk, hown, hin, hB3, hpb, hkw⟩ -
  obtain ⟨ao, co, rfl, _, _⟩ := hown.form
  refine W_seq ?_
  refine W_seq ?_
  refine W_region ?_
  refine o_mvt rfl ?_
  refine op_run (r_len rfl rfl rfl) rfl ?_
  refine o_mvt rfl ?_
  refine op_run (r_lss rfl rfl) rfl ?_
  refine ops_nil ?_
  have hc3 := hB3.cell (o := 0) rfl
  refine W_cond_p rfl (fun h4 => ?_) (fun h4 => ?_)
  · refine W_skip ?_
    refine W_seq ?_
    refine W_block ?_
    refine W_seq ?_
    refine W_region ?_
    refine o_mvt rfl ?_
    refine op_run (r_makeFunc) rfl ?_
    have hk310 : k < 310 := prN_few hk (by omega)
    refine op_call rfl rfl rfl (sl_Contains w3 _ (prN k) (fun q => decide ((k + 2) % q = 0)) 51 #[] #[.pointer (some ⟨pb, 0, none⟩)] rfl hown.sl (by omega) (fun u hu => by have h := pr_closure w3 u pb (k + 2) (by have := prN_ge k u hu; omega) hB3; simpa using h)) ?_; rintro v5 w5 ⟨rfl, rfl⟩
    refine op_run (r_not rfl) rfl ?_
    refine ops_nil ?_
    refine W_cond rfl (fun h6 => ?_) (fun h6 => ?_)
    · refine W_region ?_
      refine o_mvt rfl ?_
      refine op_run (r_load rfl rfl rfl (hB3.cell rfl)) rfl ?_
      refine o_bs1 (v := (c64 (k + 2))) rfl rfl rfl rfl rfl rfl ?_; intro w8 b8 e8 hB8 hk8 hs8
      refine o_app1 (u := c64 (k + 2)) rfl rfl hB8 rfl rfl ti_u64 rfl (hown.keep hk8 (fun _ _ => trivial)) (by unfold maxLen; omega) (by omega) rfl ?_; intro v9 w9 hown9 hk9 hb9
      have hB9 := hk9.blk' (hk8.blk' hB3 trivial) (show some pb ≠ (Value.slice ao (prN k).length co).ownBlock from fun e => (hin pb e.symm).2 rfl)
      have hkw9 : Keep All w w9 := Keep.own (hkw.trans hk8) hk9 (fun b hb _ => (hin b hb).1)
      refine o_ast rfl ?_
      refine ops_nil ?_
      refine W_seq ?_
      refine W_seq ?_
      refine W_region ?_
      refine op_run (r_load rfl rfl rfl (hB9.cell rfl)) rfl ?_
      refine ops_nil ?_
      refine W_region ?_
      refine o_alloc ti_u64 rfl rfl ?_; intro w11 b11 e11 hB11 hk11 hs11
      refine o_store (v := (.int .u64 ((k + 2 : Nat) : Int))) rfl rfl rfl rfl hB11 (by exact Nat.le_refl _) rfl ?_; intro w12 hB12 hk12 hs12
      refine ops_nil ?_
      refine W_region ?_
      refine op_run (r_load rfl rfl rfl (hB12.cell rfl)) rfl ?_
      refine op_run ((r_add rfl rfl).val (congrArg (Value.int .u64) (show IntKind.u64.wrap (((k + 2 : Nat) : Int) + 1) = ((k + 1 + 2 : Nat) : Int) by rw [wrap_u64]; omega))) rfl ?_
      refine o_store (v := (.int .u64 ((k + 1 + 2 : Nat) : Int))) rfl rfl rfl rfl hB12 (by exact Nat.le_refl _) rfl ?_; intro w14 hB14 hk14 hs14
      refine ops_nil ?_
      have e : prN (k + 1) = prN k ++ [k + 2] := by rw [prN, if_neg (by simpa using h6)]
      have h8s := hkw.size
      have hin9 : InB (fun b => w.heap.size ≤ b ∧ b < w9.heap.size) v9 := fun b hb => ⟨by
        rcases hb9 b hb with h | h
        · exact (hin b h).1
        · have := hk8.size; omega, hown9.lt b hb⟩
      refine ⟨by (repeat (first | with_reducible exact offM_refl _ _ | refine offM_updc rfl ?_ | refine offM_upd rfl ?_ | refine offM_updo rfl ?_ | refine offM_updo_none ?_ | refine offM_head rfl rfl ?_)), ⟨v9, b11, k + 1, rfl, by omega, ?_, fun b hb => ⟨(hin9 b hb).1, by have := (hin9 b hb).2; omega⟩, hB14, by have := hkw9.size; omega, ((hkw9.trans hk11).new hk12 (by have := hkw9.size; omega)).new hk14 (by have := hkw9.size; omega)⟩, ?_⟩
      · have h9 := ((hown9.keep hk11 (fun _ _ => trivial)).keep hk12 (fun b hb => by have := (hin9 b hb).2; omega)).keep hk14 (fun b hb => by have := (hin9 b hb).2; omega)
        rw [e, List.length_append, List.map_append]; exact h9
      · have hc14 := hB14.cell (o := 0) rfl
        show (match w14.cell? ⟨b11, 0, none⟩ with | some (.int _ p) => 400 - p.toNat | _ => 0) < (match w5.cell? ⟨pb, 0, none⟩ with | some (.int _ p) => 400 - p.toNat | _ => 0)
        rw [hc3, hc14]
        show 400 - ((k + 1 + 2 : Nat) : Int).toNat < 400 - ((k + 2 : Nat) : Int).toNat
        omega
    · refine W_skip ?_
      refine W_seq ?_
      refine W_seq ?_
      refine W_region ?_
      refine op_run (r_load rfl rfl rfl (hB3.cell rfl)) rfl ?_
      refine ops_nil ?_
      refine W_region ?_
      refine o_alloc ti_u64 rfl rfl ?_; intro w17 b17 e17 hB17 hk17 hs17
      refine o_store (v := (.int .u64 ((k + 2 : Nat) : Int))) rfl rfl rfl rfl hB17 (by exact Nat.le_refl _) rfl ?_; intro w18 hB18 hk18 hs18
      refine ops_nil ?_
      refine W_region ?_
      refine op_run (r_load rfl rfl rfl (hB18.cell rfl)) rfl ?_
      refine op_run ((r_add rfl rfl).val (congrArg (Value.int .u64) (show IntKind.u64.wrap (((k + 2 : Nat) : Int) + 1) = ((k + 1 + 2 : Nat) : Int) by rw [wrap_u64]; omega))) rfl ?_
      refine o_store (v := (.int .u64 ((k + 1 + 2 : Nat) : Int))) rfl rfl rfl rfl hB18 (by exact Nat.le_refl _) rfl ?_; intro w20 hB20 hk20 hs20
      refine ops_nil ?_
      have e : prN (k + 1) = prN k := by rw [prN, if_pos (by simpa using h6)]
      have h8s := hkw.size
      have hlt := hown.lt
      refine ⟨by (repeat (first | with_reducible exact offM_refl _ _ | refine offM_updc rfl ?_ | refine offM_upd rfl ?_ | refine offM_updo rfl ?_ | refine offM_updo_none ?_ | refine offM_head rfl rfl ?_)), ⟨_, b17, k + 1, rfl, by omega, ?_, fun b hb => ⟨(hin b hb).1, by have := hlt b hb; omega⟩, hB20, by omega, ((hkw.trans hk17).new hk18 (by omega)).new hk20 (by omega)⟩, ?_⟩
      · have h9 := ((hown.keep hk17 (fun _ _ => trivial)).keep hk18 (fun b hb => by have := hlt b hb; omega)).keep hk20 (fun b hb => by have := hlt b hb; omega)
        rw [e]; exact h9
      · have hc20 := hB20.cell (o := 0) rfl
        show (match w20.cell? ⟨b17, 0, none⟩ with | some (.int _ p) => 400 - p.toNat | _ => 0) < (match w5.cell? ⟨pb, 0, none⟩ with | some (.int _ p) => 400 - p.toNat | _ => 0)
        rw [hc3, hc20]
        show 400 - ((k + 1 + 2 : Nat) : Int).toNat < 400 - ((k + 2 : Nat) : Int).toNat
        omega
  · refine W_exit ?_
    refine W_seq ?_
    refine W_region ?_
    refine o_mvt rfl ?_
    refine o_ast rfl ?_
    refine ops_nil ?_
    refine W_ret ?_
    refine ret1 (.slice ao (prN k).length co) rfl ?_ ?_; rfl
    have e := prN_end hk (by omega)
    rw [e] at hown hin
    rw [e]
    exact ⟨hown, fun b hb => (hin b hb).1, hkw⟩
/-- The numbers of the beginning, and of the rounds. -/
def tabS (i : Nat) : List Wd := wl 8 fun j => if j < i then rootF (prL.getD j 0) false else 0
def tabK (i : Nat) : List Wd := wl 64 fun j => if j < i then rootF (prL.getD j 0) true else 0
theorem tab_set {n i : Nat} {f : Nat → Wd} (x : Wd) (hx : f i = x) : wl n (fun m => if m = i then x else if m < i then f m else 0) = wl n (fun j => if j < i + 1 then f j else 0) := wl_congr fun m _ => by
  by_cases e : m = i
  · subst e; rw [if_pos rfl, if_pos (by omega), hx]
  · rw [if_neg e]
    by_cases h1 : m < i
    · rw [if_pos h1, if_pos (by omega)]
    · rw [if_neg h1, if_neg (by omega)]
theorem prL_lt : ∀ i, i < 64 → prL.getD i 0 < 2 ^ 32 := by decide
theorem sh_tables (w : World) : Ret Try.prog 39 [].toArray w fun r w' => r = .tuple #[.agg ((tabS 8).map c32).toArray, .agg ((tabK 64).map c32).toArray] ∧ Keep All w w' := by
  refine enter (fn := Try.f39) (n := 24) Try.func39 rfl rfl (by simp) ?_
  refine W_seq ?_
  refine W_region ?_
  refine o_alloc rfl rfl rfl ?_; intro w1 b1 e1 hB1 hk1 hs1
  have hS1 : Blk w1 b1 ((tabS 0).map c32) 60 := hB1
  refine o_alloc rfl rfl rfl ?_; intro w2 b2 e2 hB2 hk2 hs2
  have hK2 : Blk w2 b2 ((tabK 0).map c32) 61 := hB2
  refine ops_nil ?_
  refine W_seq ?_
  refine W_seq ?_
  refine W_region ?_
  refine op_call rfl rfl rfl (sh_primes w2) ?_; rintro v3 w3 ⟨hown3, hin3, hk3⟩
  obtain ⟨a3, c3, rfl, _, _⟩ := hown3.form
  have hS3 := hk3.blk' (hk2.blk' hS1 trivial) trivial
  have hK3 := hk3.blk' hK2 trivial
  have hlt1 := hS1.lt
  have hlt2 := hK2.lt
  refine op_run (r_len rfl rfl rfl) rfl ?_
  refine o_mvc rfl ?_
  refine ops_nil ?_
  refine W_block ?_
  refine W_loop [6] [2, 3, 6, 7, 8, 9, 10, 11, 12, 13, 14, 15, 16, 17, 18, 19, 20, 21] (fun vs w' => ∃ i : Nat, vs = [.int .i64 i] ∧ i ≤ 64 ∧ Blk w' b1 ((tabS (min i 8)).map c32) 60 ∧ Blk w' b2 ((tabK i).map c32) 61 ∧ Keep (fun k => k ≠ b1 ∧ k ≠ b2) w3 w') (fun vs _ => match vs with | [.int _ i] => 64 - i.toNat | _ => 0) ⟨0, rfl, by omega, hS3, hK3, Keep.refl _⟩ ?_
  rintro J vs w4 ⟨i, rfl, hi, hS4, hK4, hk4⟩ -
  refine W_seq ?_
  refine W_region ?_
  refine op_run (r_lss rfl rfl) rfl ?_
  refine ops_nil ?_
  refine W_seq ?_
  have hlp : prL.length = 64 := rfl
  refine W_cond_p rfl (fun h5 => ?_) (fun h5 => ?_)
  · refine W_skip ?_
    refine W_seq ?_
    refine W_block ?_
    refine W_seq ?_
    refine W_region ?_
    refine o_mvt rfl ?_
    have hi64 : i < 64 := by omega
    have hinc := inc64' i (by omega)
    have hown4 := hown3.keep hk4 (fun b hb => by have := hin3 b hb; have := hk2.size; omega)
    obtain ⟨b9, off9, c9, e9, _, _, hcell⟩ := hown4.sl.at (by rw [hlp]; decide)
    cases e9
    have hci := hcell i (c64 (prL.getD i 0)) (by rw [List.getElem?_map, List.getElem?_eq_getElem (by rw [hlp]; exact hi64), List.getD_eq_getElem?_getD, List.getElem?_eq_getElem (by rw [hlp]; exact hi64)]; rfl)
    have hp32 := prL_lt i hi64
    refine op_run (r_idxS1 rfl rfl rfl ti_u64 (by omega) (by omega)) rfl ?_
    refine op_run (r_load rfl rfl rfl (by rw [Int.toNat_natCast]; exact hci)) rfl ?_
    refine o_ast rfl ?_
    refine o_ast rfl ?_
    refine ops_nil ?_
    refine W_seq ?_
    refine W_seq ?_
    refine W_region ?_
    refine o_mvt rfl ?_
    refine op_run (r_lss rfl rfl) rfl ?_
    refine ops_nil ?_
    refine W_cond_p rfl (fun h8 => ?_) (fun h8 => ?_)
    · refine W_region ?_
      refine o_mvt rfl ?_
      refine o_mvt rfl ?_
      refine op_call rfl rfl rfl (sh_root w4 (prL.getD i 0) false hp32) ?_; rintro v9 w9 ⟨rfl, rfl⟩
      refine op_run (r_idxA1 rfl rfl rfl rfl (by omega) (by omega)) rfl ?_
      refine o_store (v := c32 (rootF (prL.getD i 0) false)) rfl rfl rfl rfl hS4 (by rw [List.length_map, tabS, wl_len]; omega) rfl ?_; intro w11 hB11 hk11 hs11
      rw [Int.toNat_natCast, Nat.zero_add, map_set32, tabS, wl_set, Nat.min_eq_left (by omega), tab_set (f := fun j => rootF (prL.getD j 0) false) _ rfl] at hB11
      have hS11 : Blk w11 b1 ((tabS (min (i + 1) 8)).map c32) 60 := by rw [Nat.min_eq_left (by omega)]; exact hB11
      have hK11 := hk11.blk' hK4 (show b2 ≠ b1 by omega)
      refine ops_nil ?_
      refine W_region ?_
      refine o_mvt rfl ?_
      refine o_mvt rfl ?_
      refine op_call rfl rfl rfl (sh_root w11 (prL.getD i 0) true hp32) ?_; rintro v12 w12 ⟨rfl, rfl⟩
      refine op_run (r_idxA1 rfl rfl rfl rfl (by omega) (by omega)) rfl ?_
      refine o_store (v := c32 (rootF (prL.getD i 0) true)) rfl rfl rfl rfl hK11 (by rw [List.length_map, tabK, wl_len]; omega) rfl ?_; intro w14 hB14 hk14 hs14
      refine ops_nil ?_
      refine W_region ?_
      refine op_run (r_add rfl rfl) rfl ?_
      refine o_mvt rfl ?_
      refine ops_nil ?_
      rw [Int.toNat_natCast, Nat.zero_add, map_set32, tabK, wl_set, tab_set (f := fun j => rootF (prL.getD j 0) true) _ rfl] at hB14
      refine ⟨by (repeat (first | with_reducible exact offM_refl _ _ | refine offM_updc rfl ?_ | refine offM_upd rfl ?_ | refine offM_updo rfl ?_ | refine offM_updo_none ?_ | refine offM_head rfl rfl ?_)), ⟨i + 1, ?_, by omega, hk14.blk' hS11 (show b1 ≠ b2 by omega), hB14, (hk4.trans (hk11.mono fun k _ h => h.1)).trans (hk14.mono fun k _ h => h.2)⟩, ?_⟩
      · rw [← hinc]; rfl
      · show 64 - (IntKind.i64.wrap ((i : Int) + 1)).toNat < 64 - (i : Int).toNat
        rw [hinc]; omega
    · refine W_skip ?_
      refine W_region ?_
      refine o_mvt rfl ?_
      refine o_mvt rfl ?_
      refine op_call rfl rfl rfl (sh_root w4 (prL.getD i 0) true hp32) ?_; rintro v16 w16 ⟨rfl, rfl⟩
      refine op_run (r_idxA1 rfl rfl rfl rfl (by omega) (by omega)) rfl ?_
      refine o_store (v := c32 (rootF (prL.getD i 0) true)) rfl rfl rfl rfl hK4 (by rw [List.length_map, tabK, wl_len]; omega) rfl ?_; intro w18 hB18 hk18 hs18
      refine ops_nil ?_
      refine W_region ?_
      refine op_run (r_add rfl rfl) rfl ?_
      refine o_mvt rfl ?_
      refine ops_nil ?_
      rw [Int.toNat_natCast, Nat.zero_add, map_set32, tabK, wl_set, tab_set (f := fun j => rootF (prL.getD j 0) true) _ rfl] at hB18
      have hS18 : Blk w18 b1 ((tabS (min (i + 1) 8)).map c32) 60 := by
        have h := hk18.blk' hS4 (show b1 ≠ b2 by omega)
        rw [Nat.min_eq_right (by omega)] at h ⊢; exact h
      refine ⟨by (repeat (first | with_reducible exact offM_refl _ _ | refine offM_updc rfl ?_ | refine offM_upd rfl ?_ | refine offM_updo rfl ?_ | refine offM_updo_none ?_ | refine offM_head rfl rfl ?_)), ⟨i + 1, ?_, by omega, hS18, hB18, hk4.trans (hk18.mono fun k _ h => h.2)⟩, ?_⟩
      · rw [← hinc]; rfl
      · show 64 - (IntKind.i64.wrap ((i : Int) + 1)).toNat < 64 - (i : Int).toNat
        rw [hinc]; omega
  · refine W_exit ?_
    refine W_seq ?_
    have e : i = 64 := by omega
    subst e
    refine W_gate 3 (fun w' => Blk w' b1 ((tabS 8).map c32) 60 ∧ Blk w' b2 ((tabK 64).map c32) 61) (by kernel_rfl) (⟨hS4, hK4⟩) (fun hS => ?_)
    refine gt_run 0 (fun w' hS' => (r_loadA ((tabS 8).map c32) rfl rfl rfl rfl hS'.1.all)) rfl (by kernel_rfl) (by kernel_rfl) (by kernel_rfl) (by kernel_rfl) rfl hS ?_
    refine gt_run 1 (fun w' hS' => (r_loadA ((tabK 64).map c32) rfl rfl rfl rfl hS'.2.all)) rfl (by kernel_rfl) (by kernel_rfl) (by kernel_rfl) (by kernel_rfl) rfl hS ?_
    refine gt_one 2 (by kernel_rfl) (one_of rfl ?_)
    refine o_storeA (cs := (tabS 8).map c32) rfl rfl (all_c32 _) rfl hS.1 (Nat.le_refl _) rfl ?_; intro w23 hB23 hk23 hs23
    rw [splice_all rfl] at hB23
    refine ops_nil ⟨⟨hB23, hk23.blk' hS.2 (show b2 ≠ b1 by omega)⟩, fun hS => ?_⟩
    refine gt_past 3 (by kernel_rfl) (by kernel_rfl) (one_of rfl ?_)
    refine o_storeA (cs := (tabK 64).map c32) rfl rfl (all_c32 _) rfl hS.2 (Nat.le_refl _) rfl ?_; intro w25 hB25 hk25 hs25
    rw [splice_all rfl] at hB25
    refine ops_nil ?_
    refine gt_done (by kernel_rfl) ?_
    refine W_ret ?_
    refine retCC ((tabS 8).map c32) ((tabK 64).map c32) rfl rfl rfl rfl rfl rfl rfl rfl rfl ((hk25.blk' hB23 (show b1 ≠ b2 by omega)).all) hB25.all ?_
    refine ⟨rfl, ?_⟩
    have h3 : Keep All w w3 := (hk1.trans hk2).trans hk3
    have h4 : Keep All w w4 := h3.outA (B := fun k => k = b1 ∨ k = b2) (hk4.mono fun k _ h => ⟨fun e => h (.inl e), fun e => h (.inr e)⟩) (fun k hk => by have := hk1.size; omega)
    exact ((h4.trans (Keep.drawn w4)).new hk23 (by omega)).new hk25 (by have := hk1.size; omega)
end Go.Proofs.Ytnjepmdgbkhoaaa.B
