/-
  sha: digests of tagged rows, the program's and the document's.
-/
import Derived.Test.YtnjepmdgbkhoaaaRefSha2
import Derived.Test.YtnjepmdgbkhoaaaPackN
namespace Go.Proofs.Ytnjepmdgbkhoaaa.B
open Go
set_option linter.unusedVariables false
set_option maxHeartbeats 2000000
set_option maxRecDepth 100000
attribute [local irreducible] W OpsW OpsQ retP
/-- The bytes of tagged rows. -/
def tagB (use : UInt8) (pss : List (List UInt8)) : List UInt8 := use :: (pss.map encB).flatten
/-- Their digest. -/
def tagF (use : UInt8) (pss : List (List UInt8)) : List UInt8 := sumF (tagB use pss)
theorem tagF_len (use : UInt8) (pss : List (List UInt8)) : (tagF use pss).length = 32 := sumF_len _
theorem tagB_s {use : UInt8} {pss : List (List UInt8)} {k : Nat} {p : List UInt8} (h : pss[k]? = some p) : tagB use (pss.take (k + 1)) = tagB use (pss.take k) ++ encB p := by
  unfold tagB; rw [take_s h]; simp
theorem tagB_le (use : UInt8) (pss : List (List UInt8)) (k : Nat) : (tagB use (pss.take k)).length ≤ (tagB use pss).length := by
  have e : tagB use pss = tagB use (pss.take k) ++ ((pss.drop k).map encB).flatten := by
    unfold tagB
    rw [List.cons_append, ← List.flatten_append, ← List.map_append, List.take_append_drop]
  rw [e, List.length_append]; omega
theorem encB_ge (p : List UInt8) : p.length ≤ (encB p).length := by unfold encB; rw [List.length_append]; omega
theorem flat_enc {n : Nat} (hn : n < 2 ^ 63) : ∀ {l : List (List UInt8)}, (∀ p ∈ l, p.length ≤ n) → (l.map encB).flatten.length ≤ (n + 10) * l.length
  | [], _ => by simp
  | p :: l, h => by
    have h1 := flat_enc hn (l := l) fun q hq => h q (List.mem_cons_of_mem _ hq)
    have h2 := h p (List.mem_cons_self ..)
    have h3 := encB_len p (by omega)
    rw [List.map_cons, List.flatten_cons, List.length_append, List.length_cons, Nat.mul_succ]; omega

theorem sh_Tagged (w : World) (v : Value) (use : UInt8) (pss : List (List UInt8)) (hv : SlR w v 1 (RowB w) pss) (hl : (tagB use pss).length ≤ 1000000) :
    Ret Try.prog 22 [c8 use, v].toArray w fun r w' => r = .agg ((tagF use pss).map c8).toArray ∧ Keep All w w' := by
  obtain ⟨a0, c0, rfl, hc0, hcm0⟩ := hv.form
  refine enter (fn := Try.f22) (n := 22) Try.func22 rfl rfl (by simp) ?_
  refine W_seq ?_
  refine W_region ?_
  refine o_alloc rfl rfl rfl ?_; intro w1 b1 e1 hB1 hk1 hs1
  refine ops_nil ?_
  refine W_seq ?_
  refine W_region ?_
  refine o_mvt rfl ?_
  refine o_bs1 (v := (c8 use)) rfl rfl rfl rfl rfl rfl ?_; intro w2 b2 e2 hB2 hk2 hs2
  have hown2 : OwnB w2 5 (.slice (some ⟨b2, 0, none⟩) 1 1) (tagB use (pss.take 0)) := Own.blk hB2 rfl (by unfold maxLen; omega)
  refine o_ast rfl ?_
  refine ops_nil ?_
  refine W_seq ?_
  refine W_seq ?_
  refine W_region ?_
  refine o_mvt rfl ?_
  refine op_run (r_len rfl rfl rfl) rfl ?_
  refine o_mvc rfl ?_
  refine ops_nil ?_
  refine W_block ?_
  refine W_loop [5, 12] [5, 7, 12, 13, 14, 15, 16, 17, 18, 19] (fun vs w' => ∃ (vf : Value) (k : Nat), vs = [vf, .int .i64 k] ∧ k ≤ pss.length ∧ OwnB w' 5 vf (tagB use (pss.take k)) ∧ InB (fun b => w1.heap.size ≤ b) vf ∧ Keep (· < w1.heap.size) w1 w') (fun vs _ => match vs with | [_, .int _ k] => pss.length - k.toNat | _ => 0) ⟨_, 0, rfl, by omega, hown2, (fun b hb => by cases hb; show w1.heap.size ≤ b2; omega), hk2.all⟩ ?_
  rintro J3 vs w3 ⟨vf, k, rfl, hk, hown, hin, hk3⟩ -
  have hz1 := hk1.size
  have hz3 := hk3.size
  have hkw3 : Keep (· < w1.heap.size) w w3 := hk1.all.trans hk3
  refine W_seq ?_
  refine W_region ?_
  refine op_run (r_lss rfl rfl) rfl ?_
  refine ops_nil ?_
  refine W_seq ?_
  refine W_cond_p rfl (fun h4 => ?_) (fun h4 => ?_)
  · refine W_skip ?_
    refine W_seq ?_
    refine W_block ?_
    refine W_seq ?_
    refine W_region ?_
    have hkl : k < pss.length := by omega
    have hpk : pss[k]? = some pss[k] := List.getElem?_eq_getElem hkl
    obtain ⟨bp, op, cp, ep, _, hcells⟩ := hv.at (by decide) (by omega)
    cases ep
    obtain ⟨csk, _, hck, vk, rfl, hby⟩ := hcells k _ hpk
    have hck := hck 0 vk rfl
    have hinck := inc64' k (by unfold maxLen at hcm0; omega)
    have hs1 := tagB_s (use := use) hpk
    have hle := tagB_le use pss (k + 1)
    rw [hs1, List.length_append] at hle
    have hge := encB_ge pss[k]
    refine op_run (r_idxS1 rfl rfl rfl rfl (by omega) (by omega)) rfl ?_
    refine op_run (r_load rfl rfl rfl (by rw [Int.toNat_natCast, ← Nat.mul_one k]; exact hkw3.cell hck (show bp < w1.heap.size by have := World.block_lt_of_cell? w _ hck; exact Nat.lt_of_lt_of_le this hz1))) rfl ?_
    refine o_ast rfl ?_
    refine ops_nil ?_
    refine W_region ?_
    refine o_mvt rfl ?_
    refine o_mvt rfl ?_
    refine op_call rfl rfl rfl (pack_Bytes w3 vf vk (tagB use (pss.take k)) pss[k] hown (fun w'' hk'' => hby.old (A := (· < w1.heap.size)) (hkw3.trans (hk''.mono fun j _ hj e => by have := hin j e.symm; omega)) (fun j hj => Nat.lt_of_lt_of_le hj hz1)) (by omega)) ?_; rintro v7 w7 ⟨hown7, hk7, hb7⟩
    refine o_ast rfl ?_
    refine ops_nil ?_
    refine W_region ?_
    refine op_run (r_add rfl rfl) rfl ?_
    refine o_mvt rfl ?_
    refine ops_nil ?_
    refine ⟨by (repeat (first | with_reducible exact offM_refl _ _ | refine offM_updc rfl ?_ | refine offM_upd rfl ?_ | refine offM_updo rfl ?_ | refine offM_updo_none ?_ | refine offM_head rfl rfl ?_)), ⟨v7, k + 1, ?_, by omega, by rw [hs1]; exact hown7, fun b hb => ?_, hk3.trans (hk7.mono fun j _ hj e => by have := hin j e.symm; omega)⟩, ?_⟩
    · rw [← hinck]; rfl
    · rcases hb7 b hb with h | h
      · exact hin b h
      · omega
    · show pss.length - (IntKind.i64.wrap ((k : Int) + 1)).toNat < pss.length - (k : Int).toNat
      rw [hinck]; omega
  · refine W_exit ?_
    refine W_seq ?_
    refine W_region ?_
    refine o_mvt rfl ?_
    have hkp : k = pss.length := by omega
    subst hkp
    rw [List.take_length] at hown
    refine op_call rfl rfl rfl (sh_Sum w3 vf (tagB use pss) hown.by_ hl) ?_; rintro v9 w9 ⟨rfl, hk9⟩
    have hsl := sumF_len (tagB use pss)
    have hB9 := hk9.blk' (hk3.blk' hB1 (show b1 < w1.heap.size by omega)) trivial
    refine o_storeA (cs := (sumF (tagB use pss)).map c8) rfl rfl (all_c8 _) (by rw [List.length_map, hsl]; rfl) hB9 (by rw [List.length_map, hsl]; exact Nat.le_refl _) rfl ?_; intro w10 hB10 hk10 hs10
    rw [splice_all (by rw [List.length_map, hsl]; rfl)] at hB10
    refine ops_nil ?_
    refine W_ret ?_
    refine retA ((sumF (tagB use pss)).map c8) rfl rfl rfl rfl (by rw [List.length_map, hsl]; rfl) hB10.all ?_
    exact ⟨rfl, ((hk1.outA (B := fun j => ¬ j < w1.heap.size) (hk3.mono fun j _ h => Decidable.not_not.1 h) (fun j hj => by omega)).trans hk9).new hk10 (by omega)⟩

theorem rf_Tagged (w : World) (v : Value) (use : UInt8) (pss : List (List UInt8)) (hv : SlR w v 1 (RowB w) pss) (hl : (tagB use pss).length ≤ 1000000) :
    Ret Try.prog 20 [c8 use, v].toArray w fun r w' => r = .agg ((tagF use pss).map c8).toArray ∧ Keep All w w' := by
  obtain ⟨a0, c0, rfl, hc0, hcm0⟩ := hv.form
  refine enter (fn := Try.f20) (n := 23) Try.func20 rfl rfl (by simp) ?_
  refine W_seq ?_
  refine W_region ?_
  refine o_alloc rfl rfl rfl ?_; intro w1 b1 e1 hB1 hk1 hs1
  refine ops_nil ?_
  refine W_seq ?_
  refine W_region ?_
  refine o_mvt rfl ?_
  refine o_bs1 (v := (c8 use)) rfl rfl rfl rfl rfl rfl ?_; intro w2 b2 e2 hB2 hk2 hs2
  have hown2 : OwnB w2 5 (.slice (some ⟨b2, 0, none⟩) 1 1) (tagB use (pss.take 0)) := Own.blk hB2 rfl (by unfold maxLen; omega)
  refine o_ast rfl ?_
  refine ops_nil ?_
  refine W_seq ?_
  refine W_seq ?_
  refine W_region ?_
  refine o_asc rfl ?_
  refine ops_nil ?_
  refine W_block ?_
  refine W_loop [5, 6] [5, 6, 9, 10, 11, 12, 13, 14, 15, 16, 17, 18, 19, 20] (fun vs w' => ∃ (vf : Value) (k : Nat), vs = [vf, .int .i64 k] ∧ k ≤ pss.length ∧ OwnB w' 5 vf (tagB use (pss.take k)) ∧ InB (fun b => w1.heap.size ≤ b) vf ∧ Keep (· < w1.heap.size) w1 w') (fun vs _ => match vs with | [_, .int _ k] => pss.length - k.toNat | _ => 0) ⟨_, 0, rfl, by omega, hown2, (fun b hb => by cases hb; show w1.heap.size ≤ b2; omega), hk2.all⟩ ?_
  rintro J3 vs w3 ⟨vf, k, rfl, hk, hown, hin, hk3⟩ -
  have hz1 := hk1.size
  have hz3 := hk3.size
  have hkw3 : Keep (· < w1.heap.size) w w3 := hk1.all.trans hk3
  refine W_seq ?_
  refine W_seq ?_
  refine W_region ?_
  refine o_mvt rfl ?_
  refine o_mvt rfl ?_
  refine op_run (r_len rfl rfl rfl) rfl ?_
  refine op_run (r_lss rfl rfl) rfl ?_
  refine ops_nil ?_
  refine W_cond_p rfl (fun h4 => ?_) (fun h4 => ?_)
  · refine W_skip ?_
    refine W_seq ?_
    refine W_block ?_
    refine W_region ?_
    refine o_mvt rfl ?_
    refine o_mvt rfl ?_
    refine o_mvt rfl ?_
    have hkl : k < pss.length := by omega
    have hpk : pss[k]? = some pss[k] := List.getElem?_eq_getElem hkl
    obtain ⟨bp, op, cp, ep, _, hcells⟩ := hv.at (by decide) (by omega)
    cases ep
    obtain ⟨csk, _, hck, vk, rfl, hby⟩ := hcells k _ hpk
    have hck := hck 0 vk rfl
    have hinck := inc64' k (by unfold maxLen at hcm0; omega)
    have hs1 := tagB_s (use := use) hpk
    have hle := tagB_le use pss (k + 1)
    rw [hs1, List.length_append] at hle
    have hge := encB_ge pss[k]
    refine op_run (r_idxS1 rfl rfl rfl rfl (by omega) (by omega)) rfl ?_
    refine op_run (r_load rfl rfl rfl (by rw [Int.toNat_natCast, ← Nat.mul_one k]; exact hkw3.cell hck (show bp < w1.heap.size by have := World.block_lt_of_cell? w _ hck; exact Nat.lt_of_lt_of_le this hz1))) rfl ?_
    refine op_call rfl rfl rfl (ref01_Bytes w3 vf vk (tagB use (pss.take k)) pss[k] hown (fun w'' hk'' => hby.old (A := (· < w1.heap.size)) (hkw3.trans (hk''.mono fun j _ hj e => by have := hin j e.symm; omega)) (fun j hj => Nat.lt_of_lt_of_le hj hz1)) (by omega)) ?_; rintro v7 w7 ⟨hown7, hk7, hb7⟩
    refine o_ast rfl ?_
    refine ops_nil ?_
    refine W_region ?_
    refine o_mvt rfl ?_
    refine op_run (r_add rfl rfl) rfl ?_
    refine o_ast rfl ?_
    refine ops_nil ?_
    refine ⟨by (repeat (first | with_reducible exact offM_refl _ _ | refine offM_updc rfl ?_ | refine offM_upd rfl ?_ | refine offM_updo rfl ?_ | refine offM_updo_none ?_ | refine offM_head rfl rfl ?_)), ⟨v7, k + 1, ?_, by omega, by rw [hs1]; exact hown7, fun b hb => ?_, hk3.trans (hk7.mono fun j _ hj e => by have := hin j e.symm; omega)⟩, ?_⟩
    · rw [← hinck]; rfl
    · rcases hb7 b hb with h | h
      · exact hin b h
      · omega
    · show pss.length - (IntKind.i64.wrap ((k : Int) + 1)).toNat < pss.length - (k : Int).toNat
      rw [hinck]; omega
  · refine W_exit ?_
    refine W_seq ?_
    refine W_region ?_
    refine o_mvt rfl ?_
    have hkp : k = pss.length := by omega
    subst hkp
    rw [List.take_length] at hown
    refine op_call rfl rfl rfl (rf_Sum w3 vf (tagB use pss) hown.by_ hl) ?_; rintro v9 w9 ⟨rfl, hk9⟩
    have hsl := sumF_len (tagB use pss)
    have hB9 := hk9.blk' (hk3.blk' hB1 (show b1 < w1.heap.size by omega)) trivial
    refine o_storeA (cs := (sumF (tagB use pss)).map c8) rfl rfl (all_c8 _) (by rw [List.length_map, hsl]; rfl) hB9 (by rw [List.length_map, hsl]; exact Nat.le_refl _) rfl ?_; intro w10 hB10 hk10 hs10
    rw [splice_all (by rw [List.length_map, hsl]; rfl)] at hB10
    refine ops_nil ?_
    refine W_ret ?_
    refine retA ((sumF (tagB use pss)).map c8) rfl rfl rfl rfl (by rw [List.length_map, hsl]; rfl) hB10.all ?_
    exact ⟨rfl, ((hk1.outA (B := fun j => ¬ j < w1.heap.size) (hk3.mono fun j _ h => Decidable.not_not.1 h) (fun j hj => by omega)).trans hk9).new hk10 (by omega)⟩
end Go.Proofs.Ytnjepmdgbkhoaaa.B
