/-
  The key of a volume's block; a string's bytes.
-/
import Derived.Test.YtkmciohghhffnaaGreatTagD
import Derived.Test.YtkmciohghhffnaaGreatRowsK
import Derived.Test.YtkmciohghhffnaaGreatStrB
import Derived.Test.YtkmciohghhffnaaGreatU64
namespace Go.Proofs.YtkmciohghhffnaaGreat.B
open Go
set_option linter.unusedVariables false
set_option maxHeartbeats 2000000
set_option maxRecDepth 100000
attribute [local irreducible] W OpsW OpsQ retP
/-- The key of a volume's block. -/
def keyD (name : List UInt8) (number : Int) : Dig := tagD 7 [name, encN (u64 number)]
theorem rowsV_two {w : World} {b : Nat} {e : TypeId} {v1 v2 : Value} {x1 x2 : List UInt8} (hB : Blk w b [v1, v2] e) (h1 : By w v1 x1) (h2 : By w v2 x2) : SlR w (.slice (some ⟨b, 0, none⟩) 2 2) 1 (RowB w) [x1, x2] := by
  have h : RowsV w (.slice (some ⟨b, 0, none⟩) 2 2) [v1, v2] [x1, x2] := ⟨rfl, (Own.blk (n := 2) (sz := 1) hB rfl (by unfold maxLen; omega)).sl, fun i u x hu hx => by
    match i, hu, hx with
    | 0, hu, hx => injection hu with hu; injection hx with hx; subst hu; subst hx; exact h1
    | 1, hu, hx => injection hu with hu; injection hx with hx; subst hu; subst hx; exact h2⟩
  exact h.slR
theorem tag_key (name : List UInt8) (number : Int) (h : name.length ≤ 300) : (tagB 7 [name, encN (u64 number)]).length ≤ 1000000 := by
  have h2 := encN_len10 (u64_lt number)
  exact Nat.le_trans (tagB_len (n := 300) (m := 2) (fun q hq => by
    rcases List.mem_cons.1 hq with rfl | hq
    · exact h
    · obtain rfl := List.mem_singleton.1 hq; omega) (by decide) (Nat.le_refl _)) (by decide)
theorem vol_Key (w : World) (name : List UInt8) (number : Int) (hn : name.length ≤ 300) : Ret Tryz.prog 15 [.string ⟨name.toArray⟩, .int .i64 number].toArray w fun r w' => r = .agg (dgR (keyD name number)).toArray ∧ Keep All w w' := by
  refine enter (fn := Tryz.f15) (n := 12) Tryz.func15 rfl rfl (by simp) ?_
  refine W_seq ?_
  refine W_region ?_
  refine o_alloc rfl rfl rfl ?_; intro w1 b1 e1 hB1 hk1 hs1
  refine ops_nil ?_
  refine W_seq ?_
  refine W_region ?_
  refine o_mvt rfl ?_
  refine o_strB rfl rfl rfl rfl (by unfold maxLen; omega) rfl ?_; intro w2 b2 c2 hby2 e2 hk2 hs2
  refine o_mvt rfl ?_
  refine op_run ((r_conv rfl rfl rfl).val (conv_u64 number)) rfl ?_
  refine op_call rfl rfl rfl (pack_Number w2 _ [] (u64 number) (u64_lt _) (own_nil _ _ _) (by decide)) ?_; rintro v3 w3 ⟨hown3, hk3, hb3⟩
  have hk3A : Keep All w2 w3 := hk3.mono fun z _ _ h => by cases h
  obtain ⟨a3, c3, e3_, _, _⟩ := hown3.form
  subst e3_
  refine o_bsL ([.slice (some ⟨b2, 0, none⟩) name.length c2, .slice a3 (encN (u64 number)).length c3]) rfl rfl rfl rfl rfl rfl rfl rfl rfl ?_; intro w4 b4 e4 hB4 hk4 hs4
  refine op_call rfl rfl rfl (sh_TagD _ _ 7 [name, encN (u64 number)] (rowsV_two hB4 ((Sl.k hby2 hk3A).k hk4) (Sl.k (OwnB.by_ hown3) hk4)) (tag_key name number hn)) ?_; rintro v5 w5 ⟨rfl, hk5⟩
  have hk15 := hk2.trans (hk3A.trans (hk4.trans hk5))
  refine o_storeA (cs := dgR (keyD name number)) rfl rfl (by first | rfl | exact binV_one _ | exact dgR_one _ | exact refR_one _ | exact secR_one _ | exact all_c8 _) (by first | rfl | (rw [binV_len]; rfl) | (rw [dgR_len]; rfl) | (rw [refR_len]; rfl) | (rw [secR_len]; rfl) | (rw [List.length_map, tagF_len]; rfl)) (hk15.blk' hB1 trivial) (by exact Nat.le_of_eq (by simp [dgR_len])) rfl ?_; intro w6 hB6 hk6 hs6
  have hB6 : Blk w6 b1 (dgR (keyD name number)) 29 := by
    have h := hB6
    rwa [splice_all (by simp [dgR_len])] at h
  refine ops_nil ?_
  refine W_ret ?_
  refine retA (dgR (keyD name number)) rfl rfl rfl rfl (by first | rfl | (rw [binV_len]; rfl) | (rw [dgR_len]; rfl) | (rw [refR_len]; rfl) | (rw [secR_len]; rfl) | (rw [List.length_map, tagF_len]; rfl)) hB6.all ?_
  exact ⟨rfl, (hk1.trans hk15).new hk6 (by omega)⟩
theorem rf12_Key (w : World) (name : List UInt8) (number : Int) (hn : name.length ≤ 300) : Ret Tryz.prog 16 [.string ⟨name.toArray⟩, .int .i64 number].toArray w fun r w' => r = .agg (dgR (keyD name number)).toArray ∧ Keep All w w' := by
  refine enter (fn := Tryz.f16) (n := 13) Tryz.func16 rfl rfl (by simp) ?_
  refine W_seq ?_
  refine W_region ?_
  refine o_alloc rfl rfl rfl ?_; intro w1 b1 e1 hB1 hk1 hs1
  refine ops_nil ?_
  refine W_seq ?_
  refine W_region ?_
  refine o_mvt rfl ?_
  refine o_strB rfl rfl rfl rfl (by unfold maxLen; omega) rfl ?_; intro w2 b2 c2 hby2 e2 hk2 hs2
  refine o_bs0 rfl rfl rfl ?_; intro w3 b3 e3 hB3 hk3 hs3
  refine o_mvt rfl ?_
  refine op_run ((r_conv rfl rfl rfl).val (conv_u64 number)) rfl ?_
  refine op_call rfl rfl rfl (ref01_Number w3 _ [] (u64 number) (u64_lt _) (Own.blk (n := 0) hB3 rfl (Nat.zero_le _)) (by decide)) ?_; rintro v4 w4 ⟨hown4, hk4, hb4⟩
  have hz2 := hk2.size
  have hk24 : Keep All w2 w4 := hk3.own hk4 (fun z hz _ => by obtain rfl : b3 = z := Option.some.inj hz; omega)
  have hby4 : By w4 (.slice (some ⟨b2, 0, none⟩) name.length c2) name := Sl.k hby2 hk24
  obtain ⟨a4, c4, e4_, _, _⟩ := hown4.form
  subst e4_
  refine o_bsL ([.slice (some ⟨b2, 0, none⟩) name.length c2, .slice a4 (encN (u64 number)).length c4]) rfl rfl rfl rfl rfl rfl rfl rfl rfl ?_; intro w5 b5 e5 hB5 hk5 hs5
  refine op_call rfl rfl rfl (rf_TagD _ _ 7 [name, encN (u64 number)] (rowsV_two hB5 (Sl.k hby4 hk5) (Sl.k (OwnB.by_ hown4) hk5)) (tag_key name number hn)) ?_; rintro v6 w6 ⟨rfl, hk6⟩
  have hk16 := hk2.trans (hk24.trans (hk5.trans hk6))
  refine o_storeA (cs := dgR (keyD name number)) rfl rfl (by first | rfl | exact binV_one _ | exact dgR_one _ | exact refR_one _ | exact secR_one _ | exact all_c8 _) (by first | rfl | (rw [binV_len]; rfl) | (rw [dgR_len]; rfl) | (rw [refR_len]; rfl) | (rw [secR_len]; rfl) | (rw [List.length_map, tagF_len]; rfl)) (hk16.blk' hB1 trivial) (by exact Nat.le_of_eq (by simp [dgR_len])) rfl ?_; intro w7 hB7 hk7 hs7
  have hB7 : Blk w7 b1 (dgR (keyD name number)) 29 := by
    have h := hB7
    rwa [splice_all (by simp [dgR_len])] at h
  refine ops_nil ?_
  refine W_ret ?_
  refine retA (dgR (keyD name number)) rfl rfl rfl rfl (by first | rfl | (rw [binV_len]; rfl) | (rw [dgR_len]; rfl) | (rw [refR_len]; rfl) | (rw [secR_len]; rfl) | (rw [List.length_map, tagF_len]; rfl)) hB7.all ?_
  exact ⟨rfl, (hk1.trans hk16).new hk7 (by omega)⟩
end Go.Proofs.YtkmciohghhffnaaGreat.B
