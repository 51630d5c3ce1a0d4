/-
  index.Hold, index.Free; the example.
-/
import Derived.Test.YtkmciohghhffnaaIdx3
namespace Go.Proofs.Ytkmciohghhffnaa.B
open Go
set_option linter.unusedVariables false
set_option maxHeartbeats 2000000
set_option maxRecDepth 100000
attribute [local irreducible] W OpsW OpsQ retP
/-- A map of uses, whatever its entries. -/
structure IdxM (w : World) (mb bm : Nat) (L : List (Dig × Value)) : Prop where
  m : Blk w mb [.map (some bm)] 83
  u : MapG kD w bm L
theorem IdxM.k {w w' : World} {mb bm : Nat} {L : List (Dig × Value)} (h : IdxM w mb bm L) (hk : Keep All w w') : IdxM w' mb bm L := ⟨hk.blk' h.m trivial, h.u.keep hk trivial⟩
def U0 (ou : Option UV) : UV := ou.getD ⟨0, 0, 0⟩
def holdU (ou : Option UV) : UV := match ou with
  | none => ⟨-1, 0, 1⟩
  | some u => ⟨u.bin, u.slot, u.n + 1⟩
theorem getD_use {L : List (Dig × Value)} {x : Dig} {ou : Option UV} (h : getA L x = ou.map useV) : (getA L x).getD (.agg (useR ⟨0, 0, 0⟩).toArray) = useV (U0 ou) := by rw [h]; cases ou <;> rfl
theorem isS_use {L : List (Dig × Value)} {x : Dig} {ou : Option UV} (h : getA L x = ou.map useV) : (getA L x).isSome = ou.isSome := by rw [h]; cases ou <;> rfl
theorem lk_use {L : List (Dig × Value)} {x : Dig} {ou : Option UV} (h : getA L x = ou.map useV) : Value.tuple #[(getA L x).getD (.agg (useR ⟨0, 0, 0⟩).toArray), .bool (getA L x).isSome] = .tuple #[useV (U0 ou), .bool ou.isSome] := by rw [getD_use h, isS_use h]
theorem IdxM.ne {w : World} {mb bm : Nat} {L : List (Dig × Value)} (h : IdxM w mb bm L) : mb ≠ bm := h.m.ne_map h.u
theorem ix_Hold (w : World) (mb bm : Nat) (L : List (Dig × Value)) (x : Dig) (ou : Option UV) (h : IdxM w mb bm L) (hg : getA L x = ou.map useV) (hn : 0 ≤ (U0 ou).n ∧ (U0 ou).n < 2147483648) :
    Ret Try.prog 32 [.pointer (some ⟨mb, 0, none⟩), .agg (dgR x).toArray].toArray w fun r w' => r = .bool ou.isNone ∧ IdxM w' mb bm (setA L x (useV (holdU ou))) ∧ Keep (· ≠ bm) w w' := by
  have hne := h.ne
  have hbl := h.u.lt
  refine enter (fn := Try.f32) (n := 32) Try.func32 rfl rfl (by simp) ?_
  refine W_seq ?_
  refine W_region ?_
  refine o_box rfl rfl rfl ?_; intro w1 b1 e1 hB1 hk1 hs1
  have h1 := h.k hk1
  have hB1' : Blk w1 b1 (dgR x) 41 := hB1
  refine o_asc rfl ?_
  refine ops_nil ?_
  refine W_seq ?_
  refine W_held (fun w' => Keep All w1 w') (by kernel_rfl) ((Keep.drawn w1)) (fun hS => ?_)
  refine any_mvt 0 rfl (by kernel_rfl) (by kernel_rfl) (by kernel_rfl) rfl hS ?_
  refine any_run 1 (fun w' hS' => (r_nilCheck rfl)) rfl (by kernel_rfl) (by kernel_rfl) (by kernel_rfl) rfl hS ?_
  refine any_run 2 (fun w' hS' => (r_fieldAddr rfl rfl rfl rfl rfl)) rfl (by kernel_rfl) (by kernel_rfl) (by kernel_rfl) rfl hS ?_
  refine any_run 3 (fun w' hS' => (r_load rfl rfl rfl (((hS'.blk' h1.m trivial).cell rfl)))) rfl (by kernel_rfl) (by kernel_rfl) (by kernel_rfl) rfl hS ?_
  refine any_run 4 (fun w' hS' => (r_loadA (dgR x) rfl rfl rfl (by first | rfl | (rw [binV_len]; rfl) | (rw [dgR_len]; rfl) | (rw [refR_len]; rfl) | (rw [secR_len]; rfl) | (rw [List.length_map, tagF_len]; rfl) | (rw [dgR_len]; rfl)) ((Blk.all (hS'.blk' hB1' trivial))))) rfl (by kernel_rfl) (by kernel_rfl) (by kernel_rfl) rfl hS ?_
  refine any_run 5 (fun w' hS' => ((r_lookupGok (a := x) (keyOk_D) rfl rfl rfl ti_use ((h1.u.keep hS' trivial))).val ((lk_use hg)))) rfl (by kernel_rfl) (by kernel_rfl) (by kernel_rfl) rfl hS ?_
  refine any_mvt 6 rfl (by kernel_rfl) (by kernel_rfl) (by kernel_rfl) rfl hS ?_
  refine any_run 7 (fun w' hS' => (r_extract rfl rfl)) rfl (by kernel_rfl) (by kernel_rfl) (by kernel_rfl) rfl hS ?_
  refine any_run 8 (fun w' hS' => (r_extract rfl rfl)) rfl (by kernel_rfl) (by kernel_rfl) (by kernel_rfl) rfl hS ?_
  refine any_one 9 (by kernel_rfl) (one_of rfl ?_)
  refine o_alloc rfl rfl rfl ?_; intro w6 b6 e6 hB6 hk6 hs6
  have e6 : b6 = w1.heap.size := e6
  have hB6' : Blk w6 b6 (useR ⟨0, 0, 0⟩) 79 := hB6
  refine ops_nil ⟨(hS.trans hk6), fun hS => ?_⟩
  refine any_one 10 (by kernel_rfl) (one_of rfl ?_)
  refine o_storeA (cs := useR (U0 ou)) rfl rfl (by first | rfl | exact binV_one _ | exact dgR_one _ | exact refR_one _ | exact secR_one _ | exact all_c8 _ | exact useR_one _ | exact dgR_one _) (by first | rfl | (rw [binV_len]; rfl) | (rw [dgR_len]; rfl) | (rw [refR_len]; rfl) | (rw [secR_len]; rfl) | (rw [List.length_map, tagF_len]; rfl) | (rw [dgR_len]; rfl)) hB6' (by show 0 + 3 ≤ 3; decide) rfl ?_; intro w8 hB8 hk8 hs8
  have hB8' : Blk w8 b6 (useR (U0 ou)) 79 := hB8
  refine ops_nil ⟨(hS.new hk8 (by have := hS.size; omega)), fun hS => ?_⟩
  have hz1 := hk1.size
  have hz8 := hS.size
  have h8 := h1.k hS
  have hB18 := hS.blk' hB1' trivial
  have hS0 := hS
  refine any_ast 11 rfl (by kernel_rfl) (by kernel_rfl) (by kernel_rfl) rfl hS ?_
  refine any_done (by kernel_rfl) ?_
  refine W_seq ?_
  refine W_seq ?_
  refine W_region ?_
  refine o_mvt rfl ?_
  refine op_run (r_not rfl) rfl ?_
  refine ops_nil ?_
  refine W_cond rfl (fun h10 => ?_) (fun h10 => ?_)
  · refine W_region ?_
    refine op_run (r_fieldAddr rfl rfl rfl rfl rfl) rfl ?_
    refine op_run (r_fieldAddr rfl rfl rfl rfl rfl) rfl ?_
    refine o_store (v := (.int .i64 (-1))) rfl rfl rfl rfl hB8' (by show 0 < 3; decide) rfl ?_; intro w11 hB11 hk11 hs11
    have hB11' : Blk w11 b6 (useR ⟨-1, (U0 ou).slot, (U0 ou).n⟩) 79 := hB11
    refine ops_nil ?_
    refine W_seq ?_
    refine W_region ?_
    refine op_run (r_fieldAddr rfl rfl rfl rfl rfl) rfl ?_
    refine op_run (r_load rfl rfl rfl (hB11'.cell rfl)) rfl ?_
    refine op_run ((r_add rfl rfl).val (congrArg (Value.int .i64) (show IntKind.i64.wrap ((U0 ou).n + 1) = (U0 ou).n + 1 from wrap_i64 (by omega) (by omega)))) rfl ?_
    refine op_run (r_fieldAddr rfl rfl rfl rfl rfl) rfl ?_
    refine o_store (v := (.int .i64 ((U0 ou).n + 1))) rfl rfl rfl rfl hB11' (by show 2 < 3; decide) rfl ?_; intro w13 hB13 hk13 hs13
    have hB13' : Blk w13 b6 (useR ⟨-1, (U0 ou).slot, (U0 ou).n + 1⟩) 79 := hB13
    have hk13' : Keep (· ≠ b6) w8 w13 := hk11.trans hk13
    have h13 : IdxM w13 mb bm L := ⟨hk13'.blk' h8.m (by have := h1.m.lt; omega), h8.u.keep hk13' (by omega)⟩
    have hB113 := hk13'.blk' hB18 (by omega)
    refine ops_nil ?_
    refine W_seq ?_
    refine W_held (fun w' => Keep (· ≠ bm) w13 w') (by kernel_rfl) ((Keep.drawn w13).all) (fun hS => ?_)
    refine any_mvt 0 rfl (by kernel_rfl) (by kernel_rfl) (by kernel_rfl) rfl hS ?_
    refine any_run 1 (fun w' hS' => (r_nilCheck rfl)) rfl (by kernel_rfl) (by kernel_rfl) (by kernel_rfl) rfl hS ?_
    refine any_run 2 (fun w' hS' => (r_fieldAddr rfl rfl rfl rfl rfl)) rfl (by kernel_rfl) (by kernel_rfl) (by kernel_rfl) rfl hS ?_
    refine any_run 3 (fun w' hS' => (r_load rfl rfl rfl (((hS'.blk' h13.m hne).cell rfl)))) rfl (by kernel_rfl) (by kernel_rfl) (by kernel_rfl) rfl hS ?_
    refine any_run 4 (fun w' hS' => (r_loadA (dgR x) rfl rfl rfl (by first | rfl | (rw [binV_len]; rfl) | (rw [dgR_len]; rfl) | (rw [refR_len]; rfl) | (rw [secR_len]; rfl) | (rw [List.length_map, tagF_len]; rfl) | (rw [dgR_len]; rfl)) ((Blk.all (hS'.blk' hB113 (by omega)))))) rfl (by kernel_rfl) (by kernel_rfl) (by kernel_rfl) rfl hS ?_
    refine any_run 5 (fun w' hS' => (r_loadA (useR ⟨-1, (U0 ou).slot, (U0 ou).n + 1⟩) rfl rfl rfl (by first | rfl | (rw [binV_len]; rfl) | (rw [dgR_len]; rfl) | (rw [refR_len]; rfl) | (rw [secR_len]; rfl) | (rw [List.length_map, tagF_len]; rfl) | (rw [dgR_len]; rfl)) ((Blk.all (hS'.blk' hB13' (by omega)))))) rfl (by kernel_rfl) (by kernel_rfl) (by kernel_rfl) rfl hS ?_
    refine any_one 6 (by kernel_rfl) (one_of rfl ?_)
    refine o_mapUpdG (a := x) (v := useV ⟨-1, (U0 ou).slot, (U0 ou).n + 1⟩) (keyOk_D) rfl rfl rfl rfl ((h13.k (Keep.drawn w13)).u) rfl ?_; intro w18 hM18 hk18 hs18
    refine ops_nil ⟨(hS.trans hk18), fun hS => ?_⟩
    refine any_done (by kernel_rfl) ?_
    refine W_seq ?_
    refine W_region ?_
    refine o_mvt rfl ?_
    refine op_run (r_not rfl) rfl ?_
    refine o_ast rfl ?_
    refine ops_nil ?_
    refine W_ret ?_
    refine ret1 (.bool (!ou.isSome)) rfl ?_ ?_; rfl
    have hou : ou = none := by
      cases hh : ou with
      | none => rfl
      | some u => rw [hh] at h10; simp at h10
    have e1 : (⟨-1, (U0 ou).slot, (U0 ou).n + 1⟩ : UV) = holdU ou := by rw [hou]; rfl
    refine ⟨by rw [hou]; rfl, ⟨hS.blk' h13.m hne, by rw [← e1]; exact hM18⟩, ?_⟩
    have hk08 := hk1.trans hS0
    exact (hk08.new hk13' (by omega)).all.trans hS
  · refine W_skip ?_
    refine W_seq ?_
    refine W_region ?_
    refine op_run (r_fieldAddr rfl rfl rfl rfl rfl) rfl ?_
    refine op_run (r_load rfl rfl rfl (hB8'.cell rfl)) rfl ?_
    refine op_run ((r_add rfl rfl).val (congrArg (Value.int .i64) (show IntKind.i64.wrap ((U0 ou).n + 1) = (U0 ou).n + 1 from wrap_i64 (by omega) (by omega)))) rfl ?_
    refine op_run (r_fieldAddr rfl rfl rfl rfl rfl) rfl ?_
    refine o_store (v := (.int .i64 ((U0 ou).n + 1))) rfl rfl rfl rfl hB8' (by show 2 < 3; decide) rfl ?_; intro w22 hB22 hk22 hs22
    have hB22' : Blk w22 b6 (useR ⟨(U0 ou).bin, (U0 ou).slot, (U0 ou).n + 1⟩) 79 := hB22
    have h22 : IdxM w22 mb bm L := ⟨hk22.blk' h8.m (by have := h1.m.lt; omega), h8.u.keep hk22 (by omega)⟩
    have hB122 := hk22.blk' hB18 (by omega)
    refine ops_nil ?_
    refine W_seq ?_
    refine W_held (fun w' => Keep (· ≠ bm) w22 w') (by kernel_rfl) ((Keep.drawn w22).all) (fun hS => ?_)
    refine any_mvt 0 rfl (by kernel_rfl) (by kernel_rfl) (by kernel_rfl) rfl hS ?_
    refine any_run 1 (fun w' hS' => (r_nilCheck rfl)) rfl (by kernel_rfl) (by kernel_rfl) (by kernel_rfl) rfl hS ?_
    refine any_run 2 (fun w' hS' => (r_fieldAddr rfl rfl rfl rfl rfl)) rfl (by kernel_rfl) (by kernel_rfl) (by kernel_rfl) rfl hS ?_
    refine any_run 3 (fun w' hS' => (r_load rfl rfl rfl (((hS'.blk' h22.m hne).cell rfl)))) rfl (by kernel_rfl) (by kernel_rfl) (by kernel_rfl) rfl hS ?_
    refine any_run 4 (fun w' hS' => (r_loadA (dgR x) rfl rfl rfl (by first | rfl | (rw [binV_len]; rfl) | (rw [dgR_len]; rfl) | (rw [refR_len]; rfl) | (rw [secR_len]; rfl) | (rw [List.length_map, tagF_len]; rfl) | (rw [dgR_len]; rfl)) ((Blk.all (hS'.blk' hB122 (by omega)))))) rfl (by kernel_rfl) (by kernel_rfl) (by kernel_rfl) rfl hS ?_
    refine any_run 5 (fun w' hS' => (r_loadA (useR ⟨(U0 ou).bin, (U0 ou).slot, (U0 ou).n + 1⟩) rfl rfl rfl (by first | rfl | (rw [binV_len]; rfl) | (rw [dgR_len]; rfl) | (rw [refR_len]; rfl) | (rw [secR_len]; rfl) | (rw [List.length_map, tagF_len]; rfl) | (rw [dgR_len]; rfl)) ((Blk.all (hS'.blk' hB22' (by omega)))))) rfl (by kernel_rfl) (by kernel_rfl) (by kernel_rfl) rfl hS ?_
    refine any_one 6 (by kernel_rfl) (one_of rfl ?_)
    refine o_mapUpdG (a := x) (v := useV ⟨(U0 ou).bin, (U0 ou).slot, (U0 ou).n + 1⟩) (keyOk_D) rfl rfl rfl rfl ((h22.k (Keep.drawn w22)).u) rfl ?_; intro w27 hM27 hk27 hs27
    refine ops_nil ⟨(hS.trans hk27), fun hS => ?_⟩
    refine any_done (by kernel_rfl) ?_
    refine W_seq ?_
    refine W_region ?_
    refine o_mvt rfl ?_
    refine op_run (r_not rfl) rfl ?_
    refine o_ast rfl ?_
    refine ops_nil ?_
    refine W_ret ?_
    refine ret1 (.bool (!ou.isSome)) rfl ?_ ?_; rfl
    obtain ⟨u, hou⟩ : ∃ u, ou = some u := by
      cases hh : ou with
      | none => rw [hh] at h10; simp at h10
      | some u => exact ⟨u, rfl⟩
    have e1 : (⟨(U0 ou).bin, (U0 ou).slot, (U0 ou).n + 1⟩ : UV) = holdU ou := by rw [hou]; rfl
    refine ⟨by rw [hou]; rfl, ⟨hS.blk' h22.m hne, by rw [← e1]; exact hM27⟩, ?_⟩
    have hk08 := hk1.trans hS0
    exact (hk08.new hk22 (by omega)).all.trans hS
theorem ix_Free (w : World) (mb bm : Nat) (L : List (Dig × Value)) (x : Dig) (u : UV) (h : IdxM w mb bm L) (hg : getA L x = some (useV u)) (hn : 0 ≤ u.n ∧ u.n < 2147483648) :
    Ret Try.prog 33 [.pointer (some ⟨mb, 0, none⟩), .agg (dgR x).toArray].toArray w fun r w' => r = .tuple #[.bool (decide (¬ 0 < u.n - 1)), .int .i64 0] ∧ IdxM w' mb bm (if 0 < u.n - 1 then setA L x (useV ⟨u.bin, u.slot, u.n - 1⟩) else delP (setA L x (useV ⟨u.bin, u.slot, u.n - 1⟩)) x) ∧ Keep (· ≠ bm) w w' := by
  have hne := h.ne
  have hbl := h.u.lt
  refine enter (fn := Try.f33) (n := 37) Try.func33 rfl rfl (by simp) ?_
  refine W_seq ?_
  refine W_region ?_
  refine o_box rfl rfl rfl ?_; intro w1 b1 e1 hB1 hk1 hs1
  have h1 := h.k hk1
  have hB1' : Blk w1 b1 (dgR x) 41 := hB1
  refine o_asc rfl ?_
  refine o_asc rfl ?_
  refine ops_nil ?_
  refine W_seq ?_
  refine W_held (fun w' => Keep All w1 w') (by kernel_rfl) ((Keep.drawn w1)) (fun hS => ?_)
  refine any_mvt 0 rfl (by kernel_rfl) (by kernel_rfl) (by kernel_rfl) rfl hS ?_
  refine any_run 1 (fun w' hS' => (r_nilCheck rfl)) rfl (by kernel_rfl) (by kernel_rfl) (by kernel_rfl) rfl hS ?_
  refine any_run 2 (fun w' hS' => (r_fieldAddr rfl rfl rfl rfl rfl)) rfl (by kernel_rfl) (by kernel_rfl) (by kernel_rfl) rfl hS ?_
  refine any_run 3 (fun w' hS' => (r_load rfl rfl rfl (((hS'.blk' h1.m trivial).cell rfl)))) rfl (by kernel_rfl) (by kernel_rfl) (by kernel_rfl) rfl hS ?_
  refine any_run 4 (fun w' hS' => (r_loadA (dgR x) rfl rfl rfl (by first | rfl | (rw [binV_len]; rfl) | (rw [dgR_len]; rfl) | (rw [refR_len]; rfl) | (rw [secR_len]; rfl) | (rw [List.length_map, tagF_len]; rfl) | (rw [dgR_len]; rfl)) ((Blk.all (hS'.blk' hB1' trivial))))) rfl (by kernel_rfl) (by kernel_rfl) (by kernel_rfl) rfl hS ?_
  refine any_run 5 (fun w' hS' => ((r_lookupGok (a := x) (keyOk_D) rfl rfl rfl ti_use ((h1.u.keep hS' trivial))).val ((lk_use (ou := some u) hg)))) rfl (by kernel_rfl) (by kernel_rfl) (by kernel_rfl) rfl hS ?_
  refine any_mvt 6 rfl (by kernel_rfl) (by kernel_rfl) (by kernel_rfl) rfl hS ?_
  refine any_run 7 (fun w' hS' => (r_extract rfl rfl)) rfl (by kernel_rfl) (by kernel_rfl) (by kernel_rfl) rfl hS ?_
  refine any_run 8 (fun w' hS' => (r_extract rfl rfl)) rfl (by kernel_rfl) (by kernel_rfl) (by kernel_rfl) rfl hS ?_
  refine any_one 9 (by kernel_rfl) (one_of rfl ?_)
  refine o_alloc rfl rfl rfl ?_; intro w6 b6 e6 hB6 hk6 hs6
  have e6 : b6 = w1.heap.size := e6
  have hB6' : Blk w6 b6 (useR ⟨0, 0, 0⟩) 79 := hB6
  refine ops_nil ⟨(hS.trans hk6), fun hS => ?_⟩
  refine any_one 10 (by kernel_rfl) (one_of rfl ?_)
  refine o_storeA (cs := useR u) rfl rfl (by first | rfl | exact binV_one _ | exact dgR_one _ | exact refR_one _ | exact secR_one _ | exact all_c8 _ | exact useR_one _ | exact dgR_one _) (by first | rfl | (rw [binV_len]; rfl) | (rw [dgR_len]; rfl) | (rw [refR_len]; rfl) | (rw [secR_len]; rfl) | (rw [List.length_map, tagF_len]; rfl) | (rw [dgR_len]; rfl)) hB6' (by show 0 + 3 ≤ 3; decide) rfl ?_; intro w8 hB8 hk8 hs8
  have hB8' : Blk w8 b6 (useR u) 79 := hB8
  refine ops_nil ⟨(hS.new hk8 (by have := hS.size; omega)), fun hS => ?_⟩
  have hz1 := hk1.size
  have hz8 := hS.size
  have h8 := h1.k hS
  have hB18 := hS.blk' hB1' trivial
  have hS0 := hS
  refine any_ast 11 rfl (by kernel_rfl) (by kernel_rfl) (by kernel_rfl) rfl hS ?_
  refine any_done (by kernel_rfl) ?_
  refine W_seq ?_
  refine W_seq ?_
  refine W_region ?_
  refine o_mvt rfl ?_
  refine op_run (r_not rfl) rfl ?_
  refine ops_nil ?_
  refine W_no rfl (rfl) ?_
  refine W_skip ?_
  refine W_seq ?_
  refine W_region ?_
  refine op_run (r_fieldAddr rfl rfl rfl rfl rfl) rfl ?_
  refine op_run (r_load rfl rfl rfl (hB8'.cell rfl)) rfl ?_
  refine op_run ((r_sub rfl rfl).val (congrArg (Value.int .i64) (show IntKind.i64.wrap (u.n - 1) = u.n - 1 from wrap_i64 (by omega) (by omega)))) rfl ?_
  refine op_run (r_fieldAddr rfl rfl rfl rfl rfl) rfl ?_
  refine o_store (v := (.int .i64 (u.n - 1))) rfl rfl rfl rfl hB8' (by show 2 < 3; decide) rfl ?_; intro w13 hB13 hk13 hs13
  have hB13' : Blk w13 b6 (useR ⟨u.bin, u.slot, u.n - 1⟩) 79 := hB13
  have h13 : IdxM w13 mb bm L := ⟨hk13.blk' h8.m (by have := h1.m.lt; omega), h8.u.keep hk13 (by omega)⟩
  have hB113 := hk13.blk' hB18 (by omega)
  have hk08 := (hk1.trans hS0).new hk13 (by omega)
  refine ops_nil ?_
  refine W_seq ?_
  refine W_held (fun w' => Keep (· ≠ bm) w13 w') (by kernel_rfl) ((Keep.drawn w13).all) (fun hS => ?_)
  refine any_mvt 0 rfl (by kernel_rfl) (by kernel_rfl) (by kernel_rfl) rfl hS ?_
  refine any_run 1 (fun w' hS' => (r_nilCheck rfl)) rfl (by kernel_rfl) (by kernel_rfl) (by kernel_rfl) rfl hS ?_
  refine any_run 2 (fun w' hS' => (r_fieldAddr rfl rfl rfl rfl rfl)) rfl (by kernel_rfl) (by kernel_rfl) (by kernel_rfl) rfl hS ?_
  refine any_run 3 (fun w' hS' => (r_load rfl rfl rfl (((hS'.blk' h13.m hne).cell rfl)))) rfl (by kernel_rfl) (by kernel_rfl) (by kernel_rfl) rfl hS ?_
  refine any_run 4 (fun w' hS' => (r_loadA (dgR x) rfl rfl rfl (by first | rfl | (rw [binV_len]; rfl) | (rw [dgR_len]; rfl) | (rw [refR_len]; rfl) | (rw [secR_len]; rfl) | (rw [List.length_map, tagF_len]; rfl) | (rw [dgR_len]; rfl)) ((Blk.all (hS'.blk' hB113 (by omega)))))) rfl (by kernel_rfl) (by kernel_rfl) (by kernel_rfl) rfl hS ?_
  refine any_run 5 (fun w' hS' => (r_loadA (useR ⟨u.bin, u.slot, u.n - 1⟩) rfl rfl rfl (by first | rfl | (rw [binV_len]; rfl) | (rw [dgR_len]; rfl) | (rw [refR_len]; rfl) | (rw [secR_len]; rfl) | (rw [List.length_map, tagF_len]; rfl) | (rw [dgR_len]; rfl)) ((Blk.all (hS'.blk' hB13' (by omega)))))) rfl (by kernel_rfl) (by kernel_rfl) (by kernel_rfl) rfl hS ?_
  refine any_one 6 (by kernel_rfl) (one_of rfl ?_)
  refine o_mapUpdG (a := x) (v := useV ⟨u.bin, u.slot, u.n - 1⟩) (keyOk_D) rfl rfl rfl rfl ((h13.k (Keep.drawn w13)).u) rfl ?_; intro w18 hM18 hk18 hs18
  refine ops_nil ⟨(hS.trans hk18), fun hS => ?_⟩
  have hB19 := hS.blk' hB13' (by omega)
  have hB119 := hS.blk' hB113 (by omega)
  have h19 : IdxM w18 mb bm (setA L x (useV ⟨u.bin, u.slot, u.n - 1⟩)) := ⟨hS.blk' h13.m hne, hM18⟩
  have hk19 := hk08.all.trans hS
  refine any_done (by kernel_rfl) ?_
  refine W_seq ?_
  refine W_seq ?_
  refine W_region ?_
  refine op_run (r_fieldAddr rfl rfl rfl rfl rfl) rfl ?_
  refine op_run (r_load rfl rfl rfl (hB19.cell rfl)) rfl ?_
  refine op_run (r_gtr rfl rfl) rfl ?_
  refine ops_nil ?_
  refine W_cond_p rfl (fun h21 => ?_) (fun h21 => ?_)
  · refine W_seq ?_
    refine W_region ?_
    refine o_asc rfl ?_
    refine o_asc rfl ?_
    refine ops_nil ?_
    refine W_ret ?_
    refine ret2 (.bool false) (.int .i64 0) rfl ?_ ?_ ?_; rfl; rfl
    have h21 : 0 < u.n - 1 := h21
    rw [if_pos h21, decide_eq_false (fun hh => hh h21)]
    exact ⟨rfl, h19, hk19⟩
  · refine W_skip ?_
    refine W_seq ?_
    refine W_held (fun w' => Keep (· ≠ bm) w18 w') (by kernel_rfl) ((Keep.drawn w18).all) (fun hS => ?_)
    refine any_mvt 0 rfl (by kernel_rfl) (by kernel_rfl) (by kernel_rfl) rfl hS ?_
    refine any_run 1 (fun w' hS' => (r_nilCheck rfl)) rfl (by kernel_rfl) (by kernel_rfl) (by kernel_rfl) rfl hS ?_
    refine any_run 2 (fun w' hS' => (r_fieldAddr rfl rfl rfl rfl rfl)) rfl (by kernel_rfl) (by kernel_rfl) (by kernel_rfl) rfl hS ?_
    refine any_run 3 (fun w' hS' => (r_load rfl rfl rfl (((hS'.blk' h19.m hne).cell rfl)))) rfl (by kernel_rfl) (by kernel_rfl) (by kernel_rfl) rfl hS ?_
    refine any_run 4 (fun w' hS' => (r_loadA (dgR x) rfl rfl rfl (by first | rfl | (rw [binV_len]; rfl) | (rw [dgR_len]; rfl) | (rw [refR_len]; rfl) | (rw [secR_len]; rfl) | (rw [List.length_map, tagF_len]; rfl) | (rw [dgR_len]; rfl)) ((Blk.all (hS'.blk' hB119 (by omega)))))) rfl (by kernel_rfl) (by kernel_rfl) (by kernel_rfl) rfl hS ?_
    refine any_one 5 (by kernel_rfl) (one_of rfl ?_)
    refine o_mapDelG (a := x) (keyOk_D) rfl rfl rfl ((h19.k (Keep.drawn w18)).u) rfl ?_; intro w26 hM26 hk26 hs26
    refine ops_nil ⟨(hS.trans hk26), fun hS => ?_⟩
    refine any_done (by kernel_rfl) ?_
    refine W_seq ?_
    refine W_region ?_
    refine o_asc rfl ?_
    refine o_asc rfl ?_
    refine ops_nil ?_
    refine W_ret ?_
    refine ret2 (.bool true) (.int .i64 0) rfl ?_ ?_ ?_; rfl; rfl
    have h21 : ¬ 0 < u.n - 1 := h21
    rw [if_neg h21, decide_eq_true h21]
    exact ⟨rfl, ⟨hS.blk' h19.m hne, hM26⟩, hk19.trans hS⟩
theorem lw11_speaks (w : World) : Ret Try.prog 8 [].toArray w fun r w' => r = .bool true ∧ Keep All w w' := by
  refine enter (fn := Try.f8) (n := 47) Try.func8 rfl rfl (by simp) ?_
  refine W_seq ?_
  refine W_region ?_
  refine o_asc rfl ?_
  refine ops_nil ?_
  refine W_seq ?_
  refine W_region ?_
  refine op_call rfl rfl rfl (ix_New w) ?_; rintro v1 w1 ⟨mb, bm, rfl, h1, hk1, hb1, hb2, hb3⟩
  have g1 : IdxM w1 mb bm [] := ⟨h1.m, h1.u⟩
  refine o_ast rfl ?_
  refine ops_nil ?_
  refine W_seq ?_
  refine W_region ?_
  refine o_mvt rfl ?_
  refine op_run (r_buildA (dgR Dig.zero) (_) ([]) rfl rfl rfl rfl rfl (rfl)) rfl ?_
  refine op_call rfl rfl rfl (ix_Hold w1 mb bm _ Dig.zero none g1 rfl (by decide)) ?_; rintro v3 w3 ⟨rfl, h3, hk3⟩
  refine o_mvt rfl ?_
  refine op_run (r_buildA (dgR Dig.zero) (_) ([]) rfl rfl rfl rfl rfl (rfl)) rfl ?_
  refine op_call rfl rfl rfl (ix_Hold w3 mb bm _ Dig.zero (some ⟨-1, 0, 1⟩) h3 (by rw [getA_set, if_pos rfl]; rfl) (by decide)) ?_; rintro v5 w5 ⟨rfl, h5, hk5⟩
  refine o_ast rfl ?_
  refine o_ast rfl ?_
  refine ops_nil ?_
  refine W_seq ?_
  refine W_region ?_
  refine o_mvt rfl ?_
  refine op_run (r_buildA (dgR Dig.zero) (_) ([]) rfl rfl rfl rfl rfl (rfl)) rfl ?_
  refine op_call rfl rfl rfl (ix_Free w5 mb bm _ Dig.zero ⟨-1, 0, 2⟩ h5 (by rw [getA_set, if_pos rfl]; rfl) (by decide)) ?_; rintro v7 w7 ⟨rfl, h7, hk7⟩
  rw [if_pos (by decide)] at h7
  refine o_mvt rfl ?_
  refine op_run (r_extract rfl rfl) rfl ?_
  refine op_run (r_extract rfl rfl) rfl ?_
  refine o_ast rfl ?_
  refine o_ast rfl ?_
  refine ops_nil ?_
  refine W_seq ?_
  refine W_region ?_
  refine o_mvt rfl ?_
  refine op_run (r_buildA (dgR Dig.zero) (_) ([]) rfl rfl rfl rfl rfl (rfl)) rfl ?_
  refine op_call rfl rfl rfl (ix_Free w7 mb bm _ Dig.zero ⟨-1, 0, 1⟩ h7 (by rw [getA_set, if_pos rfl]; rfl) (by decide)) ?_; rintro v9 w9 ⟨rfl, h9, hk9⟩
  refine o_mvt rfl ?_
  refine op_run (r_extract rfl rfl) rfl ?_
  refine op_run (r_extract rfl rfl) rfl ?_
  refine o_ast rfl ?_
  refine o_ast rfl ?_
  refine ops_nil ?_
  refine W_seq ?_
  refine W_region ?_
  refine o_mvt rfl ?_
  refine o_mvt rfl ?_
  refine g_split rfl rfl rfl (fun g10 => ?_) (fun g => absurd g (by simp))
  refine o_mvt (g_yes rfl rfl rfl g10) ?_
  refine op_run (r_not rfl) (g_yes rfl rfl rfl g10) ?_
  refine o_pkTt rfl g10 rfl ?_
  refine o_mvt rfl ?_
  refine g_split rfl rfl rfl (fun g11 => ?_) (fun g => absurd g (by simp))
  refine o_mvt (g_yes rfl rfl rfl (by rw [g11] <;> rfl)) ?_
  refine op_run (r_not rfl) (g_yes rfl rfl rfl (by rw [g11] <;> rfl)) ?_
  refine o_pkTt rfl (by rw [g11] <;> rfl) rfl ?_
  refine o_mvt rfl ?_
  refine g_split rfl rfl rfl (fun g12 => ?_) (fun g => absurd g (by simp))
  refine o_mvt (g_yes rfl rfl rfl (by rw [g12] <;> rfl)) ?_
  refine o_pkTt rfl (by rw [g12] <;> rfl) rfl ?_
  refine o_mvt rfl ?_
  refine g_split rfl rfl rfl (fun g13 => ?_) (fun g => absurd g (by simp))
  refine o_mvt (g_yes rfl rfl rfl g13) ?_
  refine op_run (r_eql rfl rfl) (g_yes rfl rfl rfl g13) ?_
  refine o_pkTt rfl g13 rfl ?_
  refine o_mvt rfl ?_
  refine g_split rfl rfl rfl (fun g14 => ?_) (fun g => absurd g (by simp))
  refine o_mvt (g_yes rfl rfl rfl g14) ?_
  refine op_run (r_eql rfl rfl) (g_yes rfl rfl rfl g14) ?_
  refine o_pkTt rfl g14 rfl ?_
  refine o_ast rfl ?_
  refine ops_nil ?_
  refine W_ret ?_
  refine ret1 (.bool true) rfl ?_ ?_; rfl
  exact ⟨rfl, (((hk1.new hk3 hb1).new hk5 hb1).new hk7 hb1).new hk9 hb1⟩
end Go.Proofs.Ytkmciohghhffnaa.B
