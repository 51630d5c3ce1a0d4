/-
  Volumes that are read: sporranref12.Same.
-/
import Derived.Test.YtkmciohghhffnaaGreatVImgW
namespace Go.Proofs.YtkmciohghhffnaaGreat.B
open Go
set_option linter.unusedVariables false
set_option maxHeartbeats 2000000
set_option maxRecDepth 100000
attribute [local irreducible] W OpsW OpsQ retP
structure ImgsS (w : World) (v : Value) (L : List Img) (ys : List (Img × Value)) : Prop where
  e : ys.map (·.1) = L
  o : Sl w v L.length 4 (rows imR ys)
  b : ∀ y ∈ ys, Sl w y.2 y.1.bl.length 33 (rows nbR y.1.bl)
theorem ImgsO.s {w : World} {v : Value} {L : List Img} {ys : List (Img × Value)} (h : ImgsO w v L ys) : ImgsS w v L ys := ⟨h.e, h.o.sl, fun y hy => (h.b y hy).sl⟩
theorem ImgsS.k {w w' : World} {v : Value} {L : List Img} {ys : List (Img × Value)} (h : ImgsS w v L ys) (hk : Keep All w w') : ImgsS w' v L ys :=
  ⟨h.e, h.o.keep hk (fun _ _ => trivial), fun y hy => (h.b y hy).keep hk (fun _ _ => trivial)⟩
theorem ImgsS.len {w : World} {v : Value} {L : List Img} {ys : List (Img × Value)} (h : ImgsS w v L ys) : ys.length = L.length := by rw [← h.e, List.length_map]
theorem ImgsS.at {w : World} {v : Value} {L : List Img} {ys : List (Img × Value)} (h : ImgsS w v L ys) {k : Nat} (hk : k < L.length) : ∃ i x b off c, ys[k]? = some (i, x) ∧ L[k]? = some i ∧ v = .slice (some ⟨b, off, none⟩) L.length c ∧
    (∀ j u, (imR (i, x))[j]? = some u → w.cell? ⟨b, off + k * 4 + j, none⟩ = some u) ∧ Sl w x i.bl.length 33 (rows nbR i.bl) := by
  obtain ⟨b, off, c, e, _, _, hc⟩ := h.o.at (show 0 < L.length * 4 by omega)
  have hk' : k < ys.length := by rw [h.len]; exact hk
  have hy : ys[k]? = some ys[k] := List.getElem?_eq_getElem hk'
  refine ⟨ys[k].1, ys[k].2, b, off, c, hy, ?_, e, fun j u hj => ?_, h.b _ (List.getElem_mem hk')⟩
  · rw [← h.e, List.getElem?_map, hy]; rfl
  · rw [Nat.add_assoc]
    refine hc _ u ?_
    have hj4 : j < 4 := (List.getElem?_eq_some_iff.1 hj).1
    rw [rows_get imR_len hk' hj4]; exact hj
/-- Where a numbered block lies. -/
theorem nb_at {w : World} {v : Value} {bl : List (Int × Bk)} (h : Sl w v bl.length 33 (rows nbR bl)) {k : Nat} (hk : k < bl.length) : ∃ p b off c, bl[k]? = some p ∧ v = .slice (some ⟨b, off, none⟩) bl.length c ∧ ∀ j u, (nbR p)[j]? = some u → w.cell? ((⟨b, off + k * 33, none⟩ : Addr).add j) = some u := by
  obtain ⟨a, c, rfl, _⟩ := h.form
  obtain ⟨b, off, rfl, hc⟩ := rows_at' nbR_len h hk (by decide)
  exact ⟨_, b, off, c, List.getElem?_eq_getElem hk, rfl, hc⟩
theorem okC_nb (p : Int × Bk) : okC Tryz.prog 3 71 (nbR p) := by
  show okC Tryz.prog (2 + 1) 71 (nbR p)
  unfold okC
  rw [Tryz.underlying71]
  simp only
  refine ⟨by kernel_rfl, by rw [nbR_len]; kernel_rfl, ?_⟩
  have c0 : Tryz.prog.cellsOf 29 = 32 := by kernel_rfl
  have c1 : Tryz.prog.cellsOf 3 = 1 := by kernel_rfl
  intro f hf
  simp only [List.mem_cons, List.not_mem_nil, or_false] at hf
  rcases hf with rfl | rfl
  · refine ⟨by kernel_rfl, ?_⟩
    simp only [c1]
    exact ⟨p.1, by unfold nbR; rfl⟩
  · refine ⟨by kernel_rfl, ?_⟩
    simp only [c0]
    rw [show ((nbR p).drop 1).take 32 = blkR p.2 by unfold nbR; rw [List.drop_succ_cons, List.drop_zero]; exact List.take_of_length_le (Nat.le_of_eq (blkR_len _))]
    exact okC_bk p.2
theorem rf12_Same (w : World) (va vb : Value) (L : List Img) (ya yb : List (Img × Value)) (ha : ImgsS w va L ya) (hb : ImgsS w vb L yb) (hL : ∀ i ∈ L, i.bl.length ≤ 1000000) : Ret Tryz.prog 10 [va, vb].toArray w fun r w' => r = .bool true ∧ Keep All w w' := by
  obtain ⟨a0, c0, rfl, _, hca⟩ := ha.o.form
  obtain ⟨a1, c1, rfl, _, hcb⟩ := hb.o.form
  refine enter (fn := Tryz.f10) (n := 97) Tryz.func10 rfl rfl (by simp) ?_
  refine W_seq ?_
  refine W_region ?_
  refine o_asc rfl ?_
  refine ops_nil ?_
  refine W_seq ?_
  refine W_seq ?_
  refine W_region ?_
  refine o_mvt rfl ?_
  refine op_run (r_len rfl rfl rfl) rfl ?_
  refine o_mvt rfl ?_
  refine op_run (r_len rfl rfl rfl) rfl ?_
  refine op_run (r_neq rfl rfl) rfl ?_
  refine ops_nil ?_
  refine W_no rfl (by simp) ?_
  refine W_skip ?_
  refine W_seq ?_
  refine W_seq ?_
  refine W_region ?_
  refine o_asc rfl ?_
  refine ops_nil ?_
  refine W_block ?_
  refine W_loop [5] [4, 5, 6, 12, 13, 14, 15, 16, 17, 18, 19, 20, 21, 22, 23, 24, 25, 26, 27, 28, 29, 30, 31, 32, 33, 34, 35, 36, 37, 38, 39, 40, 41, 42, 43, 44, 45, 46, 47, 48, 49, 50, 51, 52, 53, 54, 55, 56, 57, 58, 59, 60, 61, 62, 63, 64, 65, 66, 67, 68, 69, 70, 71, 72, 73, 74, 75, 76, 77, 78, 79, 80, 81, 82, 83, 84, 85, 86, 87, 88, 89, 90, 91, 92, 93, 94, 95, 96] (fun vs w' => ∃ k : Nat, vs = [.int .i64 k] ∧ k ≤ L.length ∧ Keep All w w') (fun vs _ => match vs with | [.int _ y] => L.length - y.toNat | _ => 0) ⟨0, rfl, Nat.zero_le _, Keep.refl _⟩ ?_
  rintro J3 vs w3 ⟨k, rfl, hk, hkw⟩ -
  refine W_seq ?_
  refine W_seq ?_
  refine W_region ?_
  refine o_mvt rfl ?_
  refine o_mvt rfl ?_
  refine op_run (r_len rfl rfl rfl) rfl ?_
  refine op_run (r_lss rfl rfl) rfl ?_
  refine ops_nil ?_
  refine W_cond_p rfl (fun h4 => ?_) (fun h4 => ?_)
  · refine W_skip ?_
    refine W_seq ?_
    refine W_block ?_
    refine W_seq ?_
    have hkl : k < L.length := by omega
    obtain ⟨i, xa, ba, oa, ca, _, hia, ea, hcxa, hsa⟩ := ha.at hkl
    cases ea
    obtain ⟨i', xb, bb, ob, cb, _, hib, eb, hcxb, hsb⟩ := hb.at hkl
    cases eb
    obtain rfl : i = i' := by rw [hia] at hib; exact Option.some.inj hib
    have hbl := hL i (List.mem_of_getElem? hia)
    obtain ⟨xaa, xac, rfl, _, _⟩ := hsa.form
    obtain ⟨xba, xbc, rfl, _, _⟩ := hsb.form
    have hinc := inc64' k (by unfold maxLen at hca; omega)
    refine W_cut [69] [18, 19, 20, 21, 22, 23, 24, 25, 26, 27, 28, 29, 30, 31, 32, 33, 34, 35, 36, 37, 38, 39, 40, 41, 42, 43, 44, 45, 46, 47, 48, 49, 50, 51, 52, 53, 54, 55, 56, 57, 58, 59, 60, 61, 62, 63, 64, 65, 66, 67, 68, 69] (fun vs w5 => vs = [.bool false] ∧ Keep All w3 w5) ?_ ?_
    · refine W_quiet (Keep All w3) (by kernel_rfl) (by kernel_rfl) (Keep.drawn _) ?_
      refine q_mvt rfl ?_
      refine q_mvt rfl ?_
      refine q_run (fun _ _ => r_idxS rfl rfl rfl rfl (by omega) (by omega)) rfl ?_
      refine q_run (fun _ _ => (r_fieldAddr rfl rfl rfl rfl rfl)) rfl ?_
      refine q_run (fun _ hk => r_load rfl rfl rfl (hk.cell (by rw [Int.toNat_natCast]; exact hkw.cell (hcxa 0 _ rfl) trivial) trivial)) rfl ?_
      refine q_mvt rfl ?_
      refine q_mvt rfl ?_
      refine q_run (fun _ _ => r_idxS rfl rfl rfl rfl (by omega) (by omega)) rfl ?_
      refine q_run (fun _ _ => (r_fieldAddr rfl rfl rfl rfl rfl)) rfl ?_
      refine q_run (fun _ hk => r_load rfl rfl rfl (hk.cell (by rw [Int.toNat_natCast]; exact hkw.cell (hcxb 0 _ rfl) trivial) trivial)) rfl ?_
      refine q_run (fun _ _ => r_neqStr rfl rfl) rfl ?_
      refine q_mvt rfl ?_
      refine q_split rfl rfl rfl (fun g12 => ?_) (fun g => absurd g (by simp))
      refine q_mvt (g_yes rfl rfl rfl g12) ?_
      refine q_mvt (g_yes rfl rfl rfl g12) ?_
      refine q_run (fun _ _ => r_idxS rfl rfl rfl rfl (by omega) (by omega)) (g_yes rfl rfl rfl g12) ?_
      refine q_run (fun _ _ => (r_fieldAddr rfl rfl rfl rfl rfl)) (g_yes rfl rfl rfl g12) ?_
      refine q_run (fun _ hk => r_load rfl rfl rfl (hk.cell (by rw [Int.toNat_natCast]; exact hkw.cell (hcxa 1 _ rfl) trivial) trivial)) (g_yes rfl rfl rfl g12) ?_
      refine q_mvt (g_yes rfl rfl rfl g12) ?_
      refine q_mvt (g_yes rfl rfl rfl g12) ?_
      refine q_run (fun _ _ => r_idxS rfl rfl rfl rfl (by omega) (by omega)) (g_yes rfl rfl rfl g12) ?_
      refine q_run (fun _ _ => (r_fieldAddr rfl rfl rfl rfl rfl)) (g_yes rfl rfl rfl g12) ?_
      refine q_run (fun _ hk => r_load rfl rfl rfl (hk.cell (by rw [Int.toNat_natCast]; exact hkw.cell (hcxb 1 _ rfl) trivial) trivial)) (g_yes rfl rfl rfl g12) ?_
      refine q_run (fun _ _ => (r_neq rfl rfl)) (g_yes rfl rfl rfl g12) ?_
      refine q_pkFt rfl g12 rfl ?_
      refine q_mvt rfl ?_
      refine q_split rfl rfl rfl (fun g17 => ?_) (fun g => absurd g (by simp))
      refine q_mvt (g_yes rfl rfl rfl g17) ?_
      refine q_mvt (g_yes rfl rfl rfl g17) ?_
      refine q_run (fun _ _ => r_idxS rfl rfl rfl rfl (by omega) (by omega)) (g_yes rfl rfl rfl g17) ?_
      refine q_run (fun _ _ => (r_fieldAddr rfl rfl rfl rfl rfl)) (g_yes rfl rfl rfl g17) ?_
      refine q_run (fun _ hk => r_load rfl rfl rfl (hk.cell (by rw [Int.toNat_natCast]; exact hkw.cell (hcxa 2 _ rfl) trivial) trivial)) (g_yes rfl rfl rfl g17) ?_
      refine q_mvt (g_yes rfl rfl rfl g17) ?_
      refine q_mvt (g_yes rfl rfl rfl g17) ?_
      refine q_run (fun _ _ => r_idxS rfl rfl rfl rfl (by omega) (by omega)) (g_yes rfl rfl rfl g17) ?_
      refine q_run (fun _ _ => (r_fieldAddr rfl rfl rfl rfl rfl)) (g_yes rfl rfl rfl g17) ?_
      refine q_run (fun _ hk => r_load rfl rfl rfl (hk.cell (by rw [Int.toNat_natCast]; exact hkw.cell (hcxb 2 _ rfl) trivial) trivial)) (g_yes rfl rfl rfl g17) ?_
      refine q_run (fun _ _ => (r_neqB rfl rfl rfl)) (g_yes rfl rfl rfl g17) ?_
      refine q_pkFt rfl g17 rfl ?_
      refine q_mvt rfl ?_
      refine q_split rfl rfl rfl (fun g22 => ?_) (fun g => absurd g (by simp))
      refine q_mvt (g_yes rfl rfl rfl g22) ?_
      refine q_mvt (g_yes rfl rfl rfl g22) ?_
      refine q_run (fun _ _ => r_idxS rfl rfl rfl rfl (by omega) (by omega)) (g_yes rfl rfl rfl g22) ?_
      refine q_run (fun _ _ => (r_fieldAddr rfl rfl rfl rfl rfl)) (g_yes rfl rfl rfl g22) ?_
      refine q_run (fun _ hk => r_load rfl rfl rfl (hk.cell (by rw [Int.toNat_natCast]; exact hkw.cell (hcxa 3 _ rfl) trivial) trivial)) (g_yes rfl rfl rfl g22) ?_
      refine q_run (fun _ _ => (r_len rfl rfl rfl)) (g_yes rfl rfl rfl g22) ?_
      refine q_mvt (g_yes rfl rfl rfl g22) ?_
      refine q_mvt (g_yes rfl rfl rfl g22) ?_
      refine q_run (fun _ _ => r_idxS rfl rfl rfl rfl (by omega) (by omega)) (g_yes rfl rfl rfl g22) ?_
      refine q_run (fun _ _ => (r_fieldAddr rfl rfl rfl rfl rfl)) (g_yes rfl rfl rfl g22) ?_
      refine q_run (fun _ hk => r_load rfl rfl rfl (hk.cell (by rw [Int.toNat_natCast]; exact hkw.cell (hcxb 3 _ rfl) trivial) trivial)) (g_yes rfl rfl rfl g22) ?_
      refine q_run (fun _ _ => (r_len rfl rfl rfl)) (g_yes rfl rfl rfl g22) ?_
      refine q_run (fun _ _ => (r_neq rfl rfl)) (g_yes rfl rfl rfl g22) ?_
      refine q_pkFt rfl g22 rfl ?_
      refine q_nil ?_; intro w27 hk27
      exact ⟨by (repeat (first | with_reducible exact offM_refl _ _ | refine offM_updc rfl ?_ | refine offM_upd rfl ?_ | refine offM_updo rfl ?_ | refine offM_updo_none ?_ | refine offM_head rfl rfl ?_)), congrArg (fun b => [Value.bool b]) (by simp), hk27⟩
    · rintro J29 vs w29 ⟨rfl, hk29⟩ -
      refine W_no rfl (rfl) ?_
      refine W_skip ?_
      refine W_seq ?_
      refine W_region ?_
      refine o_asc rfl ?_
      refine ops_nil ?_
      refine W_block ?_
      refine W_loop [6] [4, 6, 70, 71, 72, 73, 74, 75, 76, 77, 78, 79, 80, 81, 82, 83, 84, 85, 86, 87, 88, 89, 90, 91, 92, 93, 94, 95, 96] (fun vs w' => ∃ j : Nat, vs = [.int .i64 j] ∧ j ≤ i.bl.length ∧ Keep All w w') (fun vs _ => match vs with | [.int _ y] => i.bl.length - y.toNat | _ => 0) ⟨0, rfl, Nat.zero_le _, hkw.trans hk29⟩ ?_
      rintro J32 vs w32 ⟨j, rfl, hj, hkj⟩ -
      refine W_seq ?_
      refine W_seq ?_
      refine W_region ?_
      refine o_mvt rfl ?_
      refine o_mvt rfl ?_
      refine o_mvt rfl ?_
      refine op_run (r_idxS rfl rfl rfl rfl (by omega) (by omega)) rfl ?_
      refine op_run (r_fieldAddr rfl rfl rfl rfl rfl) rfl ?_
      refine op_run (r_load rfl rfl rfl (by rw [Int.toNat_natCast]; exact hkj.cell (hcxa 3 _ rfl) trivial)) rfl ?_
      refine op_run (r_len rfl rfl rfl) rfl ?_
      refine op_run (r_lss rfl rfl) rfl ?_
      refine ops_nil ?_
      refine W_cond_p rfl (fun h35 => ?_) (fun h35 => ?_)
      · refine W_skip ?_
        refine W_seq ?_
        refine W_block ?_
        refine W_seq ?_
        have hjl : j < i.bl.length := by omega
        obtain ⟨p, pb, po, pc, hp, ep, hcp⟩ := nb_at hsa hjl
        cases ep
        obtain ⟨q, qb, qo, qc, hq, eq_, hcq⟩ := nb_at hsb hjl
        cases eq_
        obtain rfl : p = q := by rw [hp] at hq; exact Option.some.inj hq
        have hinc2 := inc64' j (by omega)
        refine W_quiet (Keep All w32) (by kernel_rfl) (by kernel_rfl) (Keep.drawn _) ?_
        refine q_mvt rfl ?_
        refine q_mvt rfl ?_
        refine q_run (fun _ _ => r_idxS rfl rfl rfl rfl (by omega) (by omega)) rfl ?_
        refine q_run (fun _ _ => (r_fieldAddr rfl rfl rfl rfl rfl)) rfl ?_
        refine q_run (fun _ hk => r_load rfl rfl rfl (hk.cell (by rw [Int.toNat_natCast]; exact hkj.cell (hcxa 3 _ rfl) trivial) trivial)) rfl ?_
        refine q_mvt rfl ?_
        refine q_run (fun _ _ => r_idxS rfl rfl rfl rfl (by omega) (by omega)) rfl ?_
        refine q_run (fun _ hk => r_loadA (nbR p) rfl rfl rfl (by first | rfl | (rw [binV_len]; rfl) | (rw [dgR_len]; rfl) | (rw [refR_len]; rfl) | (rw [secR_len]; rfl) | (rw [List.length_map, tagF_len]; rfl) | (rw [nbR_len]; rfl)) ((fun m u hm => by rw [Int.toNat_natCast]; exact hk.cell (hkj.cell (hcp m u hm) trivial) trivial))) rfl ?_
        refine q_mvt rfl ?_
        refine q_mvt rfl ?_
        refine q_run (fun _ _ => r_idxS rfl rfl rfl rfl (by omega) (by omega)) rfl ?_
        refine q_run (fun _ _ => (r_fieldAddr rfl rfl rfl rfl rfl)) rfl ?_
        refine q_run (fun _ hk => r_load rfl rfl rfl (hk.cell (by rw [Int.toNat_natCast]; exact hkj.cell (hcxb 3 _ rfl) trivial) trivial)) rfl ?_
        refine q_mvt rfl ?_
        refine q_run (fun _ _ => r_idxS rfl rfl rfl rfl (by omega) (by omega)) rfl ?_
        refine q_run (fun _ hk => r_loadA (nbR p) rfl rfl rfl (by first | rfl | (rw [binV_len]; rfl) | (rw [dgR_len]; rfl) | (rw [refR_len]; rfl) | (rw [secR_len]; rfl) | (rw [List.length_map, tagF_len]; rfl) | (rw [nbR_len]; rfl)) ((fun m u hm => by rw [Int.toNat_natCast]; exact hk.cell (hkj.cell (hcq m u hm) trivial) trivial))) rfl ?_
        refine q_run (fun _ _ => (r_neqC (p := True) rfl rfl rfl rfl (by kernel_rfl) ((okC_nb _)) ((okC_nb _)) rfl ((iff_of_true rfl trivial)))) rfl ?_
        refine q_nil ?_; intro w46 hk46
        refine W_no rfl (by simp) ?_
        refine W_skip ?_
        refine W_region ?_
        refine o_mvt rfl ?_
        refine op_run (r_add rfl rfl) rfl ?_
        refine o_ast rfl ?_
        refine ops_nil ?_
        refine ⟨by (repeat (first | with_reducible exact offM_refl _ _ | refine offM_updc rfl ?_ | refine offM_upd rfl ?_ | refine offM_updo rfl ?_ | refine offM_updo_none ?_ | refine offM_head rfl rfl ?_)), ⟨j + 1, congrArg (fun z : Int => [Value.int .i64 z]) hinc2, by omega, hkj.trans hk46⟩, ?_⟩
        show i.bl.length - (IntKind.i64.wrap ((j : Int) + 1)).toNat < i.bl.length - (j : Int).toNat
        rw [hinc2]; omega
      · refine W_exit ?_
        refine W_region ?_
        refine o_mvt rfl ?_
        refine op_run (r_add rfl rfl) rfl ?_
        refine o_ast rfl ?_
        refine ops_nil ?_
        refine ⟨by (repeat (first | with_reducible exact offM_refl _ _ | refine offM_updc rfl ?_ | refine offM_upd rfl ?_ | refine offM_updo rfl ?_ | refine offM_updo_none ?_ | refine offM_head rfl rfl ?_)), ⟨k + 1, congrArg (fun z : Int => [Value.int .i64 z]) hinc, by omega, hkj⟩, ?_⟩
        show L.length - (IntKind.i64.wrap ((k : Int) + 1)).toNat < L.length - (k : Int).toNat
        rw [hinc]; omega
  · refine W_exit ?_
    refine W_seq ?_
    refine W_region ?_
    refine o_asc rfl ?_
    refine ops_nil ?_
    refine W_ret ?_
    refine ret1 (.bool true) rfl ?_ ?_; rfl
    exact ⟨rfl, hkw⟩

end Go.Proofs.YtkmciohghhffnaaGreat.B
