/-
  sporranref15.Blocks.
-/
import Derived.Test.YtkckphbdjkjfgaaDoR2
namespace Go.Proofs.Ytkckphbdjkjfgaa.B
open Go
set_option linter.unusedVariables false
set_option maxHeartbeats 2000000
set_option maxRecDepth 100000
attribute [local irreducible] W OpsW OpsQ retP
/-- Each of a row, once. -/
def DD (bs F : List Bk) : Prop := bs.Nodup ∧ ∀ b, b ∈ bs ↔ b ∈ F
theorem DD.old {bs F : List Bk} {b : Bk} (h : DD bs F) (hb : b ∈ bs) : DD bs (F ++ [b]) := ⟨h.1, fun x => by
  rw [List.mem_append, ← h.2 x, List.mem_singleton]
  exact ⟨.inl, fun hh => hh.elim id (fun e => by rw [e]; exact hb)⟩⟩
theorem DD.new {bs F : List Bk} {b : Bk} (h : DD bs F) (hb : b ∉ bs) : DD (bs ++ [b]) (F ++ [b]) := ⟨List.nodup_append.2 ⟨h.1, by simp, fun x hx y hy e => by rw [List.mem_singleton.1 hy] at e; exact hb (e ▸ hx)⟩, fun x => by
  rw [List.mem_append, List.mem_append, h.2 x]⟩
def flatN (L : List Img) : List Bk := L.flatMap fun i => i.bl.map (·.2)
theorem flatN_snoc (L : List Img) (i : Img) : flatN (L ++ [i]) = flatN L ++ i.bl.map (·.2) := by unfold flatN; rw [List.flatMap_append]; simp
theorem nbR_blk {p : Int × Bk} {m : Nat} {u : Value} (h : (blkR p.2)[m]? = some u) : (nbR p)[1 + m]? = some u := by
  unfold nbR; rw [Nat.add_comm, List.getElem?_cons_succ]; exact h
theorem ti_blk2 : tinfo Try.prog 24 = some (some (.agg (blkR Bk.zero).toArray), 48, 48) := by rw [blkR_zero]; exact ti_bk
theorem rf15_Blocks (w : World) (v : Value) (L : List Img) (ys : List (Img × Value)) (h : ImgsS w v L ys) (hL : L.length ≤ 1000) (hbl : ∀ i ∈ L, i.bl.length ≤ 1000) : Ret Try.prog 21 [v].toArray w fun r w' => (∃ (bs : List Bk) (a : Option Addr) (c : Nat), DD bs (flatN L) ∧ r = .slice a bs.length c) ∧ Keep All w w' := by
  obtain ⟨a0, c0, rfl, hc0, hca⟩ := h.o.form
  refine enter (fn := Try.f21) (n := 57) Try.func21 rfl rfl (by simp) ?_
  refine W_seq ?_
  refine W_region ?_
  refine o_asc rfl ?_
  refine ops_nil ?_
  refine W_seq ?_
  refine W_region ?_
  refine o_bs0 rfl rfl rfl ?_; intro w1 b1 e1 hB1 hk1 hs1
  have hO1 : Own w1 24 48 (.slice (some ⟨b1, 0, none⟩) 0 0) 0 [] := Own.blk hB1 rfl (Nat.zero_le _)
  refine o_ast rfl ?_
  refine ops_nil ?_
  refine W_seq ?_
  refine W_seq ?_
  refine W_region ?_
  refine o_asc rfl ?_
  refine ops_nil ?_
  refine W_block ?_
  refine W_loop [3, 4] [3, 4, 5, 6, 7, 8, 10, 11, 12, 13, 14, 15, 16, 17, 18, 19, 20, 21, 22, 23, 24, 25, 26, 27, 28, 29, 30, 31, 32, 33, 34, 35, 36, 37, 38, 39, 40, 41, 42, 43, 44, 45, 46, 47, 48, 49, 50, 51, 52, 53, 54, 55] (fun vs w' => ∃ (u : Value) (k : Nat) (bs : List Bk), vs = [u, .int .i64 k] ∧ k ≤ L.length ∧ DD bs (flatN (L.take k)) ∧ Own w' 24 48 u bs.length (rows blkR bs) ∧ InB (fun z => w.heap.size ≤ z) u ∧ bs.length ≤ k * 1000 ∧ Keep All w w') (fun vs _ => match vs with | [_, .int _ y] => L.length - y.toNat | _ => 0) ⟨_, 0, [], rfl, Nat.zero_le _, ⟨List.nodup_nil, fun b => Iff.rfl⟩, hO1, (fun z hz => by have hz : some b1 = some z := hz; injection hz with hz; omega), Nat.zero_le _, hk1⟩ ?_
  rintro J2 vs w2 ⟨u, k, bs, rfl, hk, hD, hO, hI, hbs, hkw⟩ -
  refine W_seq ?_
  refine W_seq ?_
  refine W_region ?_
  refine o_mvt rfl ?_
  refine o_mvt rfl ?_
  refine op_run (r_len rfl rfl rfl) rfl ?_
  refine op_run (r_lss rfl rfl) rfl ?_
  refine ops_nil ?_
  refine W_cond_p rfl (fun h3 => ?_) (fun h3 => ?_)
  · refine W_skip ?_
    refine W_seq ?_
    refine W_block ?_
    refine W_seq ?_
    refine W_region ?_
    refine o_asc rfl ?_
    refine ops_nil ?_
    refine W_block ?_
    have hkl : k < L.length := by omega
    obtain ⟨i, xa, ba, oa, ca, _, hia, ea, hcxa, hsa⟩ := h.at hkl
    cases ea
    have hib := hbl i (List.mem_of_getElem? hia)
    obtain ⟨xaa, xac, rfl, _, _⟩ := hsa.form
    have hinc := inc64' k (by omega)
    refine W_loop [3, 5] [3, 5, 6, 7, 8, 16, 17, 18, 19, 20, 21, 22, 23, 24, 25, 26, 27, 28, 29, 30, 31, 32, 33, 34, 35, 36, 37, 38, 39, 40, 41, 42, 43, 44, 45, 46, 47, 48, 49, 50, 51, 52, 53, 54, 55] (fun vs w' => ∃ (u : Value) (j : Nat) (bs : List Bk), vs = [u, .int .i64 j] ∧ j ≤ i.bl.length ∧ DD bs (flatN (L.take k) ++ (i.bl.take j).map (·.2)) ∧ Own w' 24 48 u bs.length (rows blkR bs) ∧ InB (fun z => w.heap.size ≤ z) u ∧ bs.length ≤ k * 1000 + j ∧ Keep All w w') (fun vs _ => match vs with | [_, .int _ y] => i.bl.length - y.toNat | _ => 0) ⟨u, 0, bs, rfl, Nat.zero_le _, by rw [List.take_zero, List.map_nil, List.append_nil]; exact hD, hO, hI, hbs, hkw⟩ ?_
    rintro J4 vs w4 ⟨u, j, bs, rfl, hj, hD, hO, hI, hbs, hkw⟩ -
    refine W_seq ?_
    refine W_seq ?_
    refine W_region ?_
    refine o_mvt rfl ?_
    refine o_mvt rfl ?_
    refine o_mvt rfl ?_
    refine op_run (r_idxS rfl rfl rfl rfl (by omega) (by omega)) rfl ?_
    refine op_run (r_fieldAddr rfl rfl rfl rfl rfl) rfl ?_
    refine op_run (r_load rfl rfl rfl (by rw [Int.toNat_natCast]; exact hkw.cell (hcxa 3 _ rfl) trivial)) rfl ?_
    refine op_run (r_len rfl rfl rfl) rfl ?_
    refine op_run (r_lss rfl rfl) rfl ?_
    refine ops_nil ?_
    refine W_cond_p rfl (fun h7 => ?_) (fun h7 => ?_)
    · refine W_skip ?_
      refine W_seq ?_
      refine W_block ?_
      refine W_seq ?_
      refine W_region ?_
      refine o_mvt rfl ?_
      refine o_mvt rfl ?_
      have hjl : j < i.bl.length := by omega
      obtain ⟨p, pb, po, pc, hp, ep, hcp⟩ := nb_at hsa hjl
      cases ep
      have hinc2 := inc64' j (by omega)
      refine op_run (r_idxS rfl rfl rfl rfl (by omega) (by omega)) rfl ?_
      refine op_run (r_fieldAddr rfl rfl rfl rfl rfl) rfl ?_
      refine op_run (r_load rfl rfl rfl (by rw [Int.toNat_natCast]; exact hkw.cell (hcxa 3 _ rfl) trivial)) rfl ?_
      refine o_mvt rfl ?_
      refine op_run (r_idxS rfl rfl rfl rfl (by omega) (by omega)) rfl ?_
      refine op_run (r_fieldAddr rfl rfl rfl rfl rfl) rfl ?_
      refine op_run (r_loadA (blkR p.2) rfl rfl rfl (by first | rfl | (rw [binV_len]; rfl) | (rw [dgR_len]; rfl) | (rw [refR_len]; rfl) | (rw [secR_len]; rfl) | (rw [List.length_map, tagF_len]; rfl) | (rw [blkR_len]; rfl)) ((fun m u hm => by rw [Int.toNat_natCast, Addr.add_lit]; have h := hcp (1 + m) u (nbR_blk hm); rw [Addr.add_lit, ← Nat.add_assoc] at h; exact hkw.cell h trivial))) rfl ?_
      refine o_alloc rfl rfl rfl ?_; intro w12 b12 e12 hB12 hk12 hs12
      have hB12' : Blk w12 b12 (blkR Bk.zero) 24 := hB12
      refine o_storeA (cs := blkR p.2) rfl rfl (by first | rfl | exact binV_one _ | exact dgR_one _ | exact refR_one _ | exact secR_one _ | exact all_c8 _ | exact blkR_one _) (by first | rfl | (rw [binV_len]; rfl) | (rw [dgR_len]; rfl) | (rw [refR_len]; rfl) | (rw [secR_len]; rfl) | (rw [List.length_map, tagF_len]; rfl) | (rw [blkR_len]; rfl)) hB12' (by exact Nat.le_of_eq (by simp [blkR_len])) rfl ?_; intro w13 hB13 hk13 hs13
      have hB13' : Blk w13 b12 (blkR p.2) 24 := by
        have h := hB13
        rwa [splice_all (by rw [blkR_len, blkR_len])] at h
      have hz4 := hkw.size
      have hk13A := (hkw.trans hk12).new hk13 (by omega)
      have hO13 : Own w13 24 48 u bs.length (rows blkR bs) := (hO.keep hk12 (fun _ _ => trivial)).keep hk13 (fun z hz => by have := hO.lt z hz; omega)
      obtain ⟨ua, uc, eu, _, _⟩ := hO13.form
      subst eu
      refine ops_nil ?_
      refine W_seq ?_
      refine W_region ?_
      refine o_asc rfl ?_
      refine ops_nil ?_
      refine W_seq ?_
      refine W_seq ?_
      refine W_region ?_
      refine o_asc rfl ?_
      refine ops_nil ?_
      refine W_block ?_
      refine W_loop [7, 8] [7, 8, 35, 36, 37, 38, 39, 40, 41, 42, 43, 44, 45, 46, 47, 48, 49] (fun vs w' => ∃ (t : Bool) (m : Nat), vs = [.bool t, .int .i64 m] ∧ m ≤ bs.length ∧ (t = true ↔ p.2 ∈ bs.take m) ∧ Keep All w13 w') (fun vs _ => match vs with | [_, .int _ y] => bs.length - y.toNat | _ => 0) ⟨false, 0, rfl, Nat.zero_le _, by simp, Keep.refl _⟩ ?_
      rintro J14 vs w14 ⟨t, m, rfl, hm, ht, hk14⟩ -
      refine W_seq ?_
      refine W_seq ?_
      refine W_region ?_
      refine o_mvt rfl ?_
      refine o_mvt rfl ?_
      refine op_run (r_len rfl rfl rfl) rfl ?_
      refine op_run (r_lss rfl rfl) rfl ?_
      refine ops_nil ?_
      refine W_cond_p rfl (fun h15 => ?_) (fun h15 => ?_)
      · refine W_skip ?_
        refine W_seq ?_
        refine W_block ?_
        have hml : m < bs.length := by omega
        have hinc3 := inc64' m (by omega)
        obtain ⟨xm, hxm⟩ : ∃ x, bs[m] = x := ⟨_, rfl⟩
        have htk : bs.take (m + 1) = bs.take m ++ [xm] := by rw [← hxm]; exact List.take_succ_eq_append_getElem hml
        refine W_quiet (Keep All w14) (by kernel_rfl) (by kernel_rfl) (Keep.drawn _) ?_
        refine q_mvt rfl ?_
        refine q_mvt rfl ?_
        refine q_split rfl rfl rfl (fun g17 => ?_) (fun g17 => ?_)
        · refine q_mvt (g_yes rfl rfl rfl g17) ?_
          refine q_mvt (g_yes rfl rfl rfl g17) ?_
          obtain ⟨bb, bo, rfl, hcb⟩ := rows_at' blkR_len hO13.sl hml (by decide)
          rw [hxm] at hcb
          refine q_run (fun _ _ => r_idxS rfl rfl rfl rfl (by omega) (by omega)) (g_yes rfl rfl rfl g17) ?_
          refine q_run (fun _ hk => r_loadA (blkR xm) rfl rfl rfl (by first | rfl | (rw [binV_len]; rfl) | (rw [dgR_len]; rfl) | (rw [refR_len]; rfl) | (rw [secR_len]; rfl) | (rw [List.length_map, tagF_len]; rfl) | (rw [blkR_len]; rfl)) ((fun n u hn => by rw [Int.toNat_natCast]; exact hk.cell (hk14.cell (hcb n u hn) trivial) trivial))) (g_yes rfl rfl rfl g17) ?_
          refine q_run (fun _ hk => r_loadA (blkR p.2) rfl rfl rfl (by first | rfl | (rw [binV_len]; rfl) | (rw [dgR_len]; rfl) | (rw [refR_len]; rfl) | (rw [secR_len]; rfl) | (rw [List.length_map, tagF_len]; rfl) | (rw [blkR_len]; rfl)) ((fun n u hn => hk.cell (hk14.cell (hB13'.all n u hn) trivial) trivial))) (g_yes rfl rfl rfl g17) ?_
          refine q_run (fun _ _ => (r_eqlC (p := xm = p.2) rfl rfl rfl rfl (by kernel_rfl) ((okC_bk _)) ((okC_bk _)) rfl (blkR_inj))) (g_yes rfl rfl rfl g17) ?_
          refine q_pkFt rfl g17 rfl ?_
          refine q_ast rfl ?_
          refine q_nil ?_; intro w22 hk22
          refine W_region ?_
          refine o_mvt rfl ?_
          refine op_run (r_add rfl rfl) rfl ?_
          refine o_ast rfl ?_
          refine ops_nil ?_
          refine ⟨by (repeat (first | with_reducible exact offM_refl _ _ | refine offM_updc rfl ?_ | refine offM_upd rfl ?_ | refine offM_updo rfl ?_ | refine offM_updo_none ?_ | refine offM_head rfl rfl ?_)), ⟨decide (xm = p.2), m + 1, congrArg (fun z : Int => [_, Value.int .i64 z]) hinc3, by omega, ?_, hk14.trans hk22⟩, ?_⟩
          · have hnt : ¬ p.2 ∈ bs.take m := fun hh => by rw [ht.2 hh] at g17; cases g17
            rw [htk, List.mem_append, List.mem_singleton, decide_eq_true_eq]
            exact ⟨fun e => .inr e.symm, fun hh => hh.elim (fun h => absurd h hnt) Eq.symm⟩
          · show bs.length - (IntKind.i64.wrap ((m : Int) + 1)).toNat < bs.length - (m : Int).toNat
            rw [hinc3]; omega
        · refine q_skip (g_no rfl rfl rfl g17) ?_
          refine q_skip (g_no rfl rfl rfl g17) ?_
          refine q_skip (g_no rfl rfl rfl g17) ?_
          refine q_skip (g_no rfl rfl rfl g17) ?_
          refine q_skip (g_no rfl rfl rfl g17) ?_
          refine q_skip (g_no rfl rfl rfl g17) ?_
          refine q_pkTc rfl g17 rfl ?_
          refine q_ast rfl ?_
          refine q_nil ?_; intro w24 hk24
          refine W_region ?_
          refine o_mvt rfl ?_
          refine op_run (r_add rfl rfl) rfl ?_
          refine o_ast rfl ?_
          refine ops_nil ?_
          refine ⟨by (repeat (first | with_reducible exact offM_refl _ _ | refine offM_updc rfl ?_ | refine offM_upd rfl ?_ | refine offM_updo rfl ?_ | refine offM_updo_none ?_ | refine offM_head rfl rfl ?_)), ⟨true, m + 1, congrArg (fun z : Int => [_, Value.int .i64 z]) hinc3, by omega, ?_, hk14.trans hk24⟩, ?_⟩
          · rw [htk, List.mem_append]
            exact ⟨fun _ => .inl (ht.1 g17), fun _ => rfl⟩
          · show bs.length - (IntKind.i64.wrap ((m : Int) + 1)).toNat < bs.length - (m : Int).toNat
            rw [hinc3]; omega
      · refine W_exit ?_
        refine W_seq ?_
        refine W_region ?_
        refine o_mvt rfl ?_
        refine op_run (r_not rfl) rfl ?_
        refine ops_nil ?_
        have hme : m = bs.length := by omega
        rw [hme, List.take_length] at ht
        have htk2 : i.bl.take (j + 1) = i.bl.take j ++ [p] := by rw [List.take_succ_eq_append_getElem hjl, (List.getElem?_eq_some_iff.1 hp).2]
        have hF : flatN (L.take k) ++ (i.bl.take (j + 1)).map (·.2) = (flatN (L.take k) ++ (i.bl.take j).map (·.2)) ++ [p.2] := by rw [htk2, List.map_append, List.append_assoc]; rfl
        have hO14 := hO13.keep hk14 (fun _ _ => trivial)
        refine W_cond rfl (fun h26 => ?_) (fun h26 => ?_)
        · refine W_region ?_
          refine o_mvt rfl ?_
          refine op_run (r_loadA (blkR p.2) rfl rfl rfl (by first | rfl | (rw [binV_len]; rfl) | (rw [dgR_len]; rfl) | (rw [refR_len]; rfl) | (rw [secR_len]; rfl) | (rw [List.length_map, tagF_len]; rfl) | (rw [blkR_len]; rfl)) ((fun n u hn => hk14.cell (hB13'.all n u hn) trivial))) rfl ?_
          refine o_bsR blkR blkR_len [p.2] rfl ti_blk2 rfl rfl rfl rfl rfl rfl ?_; intro w28 b28 e28 hB28 hk28 hs28
          refine o_app (v := .slice ua bs.length uc) (c := 1) (m := bs.length) (k := 1) (rows blkR [p.2]) rfl rfl rfl ti_blk2 (by show (blkR Bk.zero).toArray.size = 48; simp [blkR_len]) (by decide) (hO14.keep hk28 (fun _ _ => trivial)) (by rw [rows_len blkR_len]; rfl) hB28.all (rows_one blkR_one _) (by unfold maxLen; omega) (by omega) rfl ?_; intro v29 w29 hown29 hk29 hb29
          refine o_ast rfl ?_
          refine ops_nil ?_
          refine W_region ?_
          refine o_mvt rfl ?_
          refine op_run (r_add rfl rfl) rfl ?_
          refine o_ast rfl ?_
          refine ops_nil ?_
          refine ⟨by (repeat (first | with_reducible exact offM_refl _ _ | refine offM_updc rfl ?_ | refine offM_upd rfl ?_ | refine offM_updo rfl ?_ | refine offM_updo_none ?_ | refine offM_head rfl rfl ?_)), ⟨v29, j + 1, bs ++ [p.2], congrArg (fun z : Int => [v29, Value.int .i64 z]) hinc2, by omega, ?_, ?_, ?_, ?_, ?_⟩, ?_⟩
          · rw [hF]
            exact hD.new fun hh => by rw [ht.2 hh] at h26; cases h26
          · rw [List.length_append, rows_app]; exact hown29
          · intro z hz
            rcases hb29 z hz with h | h
            · exact hI z h
            · have := hk13A.size; have := hk14.size; have := hk28.size; omega
          · rw [List.length_append]; show bs.length + 1 ≤ _; omega
          · exact ((hk13A.trans hk14).trans hk28).own hk29 (fun z hz _ => hI z hz)
          · show i.bl.length - (IntKind.i64.wrap ((j : Int) + 1)).toNat < i.bl.length - (j : Int).toNat
            rw [hinc2]; omega
        · refine W_skip ?_
          refine W_region ?_
          refine o_mvt rfl ?_
          refine op_run (r_add rfl rfl) rfl ?_
          refine o_ast rfl ?_
          refine ops_nil ?_
          refine ⟨by (repeat (first | with_reducible exact offM_refl _ _ | refine offM_updc rfl ?_ | refine offM_upd rfl ?_ | refine offM_updo rfl ?_ | refine offM_updo_none ?_ | refine offM_head rfl rfl ?_)), ⟨_, j + 1, bs, congrArg (fun z : Int => [_, Value.int .i64 z]) hinc2, by omega, ?_, hO14, hI, by omega, hk13A.trans hk14⟩, ?_⟩
          · rw [hF]
            exact hD.old (ht.1 (by simpa using h26))
          · show i.bl.length - (IntKind.i64.wrap ((j : Int) + 1)).toNat < i.bl.length - (j : Int).toNat
            rw [hinc2]; omega
    · refine W_exit ?_
      refine W_region ?_
      refine o_mvt rfl ?_
      refine op_run (r_add rfl rfl) rfl ?_
      refine o_ast rfl ?_
      refine ops_nil ?_
      refine ⟨by (repeat (first | with_reducible exact offM_refl _ _ | refine offM_updc rfl ?_ | refine offM_upd rfl ?_ | refine offM_updo rfl ?_ | refine offM_updo_none ?_ | refine offM_head rfl rfl ?_)), ⟨u, k + 1, bs, congrArg (fun z : Int => [u, Value.int .i64 z]) hinc, by omega, ?_, hO, hI, by omega, hkw⟩, ?_⟩
      · have hje : j = i.bl.length := by omega
        rw [hje, List.take_length] at hD
        rw [List.take_succ_eq_append_getElem hkl, (List.getElem?_eq_some_iff.1 hia).2, flatN_snoc]; exact hD
      · show L.length - (IntKind.i64.wrap ((k : Int) + 1)).toNat < L.length - (k : Int).toNat
        rw [hinc]; omega
  · refine W_exit ?_
    refine W_seq ?_
    refine W_region ?_
    refine o_mvt rfl ?_
    refine o_ast rfl ?_
    refine ops_nil ?_
    refine W_ret ?_
    refine ret1 u rfl ?_ ?_; rfl
    have hke : k = L.length := by omega
    rw [hke, List.take_length] at hD
    obtain ⟨ua, uc, eu, _, _⟩ := hO.form
    exact ⟨⟨bs, ua, uc, hD, eu⟩, hkw⟩
end Go.Proofs.Ytkckphbdjkjfgaa.B
