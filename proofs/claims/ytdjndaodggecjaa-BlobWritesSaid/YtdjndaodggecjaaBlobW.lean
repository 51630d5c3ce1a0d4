/-
  BlobWrites: the walk.
-/
import Derived.Test.YtdjndaodggecjaaBlobR
namespace Go.Proofs.Ytdjndaodggecjaa.B
open Go
set_option linter.unusedVariables false
set_option maxHeartbeats 2000000
set_option maxRecDepth 100000
attribute [local irreducible] W OpsW OpsQ retP
/-- A sector that begins with two bytes. -/
def secE (x y : UInt8) : Sec := ⟨x :: y :: List.replicate 62 0, by simp⟩
theorem rowSl {w : World} {v : Value} {L : List Sec} {i : Nat} {s : Sec} (h : Sl w v L.length 64 (rows secR L)) (hs : L[i]? = some s) : ∃ b o c, v = .slice (some ⟨b, o, none⟩) L.length c ∧ ∀ (j : Nat) (u : Value), (secR s)[j]? = some u → w.cell? ((⟨b, o + i * 64, none⟩ : Addr).add j) = some u := by
  obtain ⟨a, c, rfl, _, _⟩ := h.form
  obtain ⟨hi, he⟩ := List.getElem?_eq_some_iff.1 hs
  obtain ⟨b, o, rfl, hc⟩ := rows_at' (i := i) secR_len h hi (by decide)
  rw [he] at hc
  exact ⟨b, o, c, rfl, hc⟩
section
variable {w : World} {K : Nat → Prop} {b N n : Nat} {M : List Sec} {w' : World}
theorem One.frame {L : List Sec} {T : List (Nat × Sec)} {f : Nat} {w2 : World} (h : One w K b N L T f w') (hk : Keep (· < w'.heap.size) w' w2) : One w (fun j => K j ∨ (w'.heap.size ≤ j ∧ j < w2.heap.size)) b N L T f w2 := by
  obtain ⟨A, h1, h3, h5, h6⟩ := h
  have hs := hk.size
  have h6s := h6.size
  refine ⟨A, h1.keep hk (fun j hj => (h3 j hj).2.1), fun j hj => ?_, fun j hj => ?_, h6.outA (B := fun j => ¬ j < w'.heap.size) (hk.mono fun j _ hj => Decidable.not_not.1 hj) (fun j hj => by omega)⟩
  · have := h3 j hj
    exact ⟨this.1, by omega, fun h => h.elim this.2.2 (fun e => by omega)⟩
  · rcases hj with hj | hj
    · have := h5 j hj; omega
    · omega
theorem DV.frame {w2 : World} (h : DV w K b N M n w') (hk : Keep (· < w'.heap.size) w' w2) : DV w (fun j => K j ∨ (w'.heap.size ≤ j ∧ j < w2.heap.size)) b N M n w2 := by
  obtain ⟨L, T, h1, h2⟩ := h; exact ⟨L, T, h1.frame hk, h2⟩
theorem DV.image (h : DV w K b N M n w') (hn : n < 1000000) :
    Ret Try.prog 16 [.pointer (some ⟨b, 0, none⟩)].toArray w' fun r w2 => Own w2 33 64 r M.length (rows secR M) ∧ Keep All w' w2 ∧ DV w (fun j => K j ∨ r.ownBlock = some j) b N M n w2 := by
  obtain ⟨L, T, h1, rfl, h3, h4⟩ := h
  exact (h1.image (by omega)).mono fun e w2 ⟨u, he, hO, _, _, hk, hD⟩ => ⟨u, he, hO, hk, L, T, hD, rfl, h3, h4⟩
/-- Bytes, copied behind nothing: kept apart from the disk. -/
theorem DV.app {K : Nat → Prop} {wa wb : World} {b0 : Nat} {v : Value} (h : DV w K b N M n w') (hk : Keep All w' wa) (e0 : b0 = w'.heap.size) (hk2 : Keep (fun j => some j ≠ (Value.slice (some ⟨b0, 0, none⟩) 0 0).ownBlock) wa wb) (hs : wa.heap.size = b0 + 1) (hlt : InB (· < wb.heap.size) v) (hin : InB (fun j => (Value.slice (some ⟨b0, 0, none⟩) 0 0).ownBlock = some j ∨ wa.heap.size ≤ j) v) :
    DV w (fun j => K j ∨ (w'.heap.size ≤ j ∧ j < wb.heap.size)) b N M n wb ∧ InB (fun j => w'.heap.size ≤ j ∧ j < wb.heap.size) v ∧ Keep (· < w'.heap.size) w' wb := by
  have hkk : Keep (· < w'.heap.size) w' wb := hk.all.trans (hk2.mono fun j _ hj e => by have e : j = b0 := Option.some.inj e; omega)
  refine ⟨h.frame hkk, fun j hj => ⟨?_, hlt j hj⟩, hkk⟩
  rcases hin j hj with h | h
  · have h : b0 = j := Option.some.inj h; omega
  · omega
end
theorem walk_BlobWrites (w : World) (size at_ : Int) (v : Value) (bs : List UInt8) (hv : By w v bs) (ha : -2 ^ 63 ≤ at_) (ha2 : at_ < 2 ^ 63) :
    Ret Try.prog 4 [.int .i64 size, .int .i64 at_, v].toArray w fun u w' => u = .bool true ∧ Keep All w w' := by
  obtain ⟨a0, c0, rfl, hc0, hcm0⟩ := hv.form
  refine enter (fn := Try.f4) (n := 166) Try.func4 rfl rfl (by simp) ?_
  refine W_seq ?_
  refine W_region ?_
  refine o_asc rfl ?_
  refine ops_nil ?_
  refine W_seq ?_
  refine W_seq ?_
  refine W_region ?_
  refine op_call rfl rfl rfl (speaks07 w) ?_; rintro v1 w1 ⟨rfl, hk1⟩
  refine op_run (r_not rfl) rfl ?_
  refine ops_nil ?_
  refine W_no rfl (rfl) ?_
  refine W_skip ?_
  refine W_seq ?_
  refine W_cut [31] [21, 22, 23, 24, 25, 26, 27, 28, 29, 30, 31] (fun vs w4 => vs = [.bool (decide (size < 1 ∨ 200 < size ∨ 3000 < bs.length))] ∧ w4 = w1) ?_ ?_
  · refine W_region ?_
    refine o_mvt rfl ?_
    refine op_run (r_lss rfl rfl) rfl ?_
    refine o_mvt rfl ?_
    refine g_split rfl rfl rfl (fun g5 => ?_) (fun g5 => ?_)
    · refine o_mvt (g_yes rfl rfl rfl g5) ?_
      refine op_run (r_gtr rfl rfl) (g_yes rfl rfl rfl g5) ?_
      refine o_pkFt rfl g5 rfl ?_
      refine o_mvt rfl ?_
      refine g_split rfl rfl rfl (fun g6 => ?_) (fun g6 => ?_)
      · refine o_mvt (g_yes rfl rfl rfl g6) ?_
        refine op_run (r_len rfl rfl rfl) (g_yes rfl rfl rfl g6) ?_
        refine op_run (r_gtr rfl rfl) (g_yes rfl rfl rfl g6) ?_
        refine o_pkFt rfl g6 rfl ?_
        refine ops_nil ?_
        exact ⟨by (repeat (first | with_reducible exact offM_refl _ _ | refine offM_updc rfl ?_ | refine offM_upd rfl ?_ | refine offM_updo rfl ?_ | refine offM_updo_none ?_ | refine offM_head rfl rfl ?_)), congrArg (fun b => [Value.bool b]) (by have g5 := of_decide_eq_false g5; have g6 := of_decide_eq_false g6; rw [decide_eq_decide]; omega), rfl⟩
      · refine op_skip (g_no rfl rfl rfl g6) ?_
        refine op_skip (g_no rfl rfl rfl g6) ?_
        refine op_skip (g_no rfl rfl rfl g6) ?_
        refine o_pkTc rfl g6 rfl ?_
        refine ops_nil ?_
        exact ⟨by (repeat (first | with_reducible exact offM_refl _ _ | refine offM_updc rfl ?_ | refine offM_upd rfl ?_ | refine offM_updo rfl ?_ | refine offM_updo_none ?_ | refine offM_head rfl rfl ?_)), congrArg (fun b => [Value.bool b]) (by have g6 := of_decide_eq_true g6; symm; apply decide_eq_true; omega), rfl⟩
    · refine op_skip (g_no rfl rfl rfl g5) ?_
      refine op_skip (g_no rfl rfl rfl g5) ?_
      refine o_pkTc rfl g5 rfl ?_
      refine o_mvt rfl ?_
      refine op_skip (g_no rfl rfl rfl rfl) ?_
      refine op_skip (g_no rfl rfl rfl rfl) ?_
      refine op_skip (g_no rfl rfl rfl rfl) ?_
      refine o_pkTc rfl rfl rfl ?_
      refine ops_nil ?_
      exact ⟨by (repeat (first | with_reducible exact offM_refl _ _ | refine offM_updc rfl ?_ | refine offM_upd rfl ?_ | refine offM_updo rfl ?_ | refine offM_updo_none ?_ | refine offM_head rfl rfl ?_)), congrArg (fun b => [Value.bool b]) (by have g5 := of_decide_eq_true g5; symm; apply decide_eq_true; omega), rfl⟩
  · rintro J10 vs w10 ⟨rfl, rfl⟩ -
    refine W_cond_p rfl (fun h11 => ?_) (fun h11 => ?_)
    · refine W_seq ?_
      refine W_region ?_
      refine o_asc rfl ?_
      refine ops_nil ?_
      refine W_ret ?_
      refine ret1 (.bool true) rfl ?_ ?_; rfl
      exact ⟨rfl, hk1⟩
    · refine W_skip ?_
      refine W_seq ?_
      refine W_region ?_
      refine o_mvt rfl ?_
      obtain ⟨N, rfl⟩ := Int.eq_ofNat_of_zero_le (show 0 ≤ size by omega)
      have hN : 1 ≤ N ∧ N ≤ 200 := by omega
      have hbl : bs.length ≤ 3000 := by omega
      have hsl := sectorsN_le bs.length
      refine op_call rfl rfl rfl (DV.new w10 (N : Int) (by omega) (by omega)) ?_; rintro v13 w13 ⟨bD, rfl, hD13⟩
      rw [Int.toNat_natCast] at hD13
      refine o_mvt rfl ?_
      refine op_run (r_extract rfl rfl) rfl ?_
      refine op_run (r_extract rfl rfl) rfl ?_
      refine o_ast rfl ?_
      refine o_ast rfl ?_
      refine ops_nil ?_
      refine W_seq ?_
      refine W_cut [42] [37, 38, 39, 40, 41, 42] (fun vs w14 => vs = [.bool false] ∧ w14 = w13) ?_ ?_
      · refine W_region ?_
        refine o_mvt rfl ?_
        refine op_run (r_neq rfl rfl) rfl ?_
        refine o_mvt rfl ?_
        refine g_split rfl rfl rfl (fun g15 => ?_) (fun g15 => ?_)
        · refine o_mvt (g_yes rfl rfl rfl g15) ?_
          refine op_run (r_isNilP rfl rfl) (g_yes rfl rfl rfl g15) ?_
          refine o_pkFt rfl g15 rfl ?_
          refine ops_nil ?_
          exact ⟨by (repeat (first | with_reducible exact offM_refl _ _ | refine offM_updc rfl ?_ | refine offM_upd rfl ?_ | refine offM_updo rfl ?_ | refine offM_updo_none ?_ | refine offM_head rfl rfl ?_)), rfl, rfl⟩
        · refine op_skip (g_no rfl rfl rfl g15) ?_
          refine op_skip (g_no rfl rfl rfl g15) ?_
          refine o_pkTc rfl g15 rfl ?_
          refine ops_nil ?_
          exact absurd g15 (by decide)
      · rintro J18 vs w18 ⟨rfl, rfl⟩ -
        refine W_no rfl (rfl) ?_
        refine W_skip ?_
        refine W_seq ?_
        refine W_seq ?_
        refine W_region ?_
        refine o_asc rfl ?_
        refine ops_nil ?_
        refine W_block ?_
        refine W_loop [9] [9, 43, 44, 45, 46, 47, 48, 49, 50, 51, 52, 53] (fun vs w' => ∃ (k : Nat) (M : List Sec), vs = [.int .i64 k] ∧ k ≤ N ∧ DV w10 (fun _ => False) bD N M k w') (fun vs _ => match vs with | [.int _ k] => N - k.toNat | _ => 0) ⟨0, _, rfl, Nat.zero_le _, hD13⟩ ?_
        rintro J21 vs w21 ⟨k, M, rfl, hk, hD⟩ -
        refine W_seq ?_
        refine W_seq ?_
        refine W_region ?_
        refine o_mvt rfl ?_
        refine o_mvt rfl ?_
        refine op_run (r_lss rfl rfl) rfl ?_
        refine ops_nil ?_
        refine W_cond_p rfl (fun h22 => ?_) (fun h22 => ?_)
        · refine W_skip ?_
          refine W_seq ?_
          refine W_block ?_
          refine W_region ?_
          refine o_mvt rfl ?_
          refine o_mvt rfl ?_
          refine o_mvt rfl ?_
          refine op_run ((r_conv rfl rfl rfl).val ((show Value.int .u8 (IntKind.u8.wrap (k : Int)) = c8 (UInt8.ofNat k) from by unfold c8; rw [wrap_u8, UInt8.toNat_ofNat']; congr 1))) rfl ?_
          refine op_run (r_buildA ((secR (secE 238 (UInt8.ofNat k)))) (_) ([(0, c8 238), (1, c8 (UInt8.ofNat k))]) rfl rfl rfl rfl rfl (rfl)) rfl ?_
          refine op_call rfl rfl rfl (hD.write (k : Int) (secE 238 (UInt8.ofNat k)) (by omega)) ?_; rintro v24 w24 ⟨rfl, hD24, hk24⟩
          have hinc := inc64' k (by omega)
          refine ops_nil ?_
          refine W_region ?_
          refine o_mvt rfl ?_
          refine op_run (r_add rfl rfl) rfl ?_
          refine o_ast rfl ?_
          refine ops_nil ?_
          refine ⟨by (repeat (first | with_reducible exact offM_refl _ _ | refine offM_updc rfl ?_ | refine offM_upd rfl ?_ | refine offM_updo rfl ?_ | refine offM_updo_none ?_ | refine offM_head rfl rfl ?_)), ⟨k + 1, _, congrArg (fun z : Int => [Value.int .i64 z]) hinc, by omega, hD24⟩, ?_⟩
          show N - (IntKind.i64.wrap ((k : Int) + 1)).toNat < N - (k : Int).toNat
          rw [hinc]; omega
        · refine W_exit ?_
          refine W_seq ?_
          refine W_region ?_
          refine o_mvt rfl ?_
          refine op_call rfl rfl rfl (hD.image (by omega)) ?_; rintro v26 w26 ⟨hO26, hk26, hD26⟩
          have hML := hD.len
          obtain ⟨a26, c26, rfl, h26c, h26m⟩ := hO26.form
          refine o_ast rfl ?_
          refine ops_nil ?_
          refine W_seq ?_
          refine W_region ?_
          refine o_mvt rfl ?_
          refine o_mvt rfl ?_
          refine o_bs0 rfl rfl rfl ?_; intro w27 b27 e27 hB27 hk27 hs27
          refine o_mvt rfl ?_
          refine o_appS (v := .slice (some ⟨b27, 0, none⟩) 0 0) (m := 0) (xs := []) rfl rfl (hv.k ((hk1.trans hD26.kw).trans hk27)) rfl ti_u8 rfl rfl (Own.blk (n := 0) hB27 rfl (Nat.zero_le _)) (all_c8 _) (by unfold maxLen; omega) (by omega) rfl ?_; intro v28 w28 hown28 hk28 hb28
          have hown28 : OwnB w28 5 v28 bs := by have h := OwnB.app (xs := []) hown28; exact h
          obtain ⟨hD28, hin28, hkk28⟩ := hD26.app hk27 e27 hk28 hs27 hown28.lt hb28
          have hO28 := hO26.keep hkk28 hO26.lt
          refine op_call rfl rfl rfl (bl_Write w10 _ bD N _ M w28 hD28 at_ v28 bs (fun w2 _ h2 => (OwnB.by_ hown28).keep h2 (fun z hz => .inr (hin28 z hz))) (by omega) (by omega) ha ha2) ?_; rintro v29 w29 ⟨rfl, hD29, hk29⟩
          have hO29 := hO28.keep hk29 (fun z hz => .inl (.inr hz))
          obtain ⟨R, hR⟩ : ∃ R, R = if fitsP N at_ (sectorsN bs.length) then ofR at_ bs else Rf.zero := ⟨_, rfl⟩
          obtain ⟨M', hM'⟩ : ∃ M', M' = if fitsP N at_ (sectorsN bs.length) then putAt M at_.toNat (laidL bs) else M := ⟨_, rfl⟩
          rw [← hM'] at hD29
          rw [← hR]
          refine o_mvt rfl ?_
          refine op_run (r_extract rfl rfl) rfl ?_
          refine op_run (r_extract rfl rfl) rfl ?_
          refine o_alloc rfl rfl rfl ?_; intro w30 b30 e30 hB30 hk30 hs30
          refine o_storeA (cs := refR R) rfl rfl (by first | rfl | exact dgR_one _ | exact refR_one _ | exact secR_one _ | exact all_c8 _) (by first | rfl | (rw [dgR_len]; rfl) | (rw [refR_len]; rfl) | (rw [secR_len]; rfl) | (rw [List.length_map, tagF_len]; rfl)) hB30 (by exact Nat.le_of_eq (by simp [refR_len])) rfl ?_; intro w31 hB31 hk31 hs31
          have hB31 : Blk w31 b30 (refR R) 26 := by
            have h := hB31
            rwa [splice_all (by simp [refR_len])] at h
          have hD31 := hD29.fresh hk30 (Nat.le_of_eq e30.symm) hk31 (by omega)
          have hO31 := (hO29.keep hk30 (fun _ _ => trivial)).keep hk31 (fun z hz e => by have := hO29.lt z hz; omega)
          refine o_ast rfl ?_
          refine ops_nil ?_
          refine W_seq ?_
          refine W_region ?_
          refine o_mvt rfl ?_
          refine op_call rfl rfl rfl (hD31.image (by omega)) ?_; rintro v32 w32 ⟨hO32, hk32, hD32⟩
          obtain ⟨a32, c32, rfl, h32c, h32m⟩ := hO32.form
          refine o_ast rfl ?_
          refine ops_nil ?_
          refine W_seq ?_
          refine W_region ?_
          refine o_mvt rfl ?_
          refine op_call rfl rfl rfl (rf07_Laid w32 _ bs (hv.k (hk1.trans hD32.kw)) (by omega)) ?_; rintro v33 w33 ⟨hOl, hinl, hk33⟩
          have hOb := (hO31.keep hk32 (fun _ _ => trivial)).keep hk33 (fun _ _ => trivial)
          have hOa := hO32.keep hk33 (fun _ _ => trivial)
          have hD33 := hD32.keep hk33
          have hB33 := hk33.blk' (hk32.blk' hB31 trivial) trivial
          have hll := laidL_len bs
          have hlp := sectorsN_pos bs.length
          obtain ⟨Lz, hLz⟩ : ∃ l, l = if fitsP N at_ (sectorsN bs.length) then laidL bs else [] := ⟨_, rfl⟩
          have hML' : M'.length = N := hD33.len
          obtain ⟨al, cl, rfl, hcl, hclm⟩ := hOl.form
          have hLz2 : ¬ fitsP N at_ (sectorsN bs.length) → Lz = [] := fun h => by rw [hLz, if_neg h]
          have hLz1 : fitsP N at_ (sectorsN bs.length) → Lz = laidL bs := fun h => by rw [hLz, if_pos h]
          rw [hll]
          refine o_ast rfl ?_
          refine ops_nil ?_
          refine W_cut [14] [14, 69, 70, 71, 72, 73, 74, 75, 76, 77, 78, 79, 80, 81, 82, 83] (fun vs w34 => ∃ (al : Option Addr) (cl : Nat), vs = [.slice al Lz.length cl] ∧ Sl w34 (.slice al Lz.length cl) Lz.length 64 (rows secR Lz) ∧ w34 = w33) ?_ ?_
          · refine W_cut [83] [69, 70, 71, 72, 73, 74, 75, 76, 77, 78, 79, 80, 81, 82, 83] (fun vs w35 => vs = [.bool (decide (¬ fitsP N at_ (sectorsN bs.length)))] ∧ w35 = w33) ?_ ?_
            · refine W_region ?_
              refine o_mvt rfl ?_
              refine op_run (r_lss rfl rfl) rfl ?_
              refine o_mvt rfl ?_
              refine g_split rfl rfl rfl (fun g36 => ?_) (fun g36 => ?_)
              · refine o_mvt (g_yes rfl rfl rfl g36) ?_
                refine o_mvt (g_yes rfl rfl rfl g36) ?_
                refine op_run (r_geq rfl rfl) (g_yes rfl rfl rfl g36) ?_
                refine o_pkFt rfl g36 rfl ?_
                refine o_mvt rfl ?_
                refine g_split rfl rfl rfl (fun g37 => ?_) (fun g37 => ?_)
                · refine o_mvt (g_yes rfl rfl rfl g37) ?_
                  refine op_run (r_len rfl rfl rfl) (g_yes rfl rfl rfl g37) ?_
                  refine o_mvt (g_yes rfl rfl rfl g37) ?_
                  refine o_mvt (g_yes rfl rfl rfl g37) ?_
                  refine op_run (r_sub rfl rfl) (g_yes rfl rfl rfl g37) ?_
                  refine op_run (r_gtr rfl rfl) (g_yes rfl rfl rfl g37) ?_
                  refine o_pkFt rfl g37 rfl ?_
                  refine ops_nil ?_
                  exact ⟨by (repeat (first | with_reducible exact offM_refl _ _ | refine offM_updc rfl ?_ | refine offM_upd rfl ?_ | refine offM_updo rfl ?_ | refine offM_updo_none ?_ | refine offM_head rfl rfl ?_)), congrArg (fun b => [Value.bool b]) (by
                    have g36 := of_decide_eq_false g36; have g37 := of_decide_eq_false g37
                    rw [wrap_i64 (by omega) (by omega), decide_eq_decide]; unfold fitsP; omega), rfl⟩
                · refine op_skip (g_no rfl rfl rfl g37) ?_
                  refine op_skip (g_no rfl rfl rfl g37) ?_
                  refine op_skip (g_no rfl rfl rfl g37) ?_
                  refine op_skip (g_no rfl rfl rfl g37) ?_
                  refine op_skip (g_no rfl rfl rfl g37) ?_
                  refine op_skip (g_no rfl rfl rfl g37) ?_
                  refine o_pkTc rfl g37 rfl ?_
                  refine ops_nil ?_
                  exact ⟨by (repeat (first | with_reducible exact offM_refl _ _ | refine offM_updc rfl ?_ | refine offM_upd rfl ?_ | refine offM_updo rfl ?_ | refine offM_updo_none ?_ | refine offM_head rfl rfl ?_)), congrArg (fun b => [Value.bool b]) (by have g37 := of_decide_eq_true g37; symm; exact decide_eq_true fun h => by have := h.2.1; omega), rfl⟩
              · refine op_skip (g_no rfl rfl rfl g36) ?_
                refine op_skip (g_no rfl rfl rfl g36) ?_
                refine op_skip (g_no rfl rfl rfl g36) ?_
                refine o_pkTc rfl g36 rfl ?_
                refine o_mvt rfl ?_
                refine op_skip (g_no rfl rfl rfl rfl) ?_
                refine op_skip (g_no rfl rfl rfl rfl) ?_
                refine op_skip (g_no rfl rfl rfl rfl) ?_
                refine op_skip (g_no rfl rfl rfl rfl) ?_
                refine op_skip (g_no rfl rfl rfl rfl) ?_
                refine op_skip (g_no rfl rfl rfl rfl) ?_
                refine o_pkTc rfl rfl rfl ?_
                refine ops_nil ?_
                exact ⟨by (repeat (first | with_reducible exact offM_refl _ _ | refine offM_updc rfl ?_ | refine offM_upd rfl ?_ | refine offM_updo rfl ?_ | refine offM_updo_none ?_ | refine offM_head rfl rfl ?_)), congrArg (fun b => [Value.bool b]) (by have g36 := of_decide_eq_true g36; symm; exact decide_eq_true fun h => by have := h.1; omega), rfl⟩
            · rintro J41 vs w41 ⟨rfl, rfl⟩ -
              refine W_cond_p rfl (fun h42 => ?_) (fun h42 => ?_)
              · refine W_region ?_
                refine o_asc rfl ?_
                refine ops_nil ?_
                have e := hLz2 h42
                subst e
                exact ⟨by (repeat (first | with_reducible exact offM_refl _ _ | refine offM_updc rfl ?_ | refine offM_upd rfl ?_ | refine offM_updo rfl ?_ | refine offM_updo_none ?_ | refine offM_head rfl rfl ?_)), none, 0, rfl, (own_nil _ 0 64).sl, rfl⟩
              · refine W_skip ?_
                have e := hLz1 (Decidable.not_not.1 h42)
                subst e
                exact ⟨by (repeat (first | with_reducible exact offM_refl _ _ | refine offM_updc rfl ?_ | refine offM_upd rfl ?_ | refine offM_updo rfl ?_ | refine offM_updo_none ?_ | refine offM_head rfl rfl ?_)), al, cl, by rw [hll]; rfl, hOl.sl, rfl⟩
          · rintro J45 vs w45 ⟨al2, cl2, rfl, hSz, rfl⟩ -
            have hMi : ∀ i : Nat, i < N → M'[i]? = if at_ ≤ (i : Int) ∧ (i : Int) < at_ + (Lz.length : Int) then Lz[((i : Int) - at_).toNat]? else M[i]? := by
              intro i hi
              by_cases hf : fitsP N at_ (sectorsN bs.length)
              · obtain ⟨a, rfl⟩ := Int.eq_ofNat_of_zero_le hf.1
                have h2 := hf.2.2
                rw [hLz1 hf, hM', if_pos hf, Int.toNat_natCast, putAt_get (by rw [hll]; omega)]
                by_cases hc : a ≤ i ∧ i < a + (laidL bs).length
                · rw [if_pos hc, if_pos (by omega), show ((i : Int) - (a : Int)).toNat = i - a by omega]
                · rw [if_neg hc, if_neg (by omega)]
              · rw [hLz2 hf, hM', if_neg hf, if_neg (by simp only [List.length_nil]; omega)]
            have hSb : Sl w45 (.slice a26 M.length c26) M.length 64 (rows secR M) := hOb.sl
            have hSa : Sl w45 (.slice a32 M'.length c32) M'.length 64 (rows secR M') := hOa.sl
            have hkw45 := hD33.kw
            refine W_seq ?_
            refine W_seq ?_
            refine W_region ?_
            refine o_mvt rfl ?_
            refine op_run (r_len rfl rfl rfl) rfl ?_
            refine o_mvc rfl ?_
            refine ops_nil ?_
            refine W_block ?_
            refine W_loop [86] [6, 15, 16, 86, 87, 88, 89, 90, 91, 92, 93, 94, 95, 96, 97, 98, 99, 100, 101, 102, 103, 104, 105, 106, 107, 108, 109, 110, 111, 112, 113, 114, 115, 116] (fun vs w' => ∃ i : Nat, vs = [.int .i64 i] ∧ i ≤ N ∧ Keep All w45 w') (fun vs _ => match vs with | [.int _ k] => N - k.toNat | _ => 0) ⟨0, rfl, Nat.zero_le _, Keep.refl _⟩ ?_
            rintro J46 vs w46 ⟨i, rfl, hi, hk46⟩ -
            refine W_seq ?_
            refine W_region ?_
            refine op_run (r_lss rfl rfl) rfl ?_
            refine ops_nil ?_
            refine W_seq ?_
            refine W_cond_p rfl (fun h47 => ?_) (fun h47 => ?_)
            · refine W_skip ?_
              refine W_seq ?_
              refine W_block ?_
              refine W_seq ?_
              refine W_region ?_
              refine o_mvt rfl ?_
              refine o_ast rfl ?_
              refine ops_nil ?_
              refine W_seq ?_
              refine W_region ?_
              refine o_mvt rfl ?_
              refine o_mvt rfl ?_
              have hi' : i < N := by omega
              obtain ⟨s0, hs0⟩ : ∃ s, M[i]? = some s := ⟨_, List.getElem?_eq_getElem (by omega)⟩
              obtain ⟨bb, ob, rfl, hcb⟩ := rows_at' (i := i) secR_len hSb (by omega) (by decide)
              rw [(List.getElem?_eq_some_iff.1 hs0).2] at hcb
              refine op_run (r_idxS rfl rfl rfl ti_sec (by omega) (by omega)) rfl ?_
              refine op_run (r_loadA (secR s0) rfl rfl rfl (by first | rfl | (rw [dgR_len]; rfl) | (rw [refR_len]; rfl) | (rw [secR_len]; rfl) | (rw [List.length_map, tagF_len]; rfl)) ((by intro u v hu; rw [Int.toNat_natCast]; exact hk46.cell (hcb u v hu) trivial))) rfl ?_
              refine o_alloc rfl rfl rfl ?_; intro w50 b50 e50 hB50 hk50 hs50
              refine o_storeA (cs := secR s0) rfl rfl (by first | rfl | exact dgR_one _ | exact refR_one _ | exact secR_one _ | exact all_c8 _) (by first | rfl | (rw [dgR_len]; rfl) | (rw [refR_len]; rfl) | (rw [secR_len]; rfl) | (rw [List.length_map, tagF_len]; rfl)) hB50 (by exact Nat.le_of_eq (by simp [secR_len])) rfl ?_; intro w51 hB51 hk51 hs51
              have hB51 : Blk w51 b50 (secR s0) 33 := by
                have h := hB51
                rwa [splice_all (by simp [secR_len])] at h
              have hk51 : Keep All w45 w51 := (hk46.trans hk50).new hk51 (by have := hk46.size; omega)
              have hmi := hMi i hi'
              have ha0 : at_ ≤ (i : Int) ∧ (i : Int) < at_ + (Lz.length : Int) → 0 ≤ at_ := fun h => by
                by_cases hf : fitsP N at_ (sectorsN bs.length)
                · exact hf.1
                · rw [hLz2 hf] at h; simp only [List.length_nil] at h; omega
              refine ops_nil ?_
              refine W_cut [] [93, 94, 95, 96, 97, 98, 99, 100, 101, 102, 103, 104, 105, 106, 107, 108, 109] (fun vs w52 => vs = [] ∧ ∃ s, Blk w52 b50 (secR s) 33 ∧ M'[i]? = some s ∧ Keep (· ≠ b50) w51 w52) ?_ ?_
              · refine W_cut [103] [93, 94, 95, 96, 97, 98, 99, 100, 101, 102, 103] (fun vs w53 => vs = [.bool (decide (at_ ≤ (i : Int) ∧ (i : Int) < at_ + (Lz.length : Int)))] ∧ w53 = w51) ?_ ?_
                · refine W_region ?_
                  refine o_mvt rfl ?_
                  refine o_mvt rfl ?_
                  refine op_run (r_geq rfl rfl) rfl ?_
                  refine o_mvt rfl ?_
                  refine g_split rfl rfl rfl (fun g54 => ?_) (fun g54 => ?_)
                  · refine o_mvt (g_yes rfl rfl rfl g54) ?_
                    refine o_mvt (g_yes rfl rfl rfl g54) ?_
                    refine o_mvt (g_yes rfl rfl rfl g54) ?_
                    refine op_run (r_len rfl rfl rfl) (g_yes rfl rfl rfl g54) ?_
                    refine op_run (r_add rfl rfl) (g_yes rfl rfl rfl g54) ?_
                    refine op_run (r_lss rfl rfl) (g_yes rfl rfl rfl g54) ?_
                    refine o_pkTt rfl g54 rfl ?_
                    refine ops_nil ?_
                    exact ⟨by (repeat (first | with_reducible exact offM_refl _ _ | refine offM_updc rfl ?_ | refine offM_upd rfl ?_ | refine offM_updo rfl ?_ | refine offM_updo_none ?_ | refine offM_head rfl rfl ?_)), congrArg (fun b => [Value.bool b]) (by
                      have g54 := of_decide_eq_true g54
                      have hLl : Lz.length ≤ sectorsN bs.length := by
                        by_cases hf : fitsP N at_ (sectorsN bs.length)
                        · rw [hLz1 hf, hll]; exact Nat.le_refl _
                        · rw [hLz2 hf]; exact Nat.zero_le _
                      rw [wrap_i64 (by omega) (by omega), decide_eq_decide]; omega), rfl⟩
                  · refine op_skip (g_no rfl rfl rfl g54) ?_
                    refine op_skip (g_no rfl rfl rfl g54) ?_
                    refine op_skip (g_no rfl rfl rfl g54) ?_
                    refine op_skip (g_no rfl rfl rfl g54) ?_
                    refine op_skip (g_no rfl rfl rfl g54) ?_
                    refine op_skip (g_no rfl rfl rfl g54) ?_
                    refine o_pkFc rfl g54 rfl ?_
                    refine ops_nil ?_
                    exact ⟨by (repeat (first | with_reducible exact offM_refl _ _ | refine offM_updc rfl ?_ | refine offM_upd rfl ?_ | refine offM_updo rfl ?_ | refine offM_updo_none ?_ | refine offM_head rfl rfl ?_)), congrArg (fun b => [Value.bool b]) (by have g54 := of_decide_eq_false g54; symm; exact decide_eq_false fun h => g54 h.1), rfl⟩
                · rintro J57 vs w57 ⟨rfl, rfl⟩ -
                  refine W_cond_p rfl (fun h58 => ?_) (fun h58 => ?_)
                  · refine W_region ?_
                    refine o_mvt rfl ?_
                    refine o_mvt rfl ?_
                    refine o_mvt rfl ?_
                    refine op_run ((r_sub rfl rfl).val (congrArg (Value.int .i64) (show IntKind.i64.wrap ((i : Int) - at_) = (i : Int) - at_ from wrap_i64 (by have := ha0 h58; omega) (by have := ha0 h58; omega)))) rfl ?_
                    have hjl : ((i : Int) - at_).toNat < Lz.length := by omega
                    obtain ⟨s1, hs1⟩ : ∃ s, Lz[((i : Int) - at_).toNat]? = some s := ⟨_, List.getElem?_eq_getElem hjl⟩
                    obtain ⟨bz, oz, rfl, hcz⟩ := rows_at' (i := ((i : Int) - at_).toNat) secR_len hSz hjl (by decide)
                    rw [(List.getElem?_eq_some_iff.1 hs1).2] at hcz
                    refine op_run (r_idxS rfl rfl rfl ti_sec (by omega) (by omega)) rfl ?_
                    refine op_run (r_loadA (secR s1) rfl rfl rfl (by first | rfl | (rw [dgR_len]; rfl) | (rw [refR_len]; rfl) | (rw [secR_len]; rfl) | (rw [List.length_map, tagF_len]; rfl)) ((by intro u v hu; exact hk51.cell (hcz u v hu) trivial))) rfl ?_
                    refine o_storeA (cs := secR s1) rfl rfl (by first | rfl | exact dgR_one _ | exact refR_one _ | exact secR_one _ | exact all_c8 _) (by first | rfl | (rw [dgR_len]; rfl) | (rw [refR_len]; rfl) | (rw [secR_len]; rfl) | (rw [List.length_map, tagF_len]; rfl)) hB51 (by exact Nat.le_of_eq (by simp [secR_len])) rfl ?_; intro w61 hB61 hk61 hs61
                    rw [splice_all (by simp [secR_len])] at hB61
                    refine ops_nil ?_
                    rw [if_pos h58, hs1] at hmi
                    exact ⟨by (repeat (first | with_reducible exact offM_refl _ _ | refine offM_updc rfl ?_ | refine offM_upd rfl ?_ | refine offM_updo rfl ?_ | refine offM_updo_none ?_ | refine offM_head rfl rfl ?_)), rfl, s1, hB61, hmi, hk61⟩
                  · refine W_skip ?_
                    rw [if_neg h58, hs0] at hmi
                    exact ⟨by (repeat (first | with_reducible exact offM_refl _ _ | refine offM_updc rfl ?_ | refine offM_upd rfl ?_ | refine offM_updo rfl ?_ | refine offM_updo_none ?_ | refine offM_head rfl rfl ?_)), rfl, s0, hB51, hmi, Keep.refl _⟩
              · rintro J64 vs w64 ⟨rfl, s, hBs, hMs, hk64⟩ -
                have hk64' : Keep All w45 w64 := hk51.new hk64 (by have := hk46.size; omega)
                obtain ⟨bq, oq, rfl, hcq⟩ := rows_at' (i := i) secR_len hSa (by omega) (by decide)
                rw [(List.getElem?_eq_some_iff.1 hMs).2] at hcq
                refine W_seq ?_
                refine W_quiet (Keep All w64) (by kernel_rfl) (by kernel_rfl) (Keep.drawn _) ?_
                refine q_mvt rfl ?_
                refine q_mvt rfl ?_
                refine q_run (fun _ _ => r_idxS rfl rfl rfl ti_sec (by omega) (by omega)) rfl ?_
                refine q_run (fun _ hk => r_loadA (secR s) rfl rfl rfl (by first | rfl | (rw [dgR_len]; rfl) | (rw [refR_len]; rfl) | (rw [secR_len]; rfl) | (rw [List.length_map, tagF_len]; rfl)) ((by intro u v hu; rw [Int.toNat_natCast]; exact (hk64'.trans hk).cell (hcq u v hu) trivial))) rfl ?_
                refine q_run (fun _ hk => r_loadA (secR s) rfl rfl rfl (by first | rfl | (rw [dgR_len]; rfl) | (rw [refR_len]; rfl) | (rw [secR_len]; rfl) | (rw [List.length_map, tagF_len]; rfl)) ((hk.blk' hBs trivial).all)) rfl ?_
                refine q_run (fun _ _ => (r_neqC (p := True) rfl rfl rfl rfl (by kernel_rfl) (okC_sec _) (okC_sec _) rfl (⟨fun _ => trivial, fun _ => rfl⟩))) rfl ?_
                refine q_nil ?_; intro w70 hk70
                refine W_no rfl (by simp) ?_
                refine W_skip ?_
                refine W_region ?_
                refine op_run (r_add rfl rfl) rfl ?_
                refine o_mvt rfl ?_
                refine ops_nil ?_
                have hinc := inc64' i (by omega)
                refine ⟨by (repeat (first | with_reducible exact offM_refl _ _ | refine offM_updc rfl ?_ | refine offM_upd rfl ?_ | refine offM_updo rfl ?_ | refine offM_updo_none ?_ | refine offM_head rfl rfl ?_)), ⟨i + 1, congrArg (fun z : Int => [Value.int .i64 z]) hinc, by omega, hk64'.trans hk70⟩, ?_⟩
                show N - (IntKind.i64.wrap ((i : Int) + 1)).toNat < N - (i : Int).toNat
                rw [hinc]; omega
            · refine W_exit ?_
              refine W_seq ?_
              refine W_seq ?_
              refine W_region ?_
              refine o_mvt rfl ?_
              refine op_run (r_len rfl rfl rfl) rfl ?_
              refine op_run (r_eql rfl rfl) rfl ?_
              refine ops_nil ?_
              refine W_cond_p rfl (fun h74 => ?_) (fun h74 => ?_)
              · refine W_seq ?_
                refine W_region ?_
                refine o_mvt rfl ?_
                refine op_run (r_eql rfl rfl) rfl ?_
                refine o_mvt rfl ?_
                have hnf : ¬ fitsP N at_ (sectorsN bs.length) := fun hf => by rw [hLz1 hf, hll] at h74; omega
                have hB46 := hk46.blk' hB33 trivial
                refine g_split rfl rfl rfl (fun g75 => ?_) (fun g => absurd g (by simp [hnf]))
                refine op_run (r_loadA (refR R) rfl rfl rfl (by first | rfl | (rw [dgR_len]; rfl) | (rw [refR_len]; rfl) | (rw [secR_len]; rfl) | (rw [List.length_map, tagF_len]; rfl)) (hB46.all)) (g_yes rfl rfl rfl g75) ?_
                refine op_run (r_build ((refR Rf.zero)) (_) ([]) rfl rfl rfl rfl rfl (by rw [refR_zero]; rfl)) (g_yes rfl rfl rfl g75) ?_
                refine op_run (r_eqlC (p := R = Rf.zero) rfl rfl rfl rfl (by kernel_rfl) (okC_ref _) (okC_ref _) rfl (refR_inj)) (g_yes rfl rfl rfl g75) ?_
                refine o_pkTt rfl g75 rfl ?_
                refine o_ast rfl ?_
                refine ops_nil ?_
                refine W_ret ?_
                refine ret1 (.bool (decide (R = Rf.zero))) rfl ?_ ?_; rfl
                exact ⟨congrArg Value.bool (decide_eq_true (by rw [hR, if_neg hnf])), (hk1.trans hkw45).trans hk46⟩
              · refine W_skip ?_
                refine W_seq ?_
                refine W_region ?_
                refine o_mvt rfl ?_
                have hf : fitsP N at_ (sectorsN bs.length) := Decidable.byContradiction fun h => h74 (by rw [hLz2 h]; rfl)
                have hB46 := hk46.blk' hB33 trivial
                have hRe : R = ofR at_ bs := by rw [hR, if_pos hf]
                have hrd : rdB M' R = some bs := by
                  obtain ⟨a, rfl⟩ := Int.eq_ofNat_of_zero_le hf.1
                  have h2 := hf.2.1
                  have h3 := hf.2.2
                  rw [hM', if_pos hf, hRe, Int.toNat_natCast]
                  exact rdB_put (by omega) (by omega) (by omega)
                have hkE := hkw45.trans hk46
                refine op_run (r_loadA (refR R) rfl rfl rfl (by first | rfl | (rw [dgR_len]; rfl) | (rw [refR_len]; rfl) | (rw [secR_len]; rfl) | (rw [List.length_map, tagF_len]; rfl)) (hB46.all)) rfl ?_
                refine op_call rfl rfl rfl (bl_Read w10 _ bD N _ M' w46 (hD33.keep hk46) R (by omega) (by rw [hRe]; exact ha) (by rw [hRe]; exact ha2)) ?_; rintro v81 w81 ⟨v, rfl, hby81, hin81, hk81⟩
                rw [hrd] at hby81
                refine o_mvt rfl ?_
                refine op_run (r_extract rfl rfl) rfl ?_
                refine op_run (r_extract rfl rfl) rfl ?_
                refine o_ast rfl ?_
                refine o_ast rfl ?_
                refine ops_nil ?_
                refine W_seq ?_
                refine W_quiet (Keep All w81) (by kernel_rfl) (by kernel_rfl) (Keep.drawn _) ?_
                refine q_mvt rfl ?_
                refine q_run (fun _ _ => (r_eql rfl rfl)) rfl ?_
                refine q_mvt rfl ?_
                refine q_split rfl rfl rfl (fun g83 => ?_) (fun g => absurd g (by simp [hf]))
                refine q_run (fun _ hk => r_loadA (refR R) rfl rfl rfl (by first | rfl | (rw [dgR_len]; rfl) | (rw [refR_len]; rfl) | (rw [secR_len]; rfl) | (rw [List.length_map, tagF_len]; rfl)) ((hk.blk' (hk81.blk' hB46 trivial) trivial).all)) (g_yes rfl rfl rfl g83) ?_
                refine q_mvt (g_yes rfl rfl rfl g83) ?_
                refine q_mvt (g_yes rfl rfl rfl g83) ?_
                refine q_call rfl rfl (g_yes rfl rfl rfl g83) (fun _ hk => (rf07_Of _ at_ _ bs (hv.k (((hk1.trans hkE).trans hk81).trans hk)) (by omega)).mono fun e w'' ⟨u, he, h1, h2⟩ => ⟨u, he, h1, hk.trans h2⟩) ?_
                refine q_run (fun _ _ => (r_eqlC (p := True) rfl rfl rfl rfl (by kernel_rfl) (okC_ref _) (okC_ref _) rfl (by rw [hRe]; exact ⟨fun _ => trivial, fun _ => rfl⟩))) (g_yes rfl rfl rfl g83) ?_
                refine q_pkTt rfl g83 rfl ?_
                refine q_mvt rfl ?_
                refine q_split rfl rfl rfl (fun g87 => ?_) (fun g => absurd g (by simp))
                refine q_mvt (g_yes rfl rfl rfl g87) ?_
                refine q_mvt (g_yes rfl rfl rfl g87) ?_
                refine q_call rfl rfl (g_yes rfl rfl rfl g87) (fun _ hk => (bl_Of _ at_ _ bs (hv.k (((hk1.trans hkE).trans hk81).trans hk)) (by omega)).mono fun e w'' ⟨u, he, h1, h2⟩ => ⟨u, he, h1, hk.trans h2⟩) ?_
                refine q_run (fun _ hk => r_loadA (refR R) rfl rfl rfl (by first | rfl | (rw [dgR_len]; rfl) | (rw [refR_len]; rfl) | (rw [secR_len]; rfl) | (rw [List.length_map, tagF_len]; rfl)) ((hk.blk' (hk81.blk' hB46 trivial) trivial).all)) (g_yes rfl rfl rfl g87) ?_
                refine q_run (fun _ _ => (r_eqlC (p := True) rfl rfl rfl rfl (by kernel_rfl) (okC_ref _) (okC_ref _) rfl (by rw [hRe]; exact ⟨fun _ => trivial, fun _ => rfl⟩))) (g_yes rfl rfl rfl g87) ?_
                refine q_pkTt rfl g87 rfl ?_
                refine q_mvt rfl ?_
                refine q_split rfl rfl rfl (fun g91 => ?_) (fun g => absurd g (by simp))
                refine q_mvt (g_yes rfl rfl rfl g91) ?_
                refine q_run (fun _ _ => (r_eql rfl rfl)) (g_yes rfl rfl rfl g91) ?_
                refine q_pkTt rfl g91 rfl ?_
                refine q_mvt rfl ?_
                refine q_split rfl rfl rfl (fun g92 => ?_) (fun g => absurd g (by simp [hrd]))
                refine q_mvt (g_yes rfl rfl rfl g92) ?_
                refine q_mvt (g_yes rfl rfl rfl g92) ?_
                refine q_call rfl rfl (g_yes rfl rfl rfl g92) (fun _ hk => (ref01_Same _ _ _ bs bs (hby81.k hk) (hv.k (((hk1.trans hkE).trans hk81).trans hk))).mono fun e w'' ⟨u, he, h1, h2⟩ => ⟨u, he, h1, hk.trans h2⟩) ?_
                refine q_pkTt rfl g92 rfl ?_
                refine q_mvt rfl ?_
                refine q_split rfl rfl rfl (fun g94 => ?_) (fun g => absurd g (by simp))
                refine q_mvt (g_yes rfl rfl rfl g94) ?_
                refine q_run (fun _ _ => (r_len rfl rfl rfl)) (g_yes rfl rfl rfl g94) ?_
                refine q_call rfl rfl (g_yes rfl rfl rfl g94) (fun _ hk => (bl_Sectors _ (bs.length : Int) (by omega)).mono fun e w'' ⟨u, he, h1, h2⟩ => ⟨u, he, h1.trans (congrArg (Value.int .i64) (show _ = (Lz.length : Int) from by rw [if_neg (by omega), Int.toNat_natCast, hLz1 hf, hll])), h2 ▸ hk⟩) ?_
                refine q_mvt (g_yes rfl rfl rfl g94) ?_
                refine q_run (fun _ _ => (r_len rfl rfl rfl)) (g_yes rfl rfl rfl g94) ?_
                refine q_run (fun _ _ => (r_eql rfl rfl)) (g_yes rfl rfl rfl g94) ?_
                refine q_pkTt rfl g94 rfl ?_
                refine q_ast rfl ?_
                refine q_nil ?_; intro w96 hk96
                refine W_ret ?_
                refine ret1 (.bool (decide ((Lz.length : Int) = (Lz.length : Int)))) rfl ?_ ?_; rfl
                exact ⟨congrArg Value.bool (decide_eq_true rfl), ((hk1.trans hkE).trans hk81).trans hk96⟩
end Go.Proofs.Ytdjndaodggecjaa.B
