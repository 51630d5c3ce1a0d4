/-
  Commits as bytes: bytes, right, Encode, Digest.
-/
import Derived.Test.YtlpkdblhaahkaaaCom1
import Derived.Test.YtlpkdblhaahkaaaBlobO
namespace Go.Proofs.Ytlpkdblhaahkaaa.B
open Go
set_option linter.unusedVariables false
set_option maxHeartbeats 2000000
set_option maxRecDepth 100000
attribute [local irreducible] W OpsW OpsQ retP
/-- A commit's Refs: where they stand. -/
def rfAt (c : Cm) : List (Nat × Rf) := [(1, c.prev), (35, c.vols), (69, c.idx)]
theorem cmV_ref {c : Cm} {vb ve : Value} {k o : Nat} {r : Rf} (h : (rfAt c)[k]? = some (o, r)) {j : Nat} {v : Value} (hv : (refR r)[j]? = some v) : (cmV c vb ve)[o + j]? = some v := by
  match k, h with
  | 0, h => injection h with h; injection h with h1 h2; subst h1; subst h2; exact cmV_prev c vb ve hv
  | 1, h => injection h with h; injection h with h1 h2; subst h1; subst h2; exact cmV_vols c vb ve hv
  | 2, h => injection h with h; injection h with h1 h2; subst h1; subst h2; exact cmV_idx c vb ve hv
def encRs (c : Cm) (k : Nat) : List UInt8 := ((rfAt c).take k).flatMap fun p => encR p.2
theorem encRs_s {c : Cm} {k : Nat} {p : Nat × Rf} (h : (rfAt c)[k]? = some p) : encRs c (k + 1) = encRs c k ++ encR p.2 := by
  obtain ⟨h1, h2⟩ := List.getElem?_eq_some_iff.1 h
  unfold encRs; rw [take_flatMap h1, h2]
theorem encRs_len (c : Cm) (k : Nat) : (encRs c k).length ≤ 156 := by
  have h1 := encR_len c.prev
  have h2 := encR_len c.vols
  have h3 := encR_len c.idx
  unfold encRs rfAt
  match k with
  | 0 => simp
  | 1 => simp; omega
  | 2 => simp; omega
  | k + 3 => simp; omega
theorem encC_split (c : Cm) : encN c.epoch ++ encRs c 3 ++ (encN c.bins.length ++ c.bins.flatMap encBn) ++ c.state.val ++ (encN c.events.length ++ c.events.flatMap encB) = encC c := by
  unfold encC encRs rfAt; simp
theorem none_all {w w' : World} (h : Keep (fun z => some z ≠ (Value.slice none 0 0).ownBlock) w w') : Keep All w w' := h.mono fun _ _ _ e => by cases e
theorem cm_bytes (w : World) (c : Cm) (vb ve : Value) (vks : List Value) (hc : CmIn w c vb ve vks) (hs : c.small) :
    Ret Try.prog 36 [.agg (cmV c vb ve).toArray].toArray w fun u w' => OwnB w' 5 u (encC c) ∧ Keep All w w' ∧ InB (fun z => w.heap.size ≤ z) u := by
  obtain ⟨h64, hnb, hne, hev⟩ := hs
  have hfb := flatBn_len c.bins
  have hfe := flatB_len hev
  have hsl := c.state.2
  have hn1 := encN_len10 h64
  have hn2 := encN_len10 (v := c.bins.length) (by omega)
  refine enter (fn := Try.f36) (n := 32) Try.func36 rfl rfl (by simp) ?_
  refine W_seq ?_
  refine W_region ?_
  refine o_box rfl rfl rfl ?_; intro w1 b1 e1 hB1 hk1 hs1
  have hB1 : Blk w1 b1 (cmV c vb ve) 32 := hB1
  refine o_asc rfl ?_
  refine ops_nil ?_
  refine W_seq ?_
  refine W_region ?_
  refine op_run (r_fieldAddr rfl rfl rfl rfl rfl) rfl ?_
  refine op_run (r_load rfl rfl rfl (hB1.cell rfl)) rfl ?_
  refine op_call rfl rfl rfl (pack_Number w1 (.slice none 0 0) [] c.epoch h64 (own_nil _ _ _) (by decide)) ?_; rintro v3 w3 ⟨hO3, hk3, hin3⟩
  have hk3 := none_all hk3
  have hO3 : OwnB w3 5 v3 (encN c.epoch) := hO3
  have hin3 : InB (fun z => w1.heap.size ≤ z) v3 := fun z hz => (hin3 z hz).resolve_left (fun e => by cases e)
  refine o_ast rfl ?_
  refine ops_nil ?_
  refine W_seq ?_
  refine W_seq ?_
  refine W_region ?_
  refine op_call rfl rfl rfl (cm_refs w3 b1) ?_; rintro v4 w4 ⟨s, rfl, hs4, hsl4, hB4, hk4⟩
  refine op_run (r_len rfl rfl rfl) rfl ?_
  refine o_mvc rfl ?_
  refine ops_nil ?_
  refine W_block ?_
  refine W_loop [3, 11] [3, 5, 11, 12, 13, 14, 15, 16, 17, 18, 19, 20] (fun vs w' => ∃ (u : Value) (k : Nat), vs = [u, .int .i64 k] ∧ k ≤ 3 ∧ OwnB w' 5 u (encN c.epoch ++ encRs c k) ∧ Keep All w1 w' ∧ InB (fun z => w1.heap.size ≤ z ∧ z ≠ s) u ∧ Blk w' s ((rfAt c).map fun p => .pointer (some ⟨b1, p.1, none⟩)) 55) (fun vs _ => match vs with | [_, .int _ y] => 3 - y.toNat | _ => 0) ⟨v3, 0, rfl, Nat.zero_le _, by rw [show encRs c 0 = [] from rfl, List.append_nil]; exact hO3.keep hk4 (fun _ _ => trivial), hk3.trans hk4, fun z hz => ⟨hin3 z hz, fun e => by have := hO3.lt z hz; omega⟩, hB4⟩ ?_
  rintro J5 vs w5 ⟨u, k, rfl, hk, hO, hkA, hin, hBs⟩ -
  refine W_seq ?_
  refine W_region ?_
  refine op_run (r_lss rfl rfl) rfl ?_
  refine ops_nil ?_
  refine W_seq ?_
  refine W_cond_p rfl (fun h6 => ?_) (fun h6 => ?_)
  · refine W_skip ?_
    refine W_seq ?_
    refine W_block ?_
    refine W_seq ?_
    refine W_region ?_
    have hk3 : k < 3 := by omega
    obtain ⟨⟨o, r⟩, hor⟩ : ∃ p, (rfAt c)[k]? = some p := ⟨_, List.getElem?_eq_getElem (show k < 3 from hk3)⟩
    have hpv : ((rfAt c).map fun p => Value.pointer (some ⟨b1, p.1, none⟩))[k]? = some (.pointer (some ⟨b1, o, none⟩)) := by rw [List.getElem?_map, hor]; rfl
    have hB5 := hkA.blk' hB1 trivial
    have hrl := encRs_len c k
    have hlts := hBs.lt
    have hz5 := hkA.size
    refine op_run (r_idxS1 rfl rfl rfl rfl (by omega) (by omega)) rfl ?_
    refine op_run (r_load rfl rfl rfl (hBs.cell (show _[0 + ((k : Nat) : Int).toNat]? = _ by rw [Int.toNat_natCast, Nat.zero_add]; exact hpv))) rfl ?_
    refine o_ast rfl ?_
    refine ops_nil ?_
    refine W_region ?_
    refine o_mvt rfl ?_
    refine o_mvt rfl ?_
    refine op_run (r_nilCheck rfl) rfl ?_
    refine op_run (r_loadA (refR r) rfl rfl rfl (by first | rfl | (rw [binV_len]; rfl) | (rw [dgR_len]; rfl) | (rw [refR_len]; rfl) | (rw [secR_len]; rfl) | (rw [List.length_map, tagF_len]; rfl)) ((fun j x hj => by rw [Addr.add_lit]; exact hB5.cell (cmV_ref hor hj)))) rfl ?_
    refine op_call rfl rfl rfl (bl_Put w5 u (encN c.epoch ++ encRs c k) r hO (by rw [List.length_append]; omega)) ?_; rintro v10 w10 ⟨hO10, hk10, hin10⟩
    refine o_ast rfl ?_
    refine ops_nil ?_
    refine W_region ?_
    refine op_run (r_add rfl rfl) rfl ?_
    refine o_mvt rfl ?_
    refine ops_nil ?_
    have hinc := inc64' k (by omega)
    refine ⟨by (repeat (first | with_reducible exact offM_refl _ _ | refine offM_updc rfl ?_ | refine offM_upd rfl ?_ | refine offM_updo rfl ?_ | refine offM_updo_none ?_ | refine offM_head rfl rfl ?_)), ⟨v10, k + 1, congrArg (fun z : Int => [v10, Value.int .i64 z]) hinc, by omega, by rw [encRs_s hor, ← List.append_assoc]; exact hO10, hkA.own hk10 (fun y hy _ => (hin y hy).1), fun y hy => ?_, hk10.blk' hBs (fun e => (hin s e.symm).2 rfl)⟩, ?_⟩
    · rcases hin10 y hy with h | h
      · exact hin y h
      · exact ⟨by omega, by omega⟩
    · show 3 - (IntKind.i64.wrap ((k : Int) + 1)).toNat < 3 - (k : Int).toNat
      rw [hinc]; omega
  · refine W_exit ?_
    refine W_seq ?_
    have hke : k = 3 := by omega
    subst hke
    have hB5 := hkA.blk' hB1 trivial
    have hrl := encRs_len c 3
    have hk5 : Keep All w w5 := hk1.trans hkA
    have hz1 := hk1.size
    have hinw : InB (fun z => w.heap.size ≤ z ∧ z ≠ b1) u := fun z hz => ⟨by have := (hin z hz).1; omega, fun e => by have := (hin z hz).1; omega⟩
    refine W_held (fun w => Blk w b1 (cmV c vb ve) 32) (by kernel_rfl) ((Keep.drawn w5).blk' hB5 trivial) (fun hS => ?_)
    refine any_mvt 0 rfl (by kernel_rfl) (by kernel_rfl) (by kernel_rfl) rfl hS ?_
    refine any_run 1 (fun w' hS' => (r_fieldAddr rfl rfl rfl rfl rfl)) rfl (by kernel_rfl) (by kernel_rfl) (by kernel_rfl) rfl hS ?_
    refine any_run 2 (fun w' hS' => (r_load rfl rfl rfl (hS'.cell (cmV_bins c vb ve)))) rfl (by kernel_rfl) (by kernel_rfl) (by kernel_rfl) rfl hS ?_
    refine any_run 4 (fun w' hS' => (r_fieldAddr rfl rfl rfl rfl rfl)) rfl (by kernel_rfl) (by kernel_rfl) (by kernel_rfl) rfl hS ?_
    refine any_run 5 (fun w' hS' => (r_sliceA rfl rfl rfl)) rfl (by kernel_rfl) (by kernel_rfl) (by kernel_rfl) rfl hS ?_
    refine any_one 3 (by kernel_rfl) (one_of rfl ?_)
    refine op_call rfl rfl rfl (cm_listB _ u vb _ c.bins (hO.keep (Keep.drawn w5) (fun _ _ => trivial)) (fun w' hk' => hc.1.k ((hk5.trans (Keep.drawn w5)).own hk' (fun y hy _ => (hinw y hy).1))) hnb (by rw [List.length_append]; omega)) ?_; rintro v14 w14 ⟨hO14, hk14, hin14⟩
    have hz5 := hk5.size
    have hk14' : Keep All w w14 := (hk5.trans (Keep.drawn w5)).own hk14 (fun y hy _ => (hinw y hy).1)
    have hB14 := hk14.blk' ((Keep.drawn w5).blk' hB5 trivial) (fun e => (hinw b1 e.symm).2 rfl)
    have hlt5 := hB5.lt
    have hin14' : InB (fun z => w.heap.size ≤ z ∧ z ≠ b1) v14 := fun z hz => by
      rcases hin14 z hz with h | h
      · exact hinw z h
      · have h : w5.heap.size ≤ z := h
        exact ⟨by omega, by omega⟩
    refine ops_nil ⟨hB14, fun hS => ?_⟩
    have hdig : By w14 (.slice (some ⟨b1, 0 + 104, none⟩) 32 32) c.state.val := by
      have := By.of_at (w := w14) (b := b1) (off := 104) (c := 32) (bs := c.state.val) (fun j u hj => hB14.cell (cmV_state c vb ve hj)) (by omega) (by unfold maxLen; omega)
      rwa [hsl] at this
    refine any_one 6 (by kernel_rfl) (one_of rfl ?_)
    refine o_appS (v := v14) rfl rfl hdig rfl ti_u8 rfl rfl hO14 (all_c8 _) (by simp only [List.length_append]; unfold maxLen; omega) (by simp only [List.length_append]; omega) rfl ?_; intro v16 w16 hown16 hk16 hb16
    have hO16 := OwnB.app hown16
    have hB16 := hk16.blk' hB14 (fun e => (hin14' b1 e.symm).2 rfl)
    have hk16' : Keep All w w16 := hk14'.own hk16 (fun y hy _ => (hin14' y hy).1)
    have hz14 := hk14'.size
    have hlt14 := hB14.lt
    have hin16' : InB (fun z => w.heap.size ≤ z ∧ z ≠ b1) v16 := fun z hz => by
      rcases hb16 z hz with h | h
      · exact hin14' z h
      · exact ⟨by omega, by omega⟩
    refine ops_nil ⟨hB16, fun hS => ?_⟩
    refine any_ast 7 rfl (by kernel_rfl) (by kernel_rfl) (by kernel_rfl) rfl hS ?_
    refine any_done (by kernel_rfl) ?_
    refine W_seq ?_
    refine W_region ?_
    refine o_mvt rfl ?_
    refine op_run (r_fieldAddr rfl rfl rfl rfl rfl) rfl ?_
    refine op_run (r_load rfl rfl rfl (hB16.cell (cmV_events c vb ve))) rfl ?_
    refine op_call rfl rfl rfl (cm_listE w16 v16 ve vks _ c.events hO16 (fun w' hk' => hc.2.k (hk16'.own hk' (fun y hy _ => (hin16' y hy).1))) hne hev (by simp only [List.length_append]; omega)) ?_; rintro v19 w19 ⟨hO19, hk19, hin19⟩
    refine o_ast rfl ?_
    refine ops_nil ?_
    refine W_ret ?_
    refine ret1 v19 rfl ?_ ?_; rfl
    refine ⟨by rw [← encC_split]; exact hO19, hk16'.own hk19 (fun y hy _ => (hin16' y hy).1), fun y hy => ?_⟩
    have hz16 := hk16'.size
    rcases hin19 y hy with h | h
    · exact (hin16' y h).1
    · omega
theorem bn_trip (x : Bn) : ((bnR (encBn x) false).1 = x ∧ ¬ ((bnR (encBn x) false).2.2 = true ∨ 0 < (bnR (encBn x) false).2.1.length)) ↔ x.may := by
  constructor
  · rintro ⟨h1, h2⟩
    have hb : (bnR (encBn x) false).2.2 = false := by simpa using fun h => h2 (.inl h)
    have h3 := bnR_can (show bnR (encBn x) false = (x, (bnR (encBn x) false).2.1, false) from Prod.ext h1 (Prod.ext rfl hb))
    exact h3.2.2
  · intro h
    have h1 := bnR_enc h []
    rw [List.append_nil] at h1
    rw [h1]; simp
theorem rf_trip (x : Rf) : ((rfR (encR x) false).1 = x ∧ ¬ ((rfR (encR x) false).2.2 = true ∨ 0 < (rfR (encR x) false).2.1.length)) ↔ x.may := by
  constructor
  · rintro ⟨h1, h2⟩
    have hb : (rfR (encR x) false).2.2 = false := by simpa using fun h => h2 (.inl h)
    have h3 := rfR_can (show rfR (encR x) false = (x, (rfR (encR x) false).2.1, false) from Prod.ext h1 (Prod.ext rfl hb))
    exact h3.2.2
  · intro h
    have h1 := rfR_enc h []
    rw [List.append_nil] at h1
    rw [h1]; simp
theorem rfAt_may (c : Cm) : (∀ p ∈ rfAt c, p.2.may) ↔ (c.prev.may ∧ c.vols.may ∧ c.idx.may) := by
  unfold rfAt; simp
theorem cm_right (w : World) (c : Cm) (vb ve : Value) (vks : List Value) (hc : CmIn w c vb ve vks) :
    Ret Try.prog 35 [.agg (cmV c vb ve).toArray].toArray w fun u w' => u = .bool (decide c.right) ∧ Keep All w w' := by
  obtain ⟨ab, cb, rfl, hcb, hcbm⟩ := hc.1.form
  have hmx : cb ≤ 9223372036854775807 := hcbm
  refine enter (fn := Try.f35) (n := 64) Try.func35 rfl rfl (by simp) ?_
  refine W_seq ?_
  refine W_region ?_
  refine o_box rfl rfl rfl ?_; intro w1 b1 e1 hB1 hk1 hs1
  have hB1 : Blk w1 b1 (cmV c (.slice ab c.bins.length cb) ve) 32 := hB1
  refine o_asc rfl ?_
  refine ops_nil ?_
  refine W_seq ?_
  refine W_region ?_
  refine o_asc rfl ?_
  refine ops_nil ?_
  refine W_seq ?_
  refine W_seq ?_
  refine W_region ?_
  refine op_run (r_fieldAddr rfl rfl rfl rfl rfl) rfl ?_
  refine op_run (r_load rfl rfl rfl (hB1.cell (cmV_bins _ _ _))) rfl ?_
  refine op_run (r_len rfl rfl rfl) rfl ?_
  refine o_mvc rfl ?_
  refine ops_nil ?_
  refine W_block ?_
  refine W_loop [3, 13] [2, 3, 5, 6, 13, 14, 15, 16, 17, 18, 19, 20, 21, 22, 23, 24, 25, 26, 27, 28, 29, 30, 31, 32, 33, 34, 35, 36, 37] (fun vs w' => ∃ (last : Int) (k : Nat), vs = [.int .i64 last, .int .i64 k] ∧ k ≤ c.bins.length ∧ ((rising (-1) c.bins ∧ ∀ x ∈ c.bins, x.may) ↔ (rising last (c.bins.drop k) ∧ ∀ x ∈ c.bins.drop k, x.may)) ∧ Keep All w1 w') (fun vs _ => match vs with | [_, .int _ y] => c.bins.length - y.toNat | _ => 0) ⟨-1, 0, rfl, Nat.zero_le _, Iff.rfl, Keep.refl _⟩ ?_
  rintro J3 vs w3 ⟨last, k, rfl, hk, hiff, hkA⟩ -
  refine W_seq ?_
  refine W_region ?_
  refine op_run (r_lss rfl rfl) rfl ?_
  refine ops_nil ?_
  refine W_seq ?_
  refine W_cond_p rfl (fun h4 => ?_) (fun h4 => ?_)
  · refine W_skip ?_
    refine W_seq ?_
    refine W_block ?_
    refine W_seq ?_
    refine W_region ?_
    have hkl : k < c.bins.length := by omega
    have hS := hc.1.k (hk1.trans hkA)
    obtain ⟨bp, op, rfl, hcell⟩ := rows_at' (i := k) binV_len hS hkl (by decide)
    obtain ⟨x, hx⟩ : ∃ x, x = c.bins[k] := ⟨_, rfl⟩
    rw [← hx] at hcell
    have hdk : c.bins.drop k = x :: c.bins.drop (k + 1) := by rw [List.drop_eq_getElem_cons hkl, hx]
    have hlx := encBn_len x
    refine op_run (r_idxS rfl rfl rfl ti_bin (by omega) (by omega)) rfl ?_
    refine op_run (r_loadA (binV x) rfl rfl rfl (by first | rfl | (rw [binV_len]; rfl) | (rw [dgR_len]; rfl) | (rw [refR_len]; rfl) | (rw [secR_len]; rfl) | (rw [List.length_map, tagF_len]; rfl)) ((by intro j y hj; rw [Int.toNat_natCast]; exact hcell j y hj))) rfl ?_
    refine o_alloc rfl rfl rfl ?_; intro w7 b7 e7 hB7 hk7 hs7
    refine o_storeA (cs := binV x) rfl rfl (by first | rfl | exact binV_one _ | exact dgR_one _ | exact refR_one _ | exact secR_one _ | exact all_c8 _) (by first | rfl | (rw [binV_len]; rfl) | (rw [dgR_len]; rfl) | (rw [refR_len]; rfl) | (rw [secR_len]; rfl) | (rw [List.length_map, tagF_len]; rfl)) hB7 (by exact Nat.le_of_eq (by simp [binV_len])) rfl ?_; intro w8 hB8 hk8 hs8
    have hB8 : Blk w8 b7 (binV x) 59 := by
      have h := hB8
      rwa [splice_all (by simp [binV_len])] at h
    have hk38 : Keep All w3 w8 := hk7.new hk8 (by omega)
    refine ops_nil ?_
    refine W_seq ?_
    refine W_region ?_
    refine op_run (r_loadA (binV x) rfl rfl rfl (by first | rfl | (rw [binV_len]; rfl) | (rw [dgR_len]; rfl) | (rw [refR_len]; rfl) | (rw [secR_len]; rfl) | (rw [List.length_map, tagF_len]; rfl)) (hB8.all)) rfl ?_
    refine op_call rfl rfl rfl (bn_Put w8 (.slice none 0 0) [] x (own_nil _ _ _) (by decide)) ?_; rintro v10 w10 ⟨hO10, hk10, hin10⟩
    have hk10 := none_all hk10
    have hO10 : OwnB w10 5 v10 (encBn x) := hO10
    refine op_call rfl rfl rfl (pack_From w10 v10 (encBn x) (OwnB.by_ hO10) (by omega)) ?_; rintro v11 w11 ⟨bI, rfl, hbI, hI11, hk11⟩
    have hbIl : bI < w11.heap.size := by obtain ⟨_, h, _⟩ := hI11; exact h.lt
    have hB11 := hk11.blk' (hk10.blk' hB8 trivial) trivial
    have hk311 := (hk38.trans hk10).trans hk11
    have hz10 := hk10.size
    have hz38 := hk38.size
    have hlt8 := hB8.lt
    have htr := bn_trip x
    refine o_ast rfl ?_
    refine ops_nil ?_
    refine W_seq ?_
    refine W_cut [34] [20, 21, 22, 23, 24, 25, 26, 27, 28, 29, 30, 31, 32, 33, 34] (fun vs w12 => vs = [.bool (decide (¬ (x.may ∧ last < x.number)))] ∧ Keep All w3 w12 ∧ Blk w12 b7 (binV x) 59) ?_ ?_
    · refine W_held (fun w => Blk w b7 (binV x) 59) (by kernel_rfl) ((Keep.drawn w11).blk' hB11 trivial) (fun hS => ?_)
      refine any_mvt 0 rfl (by kernel_rfl) (by kernel_rfl) (by kernel_rfl) rfl hS ?_
      refine any_run 2 (fun w' hS' => (r_loadA (binV x) rfl rfl rfl (by first | rfl | (rw [binV_len]; rfl) | (rw [dgR_len]; rfl) | (rw [refR_len]; rfl) | (rw [secR_len]; rfl) | (rw [List.length_map, tagF_len]; rfl)) (hS'.all))) rfl (by kernel_rfl) (by kernel_rfl) (by kernel_rfl) rfl hS ?_
      refine any_one 1 (by kernel_rfl) (one_of rfl ?_)
      refine op_call rfl rfl rfl (bn_Take _ bI _ (encBn x) false (fun h => Nat.lt_irrefl _ h.2) (fun k hk => by have := hk.2; show k < w11.heap.size; omega) (hI11.keep (Keep.drawn w11) trivial (fun _ _ => trivial))) ?_; rintro v15 w15 ⟨rfl, hI15, hk15⟩
      have hk15' : Keep All w3 w15 := (hk311.trans (Keep.drawn w11)).new hk15 (by omega)
      refine ops_nil ⟨hk15.blk' hS (show b7 ≠ bI by omega), fun hS => ?_⟩
      refine any_run 3 (fun w' hS' => (r_neqC (p := (bnR (encBn x) false).1 = x) rfl rfl rfl rfl (by kernel_rfl) (okC_bin _) (okC_bin _) rfl (binV_inj))) rfl (by kernel_rfl) (by kernel_rfl) (by kernel_rfl) rfl hS ?_
      refine any_mvt 4 rfl (by kernel_rfl) (by kernel_rfl) (by kernel_rfl) rfl hS ?_
      refine a_split 24 false rfl (fun g18 => ?_) (fun g18 => ?_)
      · refine any_mvt 5 rfl (by kernel_rfl) (by kernel_rfl) (by kernel_rfl) (g_yes rfl rfl rfl g18) hS ?_
        refine any_one 6 (by kernel_rfl) (one_of rfl ?_)
        refine op_call rfl rfl (g_yes rfl rfl rfl g18) (in_Done w15 bI _ _ _ hI15) ?_; rintro v19 w19 ⟨rfl, hk19⟩
        refine ops_nil ⟨hk19.blk' hS trivial, fun hS => ?_⟩
        refine any_run 7 (fun w' hS' => (r_neq rfl rfl)) rfl (by kernel_rfl) (by kernel_rfl) (by kernel_rfl) (g_yes rfl rfl rfl g18) hS ?_
        refine any_run 8 (fun w' hS' => (r_pickF rfl g18)) rfl (by kernel_rfl) (by kernel_rfl) (by kernel_rfl) rfl hS ?_
        refine any_mvt 9 rfl (by kernel_rfl) (by kernel_rfl) (by kernel_rfl) rfl hS ?_
        refine a_split 29 false rfl (fun g21 => ?_) (fun g21 => ?_)
        · refine any_run 10 (fun w' hS' => (r_fieldAddr rfl rfl rfl rfl rfl)) rfl (by kernel_rfl) (by kernel_rfl) (by kernel_rfl) (g_yes rfl rfl rfl g21) hS ?_
          refine any_run 11 (fun w' hS' => (r_load rfl rfl rfl ((hS'.cell rfl)))) rfl (by kernel_rfl) (by kernel_rfl) (by kernel_rfl) (g_yes rfl rfl rfl g21) hS ?_
          refine any_mvt 12 rfl (by kernel_rfl) (by kernel_rfl) (by kernel_rfl) (g_yes rfl rfl rfl g21) hS ?_
          refine any_run 13 (fun w' hS' => (r_leq rfl rfl)) rfl (by kernel_rfl) (by kernel_rfl) (by kernel_rfl) (g_yes rfl rfl rfl g21) hS ?_
          refine any_run 14 (fun w' hS' => (r_pickF rfl g21)) rfl (by kernel_rfl) (by kernel_rfl) (by kernel_rfl) rfl hS ?_
          refine any_done (by kernel_rfl) ?_
          have hm : x.may := htr.1 ⟨by simpa using g18, fun hh => by rw [if_pos hh] at g21; exact absurd g21 (by decide)⟩
          exact ⟨by (repeat (first | with_reducible exact offM_refl _ _ | refine offM_updc rfl ?_ | refine offM_upd rfl ?_ | refine offM_updo rfl ?_ | refine offM_updo_none ?_ | refine offM_head rfl rfl ?_)), congrArg (fun b => [Value.bool b]) (by
            rw [decide_eq_decide]
            constructor
            · intro h hh; have := hh.2; omega
            · intro h; exact Classical.byContradiction fun hh => h ⟨hm, by omega⟩), hk15'.trans hk19, hS⟩
        · refine any_skip 10 rfl (by kernel_rfl) (by kernel_rfl) (by kernel_rfl) (g_no rfl rfl rfl g21) hS ?_
          refine any_skip 11 rfl (by kernel_rfl) (by kernel_rfl) (by kernel_rfl) (g_no rfl rfl rfl g21) hS ?_
          refine any_skip 12 rfl (by kernel_rfl) (by kernel_rfl) (by kernel_rfl) (g_no rfl rfl rfl g21) hS ?_
          refine any_skip 13 rfl (by kernel_rfl) (by kernel_rfl) (by kernel_rfl) (g_no rfl rfl rfl g21) hS ?_
          refine any_run 14 (fun w' hS' => (r_pickT rfl g21)) rfl (by kernel_rfl) (by kernel_rfl) (by kernel_rfl) rfl hS ?_
          refine any_done (by kernel_rfl) ?_
          exact ⟨by (repeat (first | with_reducible exact offM_refl _ _ | refine offM_updc rfl ?_ | refine offM_upd rfl ?_ | refine offM_updo rfl ?_ | refine offM_updo_none ?_ | refine offM_head rfl rfl ?_)), congrArg (fun b => [Value.bool b]) (by
            symm; exact decide_eq_true fun hh => by
              have h2 := (htr.2 hh.1).2
              rw [if_neg h2] at g21; exact absurd g21 (by decide)), hk15'.trans hk19, hS⟩
      · refine any_skip 5 rfl (by kernel_rfl) (by kernel_rfl) (by kernel_rfl) (g_no rfl rfl rfl g18) hS ?_
        refine any_one 6 (by kernel_rfl) (one_of rfl ?_)
        refine op_skip (g_no rfl rfl rfl g18) ?_
        refine ops_nil ⟨hS, fun hS => ?_⟩
        refine any_skip 7 rfl (by kernel_rfl) (by kernel_rfl) (by kernel_rfl) (g_no rfl rfl rfl g18) hS ?_
        refine any_run 8 (fun w' hS' => (r_pickT rfl g18)) rfl (by kernel_rfl) (by kernel_rfl) (by kernel_rfl) rfl hS ?_
        refine any_mvt 9 rfl (by kernel_rfl) (by kernel_rfl) (by kernel_rfl) rfl hS ?_
        refine any_skip 10 rfl (by kernel_rfl) (by kernel_rfl) (by kernel_rfl) (g_no rfl rfl rfl rfl) hS ?_
        refine any_skip 11 rfl (by kernel_rfl) (by kernel_rfl) (by kernel_rfl) (g_no rfl rfl rfl rfl) hS ?_
        refine any_skip 12 rfl (by kernel_rfl) (by kernel_rfl) (by kernel_rfl) (g_no rfl rfl rfl rfl) hS ?_
        refine any_skip 13 rfl (by kernel_rfl) (by kernel_rfl) (by kernel_rfl) (g_no rfl rfl rfl rfl) hS ?_
        refine any_run 14 (fun w' hS' => (r_pickT rfl rfl)) rfl (by kernel_rfl) (by kernel_rfl) (by kernel_rfl) rfl hS ?_
        refine any_done (by kernel_rfl) ?_
        exact ⟨by (repeat (first | with_reducible exact offM_refl _ _ | refine offM_updc rfl ?_ | refine offM_upd rfl ?_ | refine offM_updo rfl ?_ | refine offM_updo_none ?_ | refine offM_head rfl rfl ?_)), congrArg (fun b => [Value.bool b]) (by
          symm; exact decide_eq_true fun hh => by
            have h2 := (htr.2 hh.1).1
            rw [h2] at g18; exact absurd g18 (by simp)), hk15', hS⟩
    · rintro J27 vs w27 ⟨rfl, hk27, hB27⟩ -
      refine W_cond_p rfl (fun h28 => ?_) (fun h28 => ?_)
      · refine W_seq ?_
        refine W_region ?_
        refine o_asc rfl ?_
        refine ops_nil ?_
        refine W_ret ?_
        refine ret1 (.bool false) rfl ?_ ?_; rfl
        refine ⟨congrArg Value.bool (decide_eq_false fun hr => h28 ?_).symm, (hk1.trans hkA).trans hk27⟩
        have h := hiff.1 hr.1
        rw [hdk] at h
        exact ⟨h.2 x (List.mem_cons_self ..), h.1.1⟩
      · refine W_skip ?_
        refine W_region ?_
        refine op_run (r_fieldAddr rfl rfl rfl rfl rfl) rfl ?_
        refine op_run (r_load rfl rfl rfl (hB27.cell rfl)) rfl ?_
        refine o_ast rfl ?_
        refine ops_nil ?_
        refine W_region ?_
        refine op_run (r_add rfl rfl) rfl ?_
        refine o_mvt rfl ?_
        refine ops_nil ?_
        have hinc := inc64' k (by omega)
        obtain ⟨hm, hln⟩ := Decidable.not_not.1 h28
        refine ⟨by (repeat (first | with_reducible exact offM_refl _ _ | refine offM_updc rfl ?_ | refine offM_upd rfl ?_ | refine offM_updo rfl ?_ | refine offM_updo_none ?_ | refine offM_head rfl rfl ?_)), ⟨x.number, k + 1, congrArg (fun z : Int => [Value.int .i64 x.number, Value.int .i64 z]) hinc, by omega, hiff.trans ?_, hkA.trans hk27⟩, ?_⟩
        · rw [hdk]
          constructor
          · rintro ⟨h1, h2⟩; exact ⟨h1.2, fun y hy => h2 y (List.mem_cons_of_mem _ hy)⟩
          · rintro ⟨h1, h2⟩
            refine ⟨⟨hln, h1⟩, fun y hy => ?_⟩
            rcases List.mem_cons.1 hy with rfl | hy
            · exact hm
            · exact h2 y hy
        · show c.bins.length - (IntKind.i64.wrap ((k : Int) + 1)).toNat < c.bins.length - (k : Int).toNat
          rw [hinc]; omega
  · refine W_exit ?_
    refine W_seq ?_
    refine W_seq ?_
    refine W_region ?_
    have hke : k = c.bins.length := by omega
    have hb1 : rising (-1) c.bins ∧ ∀ x ∈ c.bins, x.may := hiff.2 (by rw [hke, List.drop_length]; exact ⟨trivial, fun x hx => by cases hx⟩)
    refine op_call rfl rfl rfl (cm_refs w3 b1) ?_; rintro v32 w32 ⟨s, rfl, hs32, hsl32, hB32, hk32⟩
    have hB32 : Blk w32 s ((rfAt c).map fun p => .pointer (some ⟨b1, p.1, none⟩)) 55 := hB32
    refine op_run (r_len rfl rfl rfl) rfl ?_
    refine o_mvc rfl ?_
    refine ops_nil ?_
    refine W_block ?_
    refine W_loop [40] [2, 8, 9, 40, 41, 42, 43, 44, 45, 46, 47, 48, 49, 50, 51, 52, 53, 54, 55, 56, 57, 58, 59, 60] (fun vs w' => ∃ j : Nat, vs = [.int .i64 j] ∧ j ≤ 3 ∧ ((∀ p ∈ rfAt c, p.2.may) ↔ ∀ p ∈ (rfAt c).drop j, p.2.may) ∧ Keep All w32 w') (fun vs _ => match vs with | [.int _ y] => 3 - y.toNat | _ => 0) ⟨0, rfl, Nat.zero_le _, Iff.rfl, Keep.refl _⟩ ?_
    rintro J33 vs w33 ⟨j, rfl, hj, hiff2, hkB⟩ -
    have hkw33 : Keep All w1 w33 := (hkA.trans hk32).trans hkB
    have hB33 := hkw33.blk' hB1 trivial
    refine W_seq ?_
    refine W_region ?_
    refine op_run (r_lss rfl rfl) rfl ?_
    refine ops_nil ?_
    refine W_seq ?_
    refine W_cond_p rfl (fun h34 => ?_) (fun h34 => ?_)
    · refine W_skip ?_
      refine W_seq ?_
      refine W_block ?_
      refine W_seq ?_
      refine W_region ?_
      have hj3 : j < 3 := by omega
      obtain ⟨⟨o, r⟩, hor⟩ : ∃ p, (rfAt c)[j]? = some p := ⟨_, List.getElem?_eq_getElem (show j < 3 from hj3)⟩
      have hpv : ((rfAt c).map fun p => Value.pointer (some ⟨b1, p.1, none⟩))[j]? = some (.pointer (some ⟨b1, o, none⟩)) := by rw [List.getElem?_map, hor]; rfl
      have hBs := hkB.blk' hB32 trivial
      have hdj : (rfAt c).drop j = (o, r) :: (rfAt c).drop (j + 1) := by
        obtain ⟨h1, h2⟩ := List.getElem?_eq_some_iff.1 hor
        rw [List.drop_eq_getElem_cons h1, h2]
      have hrl := encR_len r
      refine op_run (r_idxS1 rfl rfl rfl rfl (by omega) (by omega)) rfl ?_
      refine op_run (r_load rfl rfl rfl (hBs.cell (show _[0 + ((j : Nat) : Int).toNat]? = _ by rw [Int.toNat_natCast, Nat.zero_add]; exact hpv))) rfl ?_
      refine o_ast rfl ?_
      refine ops_nil ?_
      refine W_seq ?_
      refine W_region ?_
      refine o_mvt rfl ?_
      refine op_run (r_nilCheck rfl) rfl ?_
      refine op_run (r_loadA (refR r) rfl rfl rfl (by first | rfl | (rw [binV_len]; rfl) | (rw [dgR_len]; rfl) | (rw [refR_len]; rfl) | (rw [secR_len]; rfl) | (rw [List.length_map, tagF_len]; rfl)) ((fun i x hi => by rw [Addr.add_lit]; exact hB33.cell (cmV_ref hor hi)))) rfl ?_
      refine op_call rfl rfl rfl (bl_Put w33 (.slice none 0 0) [] r (own_nil _ _ _) (by decide)) ?_; rintro v38 w38 ⟨hO38, hk38, hin38⟩
      have hk38 := none_all hk38
      have hO38 : OwnB w38 5 v38 (encR r) := hO38
      refine op_call rfl rfl rfl (pack_From w38 v38 (encR r) (OwnB.by_ hO38) (by omega)) ?_; rintro v39 w39 ⟨bI, rfl, hbI, hI39, hk39⟩
      have hbIl : bI < w39.heap.size := by obtain ⟨_, h, _⟩ := hI39; exact h.lt
      have hk339 := hk38.trans hk39
      have hB39 := hk339.blk' hB33 trivial
      have hz38 := hk38.size
      have hlt33 := hB33.lt
      have htr := rf_trip r
      refine o_ast rfl ?_
      refine ops_nil ?_
      refine W_cut [59] [49, 50, 51, 52, 53, 54, 55, 56, 57, 58, 59] (fun vs w40 => vs = [.bool (decide (¬ r.may))] ∧ Keep All w33 w40) ?_ ?_
      · refine W_held (fun w => Blk w b1 (cmV c (.slice ab c.bins.length cb) ve) 32) (by kernel_rfl) ((Keep.drawn w39).blk' hB39 trivial) (fun hS => ?_)
        refine any_mvt 0 rfl (by kernel_rfl) (by kernel_rfl) (by kernel_rfl) rfl hS ?_
        refine any_mvt 2 rfl (by kernel_rfl) (by kernel_rfl) (by kernel_rfl) rfl hS ?_
        refine any_run 3 (fun w' hS' => (r_nilCheck rfl)) rfl (by kernel_rfl) (by kernel_rfl) (by kernel_rfl) rfl hS ?_
        refine any_run 4 (fun w' hS' => (r_loadA (refR r) rfl rfl rfl (by first | rfl | (rw [binV_len]; rfl) | (rw [dgR_len]; rfl) | (rw [refR_len]; rfl) | (rw [secR_len]; rfl) | (rw [List.length_map, tagF_len]; rfl)) ((fun i x hi => by rw [Addr.add_lit]; exact hS'.cell (cmV_ref hor hi))))) rfl (by kernel_rfl) (by kernel_rfl) (by kernel_rfl) rfl hS ?_
        refine any_one 1 (by kernel_rfl) (one_of rfl ?_)
        refine op_call rfl rfl rfl (bl_Take _ bI _ (encR r) false (fun h => Nat.lt_irrefl _ h.2) (fun k hk => by have := hk.2; show k < w39.heap.size; omega) (hI39.keep (Keep.drawn w39) trivial (fun _ _ => trivial))) ?_; rintro v43 w43 ⟨rfl, hI43, hk43⟩
        have hk43' : Keep All w33 w43 := (hk339.trans (Keep.drawn w39)).new hk43 (by omega)
        refine ops_nil ⟨hk43.blk' hS (show b1 ≠ bI by omega), fun hS => ?_⟩
        refine any_run 5 (fun w' hS' => (r_neqC (p := (rfR (encR r) false).1 = r) rfl rfl rfl rfl (by kernel_rfl) (okC_ref _) (okC_ref _) rfl (refR_inj))) rfl (by kernel_rfl) (by kernel_rfl) (by kernel_rfl) rfl hS ?_
        refine any_mvt 6 rfl (by kernel_rfl) (by kernel_rfl) (by kernel_rfl) rfl hS ?_
        refine a_split 55 false rfl (fun g46 => ?_) (fun g46 => ?_)
        · refine any_mvt 7 rfl (by kernel_rfl) (by kernel_rfl) (by kernel_rfl) (g_yes rfl rfl rfl g46) hS ?_
          refine any_one 8 (by kernel_rfl) (one_of rfl ?_)
          refine op_call rfl rfl (g_yes rfl rfl rfl g46) (in_Done w43 bI _ _ _ hI43) ?_; rintro v47 w47 ⟨rfl, hk47⟩
          refine ops_nil ⟨hk47.blk' hS trivial, fun hS => ?_⟩
          refine any_run 9 (fun w' hS' => (r_neq rfl rfl)) rfl (by kernel_rfl) (by kernel_rfl) (by kernel_rfl) (g_yes rfl rfl rfl g46) hS ?_
          refine any_run 10 (fun w' hS' => (r_pickF rfl g46)) rfl (by kernel_rfl) (by kernel_rfl) (by kernel_rfl) rfl hS ?_
          refine any_done (by kernel_rfl) ?_
          exact ⟨by (repeat (first | with_reducible exact offM_refl _ _ | refine offM_updc rfl ?_ | refine offM_upd rfl ?_ | refine offM_updo rfl ?_ | refine offM_updo_none ?_ | refine offM_head rfl rfl ?_)), congrArg (fun b => [Value.bool b]) (by
            have hp : (rfR (encR r) false).1 = r := by simpa using g46
            rw [decide_eq_decide]
            constructor
            · intro h hm
              have h2 := (htr.2 hm).2
              rw [if_neg h2] at h; exact h rfl
            · intro h hh
              exact h (htr.1 ⟨hp, fun hd => by rw [if_pos hd] at hh; exact absurd hh (by decide)⟩)), hk43'.trans hk47⟩
        · refine any_skip 7 rfl (by kernel_rfl) (by kernel_rfl) (by kernel_rfl) (g_no rfl rfl rfl g46) hS ?_
          refine any_one 8 (by kernel_rfl) (one_of rfl ?_)
          refine op_skip (g_no rfl rfl rfl g46) ?_
          refine ops_nil ⟨hS, fun hS => ?_⟩
          refine any_skip 9 rfl (by kernel_rfl) (by kernel_rfl) (by kernel_rfl) (g_no rfl rfl rfl g46) hS ?_
          refine any_run 10 (fun w' hS' => (r_pickT rfl g46)) rfl (by kernel_rfl) (by kernel_rfl) (by kernel_rfl) rfl hS ?_
          refine any_done (by kernel_rfl) ?_
          exact ⟨by (repeat (first | with_reducible exact offM_refl _ _ | refine offM_updc rfl ?_ | refine offM_upd rfl ?_ | refine offM_updo rfl ?_ | refine offM_updo_none ?_ | refine offM_head rfl rfl ?_)), congrArg (fun b => [Value.bool b]) (by
            symm; exact decide_eq_true fun hh => by
              have h2 := (htr.2 hh).1
              rw [h2] at g46; exact absurd g46 (by simp)), hk43'⟩
      · rintro J52 vs w52 ⟨rfl, hk52⟩ -
        refine W_cond_p rfl (fun h53 => ?_) (fun h53 => ?_)
        · refine W_seq ?_
          refine W_region ?_
          refine o_asc rfl ?_
          refine ops_nil ?_
          refine W_ret ?_
          refine ret1 (.bool false) rfl ?_ ?_; rfl
          refine ⟨congrArg Value.bool (decide_eq_false fun hr => ?_).symm, (hk1.trans hkw33).trans hk52⟩
          exact h53 ((rfAt_may c).2 ⟨hr.2.1, hr.2.2.1, hr.2.2.2.1⟩ (o, r) (List.mem_of_getElem? hor))
        · refine W_skip ?_
          refine W_region ?_
          refine op_run (r_add rfl rfl) rfl ?_
          refine o_mvt rfl ?_
          refine ops_nil ?_
          have hinc := inc64' j (by omega)
          have hm := Decidable.not_not.1 h53
          refine ⟨by (repeat (first | with_reducible exact offM_refl _ _ | refine offM_updc rfl ?_ | refine offM_upd rfl ?_ | refine offM_updo rfl ?_ | refine offM_updo_none ?_ | refine offM_head rfl rfl ?_)), ⟨j + 1, congrArg (fun z : Int => [Value.int .i64 z]) hinc, by omega, hiff2.trans ?_, hkB.trans hk52⟩, ?_⟩
          · rw [hdj]
            constructor
            · intro h y hy; exact h y (List.mem_cons_of_mem _ hy)
            · intro h y hy
              rcases List.mem_cons.1 hy with rfl | hy
              · exact hm
              · exact h y hy
          · show 3 - (IntKind.i64.wrap ((j : Int) + 1)).toNat < 3 - (j : Int).toNat
            rw [hinc]; omega
    · refine W_exit ?_
      refine W_seq ?_
      refine W_region ?_
      refine op_run (r_fieldAddr rfl rfl rfl rfl rfl) rfl ?_
      refine op_run (r_load rfl rfl rfl (hB33.cell rfl)) rfl ?_
      refine op_run (r_gtr rfl rfl) rfl ?_
      refine o_ast rfl ?_
      refine ops_nil ?_
      refine W_ret ?_
      refine ret1 (.bool (decide ((0 : Int) < (c.epoch : Int)))) rfl ?_ ?_; rfl
      refine ⟨congrArg Value.bool ?_, hk1.trans hkw33⟩
      have hje : j = 3 := by omega
      have hrf := (rfAt_may c).1 (hiff2.2 (by rw [hje]; intro p hp; cases hp))
      rw [decide_eq_decide]
      exact ⟨fun h => ⟨hb1, hrf.1, hrf.2.1, hrf.2.2, by omega⟩, fun h => by have := h.2.2.2.2; omega⟩
theorem cm_Encode (w : World) (c : Cm) (vb ve : Value) (vks : List Value) (hc : CmIn w c vb ve vks) (hs : c.small) :
    Ret Try.prog 11 [.agg (cmV c vb ve).toArray].toArray w fun u w' => ∃ v, u = .tuple #[v, .int .i64 (if c.right then (if (encC c).length ≤ 65536 then 0 else 4) else 1)] ∧ By w' v (if c.right ∧ (encC c).length ≤ 65536 then encC c else []) ∧ InB (fun z => w.heap.size ≤ z) v ∧ Keep All w w' := by
  refine enter (fn := Try.f11) (n := 14) Try.func11 rfl rfl (by simp) ?_
  refine W_seq ?_
  refine W_region ?_
  refine o_box rfl rfl rfl ?_; intro w1 b1 e1 hB1 hk1 hs1
  have hB1 : Blk w1 b1 (cmV c vb ve) 32 := hB1
  refine o_asc rfl ?_
  refine o_asc rfl ?_
  refine ops_nil ?_
  refine W_seq ?_
  refine W_seq ?_
  refine W_region ?_
  refine op_run (r_loadA (cmV c vb ve) rfl rfl rfl (by first | rfl | (rw [binV_len]; rfl) | (rw [dgR_len]; rfl) | (rw [refR_len]; rfl) | (rw [secR_len]; rfl) | (rw [List.length_map, tagF_len]; rfl) | (rw [cmV_len]; rfl)) (hB1.all)) rfl ?_
  refine op_call rfl rfl rfl (cm_right w1 c vb ve vks (hc.k hk1)) ?_; rintro v3 w3 ⟨rfl, hk3⟩
  refine op_run (r_not rfl) rfl ?_
  refine ops_nil ?_
  refine W_cond rfl (fun h4 => ?_) (fun h4 => ?_)
  · refine W_seq ?_
    refine W_region ?_
    refine o_asc rfl ?_
    refine o_asc rfl ?_
    refine ops_nil ?_
    refine W_ret ?_
    refine ret2 (.slice none 0 0) (.int .i64 1) rfl ?_ ?_ ?_; rfl; rfl
    have hn : ¬ c.right := of_decide_eq_false (by simpa using h4)
    rw [if_neg hn, if_neg (fun h => hn h.1)]
    exact ⟨_, rfl, Sl.nil _ _, InB.nil, hk1.trans hk3⟩
  · refine W_skip ?_
    refine W_seq ?_
    refine W_region ?_
    have hr : c.right := of_decide_eq_true (by simpa using h4)
    refine op_run (r_loadA (cmV c vb ve) rfl rfl rfl (by first | rfl | (rw [binV_len]; rfl) | (rw [dgR_len]; rfl) | (rw [refR_len]; rfl) | (rw [secR_len]; rfl) | (rw [List.length_map, tagF_len]; rfl) | (rw [cmV_len]; rfl)) ((hk3.blk' hB1 trivial).all)) rfl ?_
    refine op_call rfl rfl rfl (cm_bytes w3 c vb ve vks ((hc.k hk1).k hk3) hs) ?_; rintro v7 w7 ⟨hO7, hk7, hin7⟩
    obtain ⟨a7, c7, rfl, h7c, h7m⟩ := (OwnB.by_ hO7).form
    refine o_ast rfl ?_
    refine ops_nil ?_
    refine W_seq ?_
    refine W_seq ?_
    refine W_region ?_
    refine o_mvt rfl ?_
    refine op_run (r_len rfl rfl rfl) rfl ?_
    refine op_run (r_gtr rfl rfl) rfl ?_
    refine ops_nil ?_
    refine W_cond_p rfl (fun h8 => ?_) (fun h8 => ?_)
    · refine W_seq ?_
      refine W_region ?_
      refine o_asc rfl ?_
      refine o_asc rfl ?_
      refine ops_nil ?_
      refine W_ret ?_
      refine ret2 (.slice none 0 0) (.int .i64 4) rfl ?_ ?_ ?_; rfl; rfl
      have hn : ¬ (encC c).length ≤ 65536 := by omega
      rw [if_pos hr, if_neg hn, if_neg (fun h => hn h.2)]
      exact ⟨_, rfl, Sl.nil _ _, InB.nil, (hk1.trans hk3).trans hk7⟩
    · refine W_skip ?_
      refine W_seq ?_
      refine W_region ?_
      refine o_mvt rfl ?_
      refine o_ast rfl ?_
      refine o_asc rfl ?_
      refine ops_nil ?_
      refine W_ret ?_
      refine ret2 (.slice a7 (encC c).length c7) (.int .i64 0) rfl ?_ ?_ ?_; rfl; rfl
      have hn : (encC c).length ≤ 65536 := by omega
      rw [if_pos hr, if_pos hn, if_pos ⟨hr, hn⟩]
      refine ⟨_, rfl, OwnB.by_ hO7, fun z hz => ?_, (hk1.trans hk3).trans hk7⟩
      have h1 := (hk1.trans hk3).size
      exact Nat.le_trans h1 (hin7 z hz)
theorem cm_Digest (w : World) (v : Value) (bs : List UInt8) (hv : By w v bs) (hl : bs.length ≤ 100000) : Ret Try.prog 16 [v].toArray w fun r w' => r = .agg (dgR (tagD 3 [bs])).toArray ∧ Keep All w w' := by
  refine enter (fn := Try.f16) (n := 6) Try.func16 rfl rfl (by simp) ?_
  refine W_seq ?_
  refine W_region ?_
  refine o_alloc rfl rfl rfl ?_; intro w1 b1 e1 hB1 hk1 hs1
  refine ops_nil ?_
  refine W_seq ?_
  refine W_region ?_
  refine o_mvt rfl ?_
  refine op_call rfl rfl rfl (bl_Of w1 0 v bs (hv.k hk1) hl) ?_; rintro v2 w2 ⟨rfl, hk2⟩
  refine op_run (r_fieldA (dgR (tagD 3 [bs])) rfl rfl rfl rfl rfl rfl ((by show ((refR (ofR 0 bs)).drop 0).take 32 = _; unfold refR ofR; rw [List.drop_zero]; exact List.take_left' (dgR_len _)))) rfl ?_
  refine o_storeA (cs := dgR (tagD 3 [bs])) rfl rfl (by first | rfl | exact binV_one _ | exact dgR_one _ | exact refR_one _ | exact secR_one _ | exact all_c8 _) (by first | rfl | (rw [binV_len]; rfl) | (rw [dgR_len]; rfl) | (rw [refR_len]; rfl) | (rw [secR_len]; rfl) | (rw [List.length_map, tagF_len]; rfl)) (hk2.blk' hB1 trivial) (by exact Nat.le_of_eq (by simp [dgR_len])) rfl ?_; intro w4 hB4 hk4 hs4
  have hB4 : Blk w4 b1 (dgR (tagD 3 [bs])) 26 := by
    have h := hB4
    rwa [splice_all (by simp [dgR_len])] at h
  refine ops_nil ?_
  refine W_ret ?_
  refine retA (dgR (tagD 3 [bs])) rfl rfl rfl rfl (by first | rfl | (rw [binV_len]; rfl) | (rw [dgR_len]; rfl) | (rw [refR_len]; rfl) | (rw [secR_len]; rfl) | (rw [List.length_map, tagF_len]; rfl)) hB4.all ?_
  exact ⟨rfl, (hk1.trans hk2).new hk4 (by omega)⟩
end Go.Proofs.Ytlpkdblhaahkaaa.B
