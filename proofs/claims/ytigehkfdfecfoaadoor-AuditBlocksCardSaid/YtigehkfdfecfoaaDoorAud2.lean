/-
  slices.Reverse of digests, and of rows.
-/
import Derived.Test.YtigehkfdfecfoaaDoorRowsK
import Derived.Test.YtigehkfdfecfoaaDoorMLib
namespace Go.Proofs.YtigehkfdfecfoaaDoor.B
open Go
set_option linter.unusedVariables false
set_option maxHeartbeats 2000000
set_option maxRecDepth 100000
attribute [local irreducible] W OpsW OpsQ retP
theorem Own.parts {w : World} {e sz : Nat} {v : Value} {n : Nat} {xs : List Value} (h : Own w e sz v n xs) :
    (v = .slice none 0 0 ∧ n = 0) ∨ ∃ g cap ext, v = .slice (some ⟨g, 0, none⟩) n cap ∧ Blk w g (xs ++ ext) e ∧ n ≤ cap ∧ cap ≤ maxLen ∧ (xs ++ ext).length = cap * sz := by
  rcases h.2 with h2 | ⟨g, cap, cur, rfl, hg, hh, h1, h2, h3, h4⟩
  · exact .inl h2
  · refine .inr ⟨g, cap, cur.toList.drop (n * sz), rfl, ?_, h1, h2, ?_⟩
    · show w.heap[g]? = some (.cells (xs ++ cur.toList.drop (n * sz)).toArray e)
      rw [← h4, List.take_append_drop]; exact hh
    · rw [← h4, List.take_append_drop]; simpa using h3
theorem Own.ofParts {w : World} {e sz g cap n : Nat} {xs ext : List Value} (hB : Blk w g (xs ++ ext) e) (hn : n ≤ cap) (hm : cap ≤ maxLen) (hl : (xs ++ ext).length = cap * sz) (hx : xs.length = n * sz) : Own w e sz (.slice (some ⟨g, 0, none⟩) n cap) n xs :=
  ⟨hx, .inr ⟨g, cap, (xs ++ ext).toArray, rfl, Nat.zero_le _, hB, hn, hm, by simpa using hl, by rw [← hx]; simp⟩⟩
theorem splice_ext {A ds ext : List Value} {off : Nat} (h : off + ds.length ≤ A.length) : splice (A ++ ext) off ds = splice A off ds ++ ext := by
  unfold splice
  rw [List.take_append_of_le_length (by omega), List.drop_append_of_le_length h, List.append_assoc, List.append_assoc, List.append_assoc]
section
variable {α : Type}
/-- How a row stands that was turned round from both ends. -/
def revd (ds L : List α) (k : Nat) : Prop := L.length = ds.length ∧ ∀ t, t < ds.length → L[t]? = if t < k ∨ ds.length - 1 - t < k then ds[ds.length - 1 - t]? else ds[t]?
theorem revd_0 (ds : List α) : revd ds ds 0 := ⟨rfl, fun t _ => by rw [if_neg (by omega)]⟩
theorem revd_step {ds L : List α} {k : Nat} {x y : α} (h : revd ds L k) (hk : 2 * k + 1 < ds.length) (hx : L[ds.length - 1 - k]? = some x) (hy : L[k]? = some y) : revd ds ((L.set k x).set (ds.length - 1 - k) y) (k + 1) := by
  refine ⟨by rw [List.length_set, List.length_set]; exact h.1, fun t ht => ?_⟩
  have h1 := h.2 (ds.length - 1 - k) (by omega)
  have h2 := h.2 k (by omega)
  rw [if_neg (by omega), hx] at h1
  rw [if_neg (by omega), hy] at h2
  by_cases e1 : t = ds.length - 1 - k
  · rw [e1, List.getElem?_set_self (by rw [List.length_set, h.1]; omega), if_pos (by omega), show ds.length - 1 - (ds.length - 1 - k) = k by omega]
    exact h2
  · rw [List.getElem?_set_ne (by omega)]
    by_cases e2 : t = k
    · rw [e2, List.getElem?_set_self (by rw [h.1]; omega), if_pos (by omega)]; exact h1
    · rw [List.getElem?_set_ne (by omega), h.2 t ht]
      by_cases h3 : t < k ∨ ds.length - 1 - t < k
      · rw [if_pos h3, if_pos (by omega)]
      · rw [if_neg h3, if_neg (by omega)]
theorem revd_done {ds L : List α} {k : Nat} (h : revd ds L k) (hk : ds.length ≤ 2 * k + 1) : L = ds.reverse := by
  apply List.ext_getElem?
  intro t
  by_cases ht : t < ds.length
  · rw [h.2 t ht, List.getElem?_reverse ht]
    by_cases h3 : t < k ∨ ds.length - 1 - t < k
    · rw [if_pos h3]
    · rw [if_neg h3, show ds.length - 1 - t = t by omega]
  · rw [List.getElem?_eq_none (by rw [h.1]; omega), List.getElem?_eq_none (by rw [List.length_reverse]; omega)]
end
theorem ti_dg : tinfo Tryd.prog 28 = some (some (.agg (List.replicate 32 (c8 0)).toArray), 32, 32) := by kernel_rfl
theorem sl_RevD (w : World) (v : Value) (ds : List Dig) (hO : Own w 28 32 v ds.length (rows dgR ds)) (hl : ds.length < 2 ^ 62) :
    Ret Tryd.prog 18 [v].toArray w fun _ w' => Own w' 28 32 v ds.length (rows dgR ds.reverse) ∧ Keep (fun z => some z ≠ v.ownBlock) w w' := by
  obtain ⟨a0, c0, ev_, hc0, hcm0⟩ := hO.form
  subst ev_
  refine enter (fn := Tryd.f18) (n := 28) Tryd.func18 rfl rfl (by simp) ?_
  refine W_seq ?_
  refine W_region ?_
  refine o_mvt rfl ?_
  refine op_run (r_len rfl rfl rfl) rfl ?_
  refine op_run ((r_sub rfl rfl).val (congrArg (Value.int .i64) (show IntKind.i64.wrap ((ds.length : Int) - 1) = (ds.length : Int) - 1 from wrap_i64 (by omega) (by omega)))) rfl ?_
  refine o_asc rfl ?_
  refine o_ast rfl ?_
  refine ops_nil ?_
  refine W_block ?_
  refine W_loop [2, 3] [2, 3, 7, 8, 9, 10, 11, 12, 13, 14, 15, 16, 17, 18, 19, 20, 21, 22, 23, 24, 25, 26, 27] (fun vs w' => ∃ (k : Nat) (L : List Dig), vs = [.int .i64 k, .int .i64 ((ds.length : Int) - 1 - (k : Int))] ∧ k ≤ ds.length ∧ revd ds L k ∧ Own w' 28 32 (.slice a0 ds.length c0) ds.length (rows dgR L) ∧ Keep (fun z => some z ≠ (Value.slice a0 ds.length c0).ownBlock) w w') (fun vs _ => match vs with | [.int _ y, _] => ds.length - y.toNat | _ => 0) ⟨0, ds, congrArg (fun z : Int => [Value.int .i64 0, Value.int .i64 z]) (by omega), Nat.zero_le _, revd_0 ds, hO, Keep.refl _⟩ ?_
  rintro J1 vs w1 ⟨k, L, rfl, hk, hr, hOL, hkA⟩ -
  refine W_seq ?_
  refine W_seq ?_
  refine W_region ?_
  refine o_mvt rfl ?_
  refine o_mvt rfl ?_
  refine op_run (r_lss rfl rfl) rfl ?_
  refine ops_nil ?_
  refine W_cond_p rfl (fun h2 => ?_) (fun h2 => ?_)
  · refine W_skip ?_
    refine W_seq ?_
    refine W_block ?_
    refine W_gate 13 (fun w => Keep All w1 w) (by kernel_rfl) (Keep.drawn _) (fun hS => ?_)
    refine gt_mvt 0 rfl (by kernel_rfl) (by kernel_rfl) (by kernel_rfl) (by kernel_rfl) rfl hS ?_
    refine gt_mvt 1 rfl (by kernel_rfl) (by kernel_rfl) (by kernel_rfl) (by kernel_rfl) rfl hS ?_
    refine gt_mvt 4 rfl (by kernel_rfl) (by kernel_rfl) (by kernel_rfl) (by kernel_rfl) rfl hS ?_
    refine gt_mvt 5 rfl (by kernel_rfl) (by kernel_rfl) (by kernel_rfl) (by kernel_rfl) rfl hS ?_
    have hk2 : 2 * k + 1 < ds.length := by omega
    have hLl := hr.1
    obtain ⟨x, hx⟩ : ∃ x, L[ds.length - 1 - k]? = some x := ⟨_, List.getElem?_eq_getElem (by omega)⟩
    obtain ⟨y, hy⟩ : ∃ y, L[k]? = some y := ⟨_, List.getElem?_eq_getElem (by omega)⟩
    have hxi : L[ds.length - 1 - k] = x := (List.getElem?_eq_some_iff.1 hx).2
    have hyi : L[k] = y := (List.getElem?_eq_some_iff.1 hy).2
    rcases hOL.parts with ⟨_, h0⟩ | ⟨g, cap, ext, ev_, hB, hncap, hcapm, hlen⟩
    · omega
    injection ev_ with e1_ e2_ e3_
    subst e1_; subst e3_
    have hrl : (rows dgR L).length = ds.length * 32 := by rw [rows_len dgR_len, hLl]
    have ek : (ds.length : Int) - 1 - (k : Int) = ((ds.length - 1 - k : Nat) : Int) := by omega
    have hcx : ∀ (w' : World), Keep All w1 w' → ∀ (i : Nat) (z : Dig), L[i]? = some z → ∀ (j : Nat) (u : Value), (dgR z)[j]? = some u → w'.cell? ((⟨g, 0 + i * 32, none⟩ : Addr).add j) = some u := fun w' hw' i z hz j u hj => by
      obtain ⟨hil, hie⟩ := List.getElem?_eq_some_iff.1 hz
      have hj32 : j < 32 := by have := (List.getElem?_eq_some_iff.1 hj).1; rwa [dgR_len] at this
      rw [Addr.add_lit]
      refine (hw'.blk' hB trivial).cell ?_
      rw [Nat.zero_add, List.getElem?_append_left (by rw [hrl]; omega), rows_get dgR_len hil hj32, hie]; exact hj
    refine gt_run 6 (fun w' hS' => (r_idxS rfl rfl rfl ti_dg (by omega) (by omega))) rfl (by kernel_rfl) (by kernel_rfl) (by kernel_rfl) (by kernel_rfl) rfl hS ?_
    refine gt_run 7 (fun w' hS' => (r_loadA (dgR x) rfl rfl rfl (by first | rfl | (rw [binV_len]; rfl) | (rw [dgR_len]; rfl) | (rw [refR_len]; rfl) | (rw [secR_len]; rfl) | (rw [List.length_map, tagF_len]; rfl)) ((by rw [ek, Int.toNat_natCast]; exact hcx w' hS' _ _ hx)))) rfl (by kernel_rfl) (by kernel_rfl) (by kernel_rfl) (by kernel_rfl) rfl hS ?_
    refine gt_mvt 8 rfl (by kernel_rfl) (by kernel_rfl) (by kernel_rfl) (by kernel_rfl) rfl hS ?_
    refine gt_mvt 9 rfl (by kernel_rfl) (by kernel_rfl) (by kernel_rfl) (by kernel_rfl) rfl hS ?_
    refine gt_run 10 (fun w' hS' => (r_idxS rfl rfl rfl ti_dg (by omega) (by omega))) rfl (by kernel_rfl) (by kernel_rfl) (by kernel_rfl) (by kernel_rfl) rfl hS ?_
    refine gt_run 11 (fun w' hS' => (r_loadA (dgR y) rfl rfl rfl (by first | rfl | (rw [binV_len]; rfl) | (rw [dgR_len]; rfl) | (rw [refR_len]; rfl) | (rw [secR_len]; rfl) | (rw [List.length_map, tagF_len]; rfl)) ((by rw [Int.toNat_natCast]; exact hcx w' hS' _ _ hy)))) rfl (by kernel_rfl) (by kernel_rfl) (by kernel_rfl) (by kernel_rfl) rfl hS ?_
    refine gt_run 12 (fun w' hS' => (r_idxS rfl rfl rfl ti_dg (by omega) (by omega))) rfl (by kernel_rfl) (by kernel_rfl) (by kernel_rfl) (by kernel_rfl) rfl hS ?_
    refine gp_mvt 2 rfl (by kernel_rfl) (by kernel_rfl) (by kernel_rfl) (by kernel_rfl) rfl hS ?_
    refine gp_mvt 3 rfl (by kernel_rfl) (by kernel_rfl) (by kernel_rfl) (by kernel_rfl) rfl hS ?_
    refine gt_past 13 (by kernel_rfl) (by kernel_rfl) (one_of rfl ?_)
    refine o_storeA (cs := dgR x) rfl rfl (by first | rfl | exact binV_one _ | exact dgR_one _ | exact refR_one _ | exact secR_one _ | exact all_c8 _) (by first | rfl | (rw [binV_len]; rfl) | (rw [dgR_len]; rfl) | (rw [refR_len]; rfl) | (rw [secR_len]; rfl) | (rw [List.length_map, tagF_len]; rfl)) (hS.blk' hB trivial) (by rw [List.length_append, hrl, dgR_len, Int.toNat_natCast]; omega) rfl ?_; intro w9 hB9 hk9 hs9
    have hB9 : Blk w9 g (rows dgR (L.set k x) ++ ext) 28 := by
      have h : Blk w9 g (splice (rows dgR L ++ ext) (0 + ((k : Nat) : Int).toNat * 32) (dgR x)) 28 := hB9
      rwa [Int.toNat_natCast, Nat.zero_add, splice_ext (by rw [hrl, dgR_len]; omega), rows_set dgR_len (by omega)] at h
    refine ops_nil ?_
    refine gt_past 14 (by kernel_rfl) (by kernel_rfl) (one_of rfl ?_)
    refine op_run (r_idxS rfl rfl rfl ti_dg (by omega) (by omega)) rfl ?_
    refine ops_nil ?_
    refine gt_past 15 (by kernel_rfl) (by kernel_rfl) (one_of rfl ?_)
    refine o_storeA (cs := dgR y) rfl rfl (by first | rfl | exact binV_one _ | exact dgR_one _ | exact refR_one _ | exact secR_one _ | exact all_c8 _) (by first | rfl | (rw [binV_len]; rfl) | (rw [dgR_len]; rfl) | (rw [refR_len]; rfl) | (rw [secR_len]; rfl) | (rw [List.length_map, tagF_len]; rfl)) hB9 (by rw [List.length_append, rows_len dgR_len, List.length_set, dgR_len, ek, Int.toNat_natCast]; omega) rfl ?_; intro w11 hB11 hk11 hs11
    have hB11 : Blk w11 g (rows dgR ((L.set k x).set (ds.length - 1 - k) y) ++ ext) 28 := by
      have h : Blk w11 g (splice (rows dgR (L.set k x) ++ ext) (0 + ((ds.length : Int) - 1 - (k : Int)).toNat * 32) (dgR y)) 28 := hB11
      rwa [ek, Int.toNat_natCast, Nat.zero_add, splice_ext (by rw [rows_len dgR_len, List.length_set, dgR_len]; omega), rows_set dgR_len (by rw [List.length_set]; omega)] at h
    refine ops_nil ?_
    refine gt_done (by kernel_rfl) ?_
    refine W_region ?_
    refine o_mvt rfl ?_
    refine op_run (r_add rfl rfl) rfl ?_
    refine o_mvt rfl ?_
    refine op_run ((r_sub rfl rfl).val (congrArg (Value.int .i64) (show IntKind.i64.wrap ((ds.length : Int) - 1 - (k : Int) - 1) = (ds.length : Int) - 1 - ((k + 1 : Nat) : Int) from (wrap_i64 (by omega) (by omega)).trans (by omega)))) rfl ?_
    refine o_ast rfl ?_
    refine o_ast rfl ?_
    refine ops_nil ?_
    have hinc := inc64' k (by omega)
    have hne : ∀ z, some z ≠ (Value.slice (some ⟨g, 0, none⟩) ds.length c0).ownBlock → z ≠ g := fun z h e => h (by rw [e]; rfl)
    refine ⟨by (repeat (first | with_reducible exact offM_refl _ _ | refine offM_updc rfl ?_ | refine offM_upd rfl ?_ | refine offM_updo rfl ?_ | refine offM_updo_none ?_ | refine offM_head rfl rfl ?_)), ⟨k + 1, _, congrArg (fun z : Int => [Value.int .i64 z, Value.int .i64 ((ds.length : Int) - 1 - ((k + 1 : Nat) : Int))]) hinc, by omega, revd_step hr hk2 hx hy, Own.ofParts hB11 hncap hcapm ?_ ?_, ((hkA.trans hS.all).trans (hk9.mono fun z _ h => hne z h)).trans (hk11.mono fun z _ h => hne z h)⟩, ?_⟩
    · rw [List.length_append, rows_len dgR_len, List.length_set, List.length_set, ← rows_len dgR_len L, ← List.length_append]; exact hlen
    · rw [rows_len dgR_len, List.length_set, List.length_set, hLl]
    · show ds.length - (IntKind.i64.wrap ((k : Int) + 1)).toNat < ds.length - (k : Int).toNat
      rw [hinc]; omega
  · refine W_exit ?_
    refine ret0 rfl ?_
    rw [← revd_done hr (by omega)]
    exact ⟨hOL, hkA⟩
theorem sl_RevR (w : World) (v : Value) (ds : List Value) (hO : Own w 24 1 v ds.length ds) (hl : ds.length < 2 ^ 62) (hone : ds.all one = true) :
    Ret Tryd.prog 19 [v].toArray w fun _ w' => Own w' 24 1 v ds.length ds.reverse ∧ Keep (fun z => some z ≠ v.ownBlock) w w' := by
  obtain ⟨a0, c0, ev_, hc0, hcm0⟩ := hO.form
  subst ev_
  refine enter (fn := Tryd.f19) (n := 28) Tryd.func19 rfl rfl (by simp) ?_
  refine W_seq ?_
  refine W_region ?_
  refine o_mvt rfl ?_
  refine op_run (r_len rfl rfl rfl) rfl ?_
  refine op_run ((r_sub rfl rfl).val (congrArg (Value.int .i64) (show IntKind.i64.wrap ((ds.length : Int) - 1) = (ds.length : Int) - 1 from wrap_i64 (by omega) (by omega)))) rfl ?_
  refine o_asc rfl ?_
  refine o_ast rfl ?_
  refine ops_nil ?_
  refine W_block ?_
  refine W_loop [2, 3] [2, 3, 7, 8, 9, 10, 11, 12, 13, 14, 15, 16, 17, 18, 19, 20, 21, 22, 23, 24, 25, 26, 27] (fun vs w' => ∃ (k : Nat) (L : List Value), vs = [.int .i64 k, .int .i64 ((ds.length : Int) - 1 - (k : Int))] ∧ k ≤ ds.length ∧ revd ds L k ∧ (∀ x ∈ L, one x = true) ∧ Own w' 24 1 (.slice a0 ds.length c0) ds.length L ∧ Keep (fun z => some z ≠ (Value.slice a0 ds.length c0).ownBlock) w w') (fun vs _ => match vs with | [.int _ y, _] => ds.length - y.toNat | _ => 0) ⟨0, ds, congrArg (fun z : Int => [Value.int .i64 0, Value.int .i64 z]) (by omega), Nat.zero_le _, revd_0 ds, List.all_eq_true.1 hone, hO, Keep.refl _⟩ ?_
  rintro J1 vs w1 ⟨k, L, rfl, hk, hr, hon, hOL, hkA⟩ -
  refine W_seq ?_
  refine W_seq ?_
  refine W_region ?_
  refine o_mvt rfl ?_
  refine o_mvt rfl ?_
  refine op_run (r_lss rfl rfl) rfl ?_
  refine ops_nil ?_
  refine W_cond_p rfl (fun h2 => ?_) (fun h2 => ?_)
  · refine W_skip ?_
    refine W_seq ?_
    refine W_block ?_
    refine W_gate 13 (fun w => Keep All w1 w) (by kernel_rfl) (Keep.drawn _) (fun hS => ?_)
    refine gt_mvt 0 rfl (by kernel_rfl) (by kernel_rfl) (by kernel_rfl) (by kernel_rfl) rfl hS ?_
    refine gt_mvt 1 rfl (by kernel_rfl) (by kernel_rfl) (by kernel_rfl) (by kernel_rfl) rfl hS ?_
    refine gt_mvt 4 rfl (by kernel_rfl) (by kernel_rfl) (by kernel_rfl) (by kernel_rfl) rfl hS ?_
    refine gt_mvt 5 rfl (by kernel_rfl) (by kernel_rfl) (by kernel_rfl) (by kernel_rfl) rfl hS ?_
    have hk2 : 2 * k + 1 < ds.length := by omega
    have hLl := hr.1
    obtain ⟨x, hx⟩ : ∃ x, L[ds.length - 1 - k]? = some x := ⟨_, List.getElem?_eq_getElem (by omega)⟩
    obtain ⟨y, hy⟩ : ∃ y, L[k]? = some y := ⟨_, List.getElem?_eq_getElem (by omega)⟩
    have hx1 := hon x (List.mem_of_getElem? hx)
    have hy1 := hon y (List.mem_of_getElem? hy)
    rcases hOL.parts with ⟨_, h0⟩ | ⟨g, cap, ext, ev_, hB, hncap, hcapm, hlen⟩
    · omega
    injection ev_ with e1_ e2_ e3_
    subst e1_; subst e3_
    have ek : (ds.length : Int) - 1 - (k : Int) = ((ds.length - 1 - k : Nat) : Int) := by omega
    refine gt_run 6 (fun w' hS' => (r_idxS1 rfl rfl rfl rfl (by omega) (by omega))) rfl (by kernel_rfl) (by kernel_rfl) (by kernel_rfl) (by kernel_rfl) rfl hS ?_
    refine gt_run 7 (fun w' hS' => (r_load rfl rfl rfl ((by rw [ek, Int.toNat_natCast, Nat.zero_add]; exact (hS'.blk' hB trivial).cell (by rw [List.getElem?_append_left (by omega)]; exact hx))))) rfl (by kernel_rfl) (by kernel_rfl) (by kernel_rfl) (by kernel_rfl) rfl hS ?_
    refine gt_mvt 8 rfl (by kernel_rfl) (by kernel_rfl) (by kernel_rfl) (by kernel_rfl) rfl hS ?_
    refine gt_mvt 9 rfl (by kernel_rfl) (by kernel_rfl) (by kernel_rfl) (by kernel_rfl) rfl hS ?_
    refine gt_run 10 (fun w' hS' => (r_idxS1 rfl rfl rfl rfl (by omega) (by omega))) rfl (by kernel_rfl) (by kernel_rfl) (by kernel_rfl) (by kernel_rfl) rfl hS ?_
    refine gt_run 11 (fun w' hS' => (r_load rfl rfl rfl ((by rw [Int.toNat_natCast, Nat.zero_add]; exact (hS'.blk' hB trivial).cell (by rw [List.getElem?_append_left (by omega)]; exact hy))))) rfl (by kernel_rfl) (by kernel_rfl) (by kernel_rfl) (by kernel_rfl) rfl hS ?_
    refine gt_run 12 (fun w' hS' => (r_idxS1 rfl rfl rfl rfl (by omega) (by omega))) rfl (by kernel_rfl) (by kernel_rfl) (by kernel_rfl) (by kernel_rfl) rfl hS ?_
    refine gp_mvt 2 rfl (by kernel_rfl) (by kernel_rfl) (by kernel_rfl) (by kernel_rfl) rfl hS ?_
    refine gp_mvt 3 rfl (by kernel_rfl) (by kernel_rfl) (by kernel_rfl) (by kernel_rfl) rfl hS ?_
    refine gt_past 13 (by kernel_rfl) (by kernel_rfl) (one_of rfl ?_)
    refine o_store (v := x) rfl rfl hx1 rfl (hS.blk' hB trivial) (by rw [List.length_append, Int.toNat_natCast]; omega) rfl ?_; intro w9 hB9 hk9 hs9
    have hB9 : Blk w9 g (L.set k x ++ ext) 24 := by
      have h : Blk w9 g ((L ++ ext).set (0 + ((k : Nat) : Int).toNat) x) 24 := hB9
      rwa [Int.toNat_natCast, Nat.zero_add, List.set_append_left _ _ (by omega)] at h
    refine ops_nil ?_
    refine gt_past 14 (by kernel_rfl) (by kernel_rfl) (one_of rfl ?_)
    refine op_run (r_idxS1 rfl rfl rfl rfl (by omega) (by omega)) rfl ?_
    refine ops_nil ?_
    refine gt_past 15 (by kernel_rfl) (by kernel_rfl) (one_of rfl ?_)
    refine o_store (v := y) rfl rfl hy1 rfl hB9 (by rw [List.length_append, List.length_set, ek, Int.toNat_natCast]; omega) rfl ?_; intro w11 hB11 hk11 hs11
    have hB11 : Blk w11 g ((L.set k x).set (ds.length - 1 - k) y ++ ext) 24 := by
      have h : Blk w11 g ((L.set k x ++ ext).set (0 + ((ds.length : Int) - 1 - (k : Int)).toNat) y) 24 := hB11
      rwa [ek, Int.toNat_natCast, Nat.zero_add, List.set_append_left _ _ (by rw [List.length_set]; omega)] at h
    refine ops_nil ?_
    refine gt_done (by kernel_rfl) ?_
    refine W_region ?_
    refine o_mvt rfl ?_
    refine op_run (r_add rfl rfl) rfl ?_
    refine o_mvt rfl ?_
    refine op_run ((r_sub rfl rfl).val (congrArg (Value.int .i64) (show IntKind.i64.wrap ((ds.length : Int) - 1 - (k : Int) - 1) = (ds.length : Int) - 1 - ((k + 1 : Nat) : Int) from (wrap_i64 (by omega) (by omega)).trans (by omega)))) rfl ?_
    refine o_ast rfl ?_
    refine o_ast rfl ?_
    refine ops_nil ?_
    have hinc := inc64' k (by omega)
    have hne : ∀ z, some z ≠ (Value.slice (some ⟨g, 0, none⟩) ds.length c0).ownBlock → z ≠ g := fun z h e => h (by rw [e]; rfl)
    refine ⟨by (repeat (first | with_reducible exact offM_refl _ _ | refine offM_updc rfl ?_ | refine offM_upd rfl ?_ | refine offM_updo rfl ?_ | refine offM_updo_none ?_ | refine offM_head rfl rfl ?_)), ⟨k + 1, _, congrArg (fun z : Int => [Value.int .i64 z, Value.int .i64 ((ds.length : Int) - 1 - ((k + 1 : Nat) : Int))]) hinc, by omega, revd_step hr hk2 hx hy, fun z hz => ?_, Own.ofParts hB11 hncap hcapm ?_ ?_, ((hkA.trans hS.all).trans (hk9.mono fun z _ h => hne z h)).trans (hk11.mono fun z _ h => hne z h)⟩, ?_⟩
    · rcases List.mem_or_eq_of_mem_set hz with h | rfl
      · rcases List.mem_or_eq_of_mem_set h with h | rfl
        · exact hon z h
        · exact hx1
      · exact hy1
    · rw [List.length_append, List.length_set, List.length_set, ← List.length_append]; exact hlen
    · rw [List.length_set, List.length_set, hLl, Nat.mul_one]
    · show ds.length - (IntKind.i64.wrap ((k : Int) + 1)).toNat < ds.length - (k : Int).toNat
      rw [hinc]; omega
  · refine W_exit ?_
    refine ret0 rfl ?_
    rw [← revd_done hr (by omega)]
    exact ⟨hOL, hkA⟩
end Go.Proofs.YtigehkfdfecfoaaDoor.B
