/-
  A disk: Clone, Image; land, Sync, Crash.
-/
import Derived.Test.YtmhbpfbidbccfaaDisk2
namespace Go.Proofs.Ytmhbpfbidbccfaa.B
open Go
set_option linter.unusedVariables false
set_option maxHeartbeats 2000000
set_option maxRecDepth 100000
attribute [local irreducible] W OpsW OpsQ retP
theorem sl_CloneS (w : World) (v : Value) (L : List Sec) (hx : Sl w v L.length 64 (rows secR L)) (hl : L.length ≤ 65536) (h0 : 0 < L.length) :
    Ret Try.prog 19 [v].toArray w fun r w' => Own w' 30 64 r L.length (rows secR L) ∧ InB (fun b => w.heap.size ≤ b ∧ b < w'.heap.size) r ∧ Keep All w w' := by
  obtain ⟨a, c, rfl, hc, hcm⟩ := hx.form
  refine enter (fn := Try.f19) (n := 8) Try.func19 rfl rfl (by simp) ?_
  refine W_seq ?_
  refine W_region ?_
  refine o_asc rfl ?_
  refine ops_nil ?_
  refine W_seq ?_
  refine W_seq ?_
  refine W_region ?_
  refine o_mvt rfl ?_
  refine op_run (r_isNilS rfl rfl) rfl ?_
  refine ops_nil ?_
  refine W_cond rfl (fun h1 => ?_) (fun h1 => ?_)
  · refine W_seq ?_
    refine W_region ?_
    refine o_asc rfl ?_
    refine ops_nil ?_
    refine W_ret ?_
    obtain ⟨a', c', e, h6, h7, h8, h9, _⟩ := hx
    cases e
    cases a with
    | none => have := h9 rfl; omega
    | some y => cases h1
  · refine W_skip ?_
    refine W_seq ?_
    refine W_region ?_
    refine o_bs0 rfl rfl rfl ?_; intro w3 b3 e3 hB3 hk3 hs3
    refine o_mvt rfl ?_
    refine o_appS (v := .slice (some ⟨b3, 0, none⟩) 0 0) rfl rfl (hx.keep hk3 (fun _ _ => trivial)) rfl ti_sec rfl rfl (Own.blk hB3 rfl (by unfold maxLen; omega)) (rows_one secR_one _) (by unfold maxLen; omega) (by omega) rfl ?_; intro v4 w4 hown4 hk4 hb4
    refine o_ast rfl ?_
    refine ops_nil ?_
    refine W_ret ?_
    refine ret1 v4 rfl ?_ ?_; rfl
    refine ⟨by simpa using hown4, fun b hb => ⟨?_, hown4.lt b hb⟩, hk3.own hk4 ?_⟩
    · rcases hb4 b hb with h | h
      · cases h; show w.heap.size ≤ b3; omega
      · omega
    · intro b h; cases h; intro _; show w.heap.size ≤ b3; omega

/-- What is seen: all that was written. -/
def seen (L : List Sec) : List (Nat × Sec) → List Sec
  | [] => L
  | x :: T => seen (L.set x.1 x.2) T
theorem seen_snoc (x : Nat × Sec) : ∀ (T : List (Nat × Sec)) (L : List Sec), seen L (T ++ [x]) = (seen L T).set x.1 x.2
  | [], L => rfl
  | y :: T, L => seen_snoc x T _
theorem seen_len : ∀ (T : List (Nat × Sec)) (L : List Sec), (seen L T).length = L.length
  | [], L => rfl
  | x :: T, L => by rw [seen, seen_len T, List.length_set]
theorem take_snoc {α : Type} {l : List α} {k : Nat} (h : k < l.length) : l.take (k + 1) = l.take k ++ [l[k]] := by rw [List.take_succ_eq_append_getElem h]
theorem lasts_sl {w : World} {g c N : Nat} {ex : List Value} {L : List Sec} (hG : Blk w g (rows secR L ++ ex) 30) (hL : L.length = N) (hc : N ≤ c) (hcm : c ≤ maxLen) : Sl w (.slice (some ⟨g, 0, none⟩) N c) N 64 (rows secR L) := by
  refine ⟨_, c, rfl, hc, hcm, by rw [rows_len secR_len, hL], (fun e => by cases e), fun x hx i u hu => ?_⟩
  injection hx with hx; subst hx
  refine ⟨rfl, hG.cell ?_⟩
  show (rows secR L ++ ex)[0 + i]? = _
  rw [Nat.zero_add, List.getElem?_append_left (List.getElem?_eq_some_iff.1 hu).1]; exact hu

theorem dk_Image (w : World) (b : Nat) (A : Nat → Prop) (N : Nat) (L : List Sec) (T : List (Nat × Sec)) (f : Nat) (h : DkC w b A N L T f) (hA : ∀ k, A k → k < w.heap.size) (hTl : T.length < 1000000) :
    Ret Try.prog 9 [.pointer (some ⟨b, 0, none⟩)].toArray w fun r w' => Own w' 30 64 r N (rows secR (seen L T)) ∧ InB (fun k => w.heap.size ≤ k ∧ k < w'.heap.size) r ∧ Keep All w w' := by
  obtain ⟨g, c, ex, vl, hB, hG, hT, hin, hgb, hAb, hAg, hNc, hcm, hL, hTn, hN1, hN2, hf⟩ := h
  have hsl := lasts_sl hG hL hNc hcm
  obtain ⟨z, hz, hzs⟩ := ti_wr
  obtain ⟨at_, ct, rfl, hct, hctm⟩ := hT.form
  refine enter (fn := Try.f9) (n := 28) Try.func9 rfl rfl (by simp) ?_
  refine W_seq ?_
  refine W_region ?_
  refine o_asc rfl ?_
  refine ops_nil ?_
  refine W_seq ?_
  refine W_region ?_
  refine o_mvt rfl ?_
  refine op_run (r_nilCheck rfl) rfl ?_
  refine op_run (r_fieldAddr rfl rfl rfl rfl rfl) rfl ?_
  refine op_run (r_load rfl rfl rfl (hB.cell rfl)) rfl ?_
  refine op_call rfl rfl rfl (sl_CloneS w _ L (by rw [hL]; exact hsl) (by omega) (by omega)) ?_; rintro v2 w2 ⟨hown2, hin2, hk2⟩
  rw [hL] at hown2
  refine o_ast rfl ?_
  refine ops_nil ?_
  refine W_seq ?_
  refine W_seq ?_
  refine W_region ?_
  refine o_mvt rfl ?_
  refine op_run (r_nilCheck rfl) rfl ?_
  refine op_run (r_fieldAddr rfl rfl rfl rfl rfl) rfl ?_
  refine op_run (r_load rfl rfl rfl ((hk2.blk' hB trivial).cell rfl)) rfl ?_
  refine op_run (r_len rfl rfl rfl) rfl ?_
  refine o_mvc rfl ?_
  refine ops_nil ?_
  refine W_block ?_
  refine W_loop [16] [5, 16, 17, 18, 19, 20, 21, 22, 23, 24, 25, 26] (fun vs w' => ∃ k : Nat, vs = [.int .i64 k] ∧ k ≤ T.length ∧ Own w' 30 64 v2 N (rows secR (seen L (T.take k))) ∧ Keep All w w' ∧ w2.heap.size ≤ w'.heap.size) (fun vs _ => match vs with | [.int _ k] => T.length - k.toNat | _ => 0) ⟨0, rfl, by omega, by simpa [seen] using hown2, hk2, Nat.le_refl _⟩ ?_
  rintro J vs w5 ⟨k, rfl, hk, hown5, hkw5, hsz5⟩ -
  refine W_seq ?_
  refine W_region ?_
  refine op_run (r_lss rfl rfl) rfl ?_
  refine ops_nil ?_
  refine W_seq ?_
  refine W_cond_p rfl (fun h5 => ?_) (fun h5 => ?_)
  · refine W_skip ?_
    refine W_seq ?_
    refine W_block ?_
    refine W_seq ?_
    refine W_region ?_
    have hkT : k < T.length := by omega
    have hinc := inc64' k (by omega)
    have hT5 := hT.keep hkw5 (fun _ _ => trivial)
    obtain ⟨b9, off9, rfl, hc9⟩ := rows_at' wrR_len hT5.sl hkT (by omega)
    have hxN := hTn T[k] (by simp)
    refine op_run (r_idxS rfl rfl rfl hz (by omega) (by omega)) rfl ?_
    refine op_run (r_loadA (wrR T[k]) rfl rfl rfl (by rw [wrR_len]; exact hz) (by rw [Int.toNat_natCast]; exact hc9)) rfl ?_
    refine o_alloc rfl rfl rfl ?_; intro w8 b8 e8 hB8 hk8 hs8
    refine o_storeA (cs := wrR T[k]) rfl rfl (wrR_one _) (by rw [wrR_len]; exact hz) hB8 (by rw [wrR_len]; exact Nat.le_refl _) rfl ?_; intro w9 hB9 hk9 hs9
    rw [splice_all (by rw [wrR_len]; rfl)] at hB9
    have hsz8 := hk8.size
    have hown9 := (hown5.keep hk8 (fun _ _ => trivial)).keep hk9 (fun j hj e => by have := hown5.lt j hj; omega)
    have hkw9 : Keep All w w9 := (hkw5.trans hk8).new hk9 (by have := hkw5.size; omega)
    obtain ⟨g1, c1, ex1, rfl, hc1, hcm1, hG1, hclose⟩ := hown9.open (by omega)
    refine ops_nil ?_
    refine W_region ?_
    refine o_mvt rfl ?_
    refine op_run (r_fieldAddr rfl rfl rfl rfl rfl) rfl ?_
    refine op_run (r_load rfl rfl rfl (hB9.cell rfl)) rfl ?_
    refine op_run (r_fieldAddr rfl rfl rfl rfl rfl) rfl ?_
    refine op_run (r_loadA (secR T[k].2) rfl rfl rfl (by rw [secR_len]; rfl) (hB9.from 1 (fun j hj => by rw [Nat.add_comm]; rfl))) rfl ?_
    refine op_run (r_idxS rfl rfl rfl ti_sec (by omega) (by omega)) rfl ?_
    refine o_storeA (cs := secR T[k].2) rfl rfl (secR_one _) (by rw [secR_len]; rfl) hG1 ?_ rfl ?_; rotate_left; intro w13 hB13 hk13 hs13
    refine ops_nil ?_
    refine W_region ?_
    refine op_run (r_add rfl rfl) rfl ?_
    refine o_mvt rfl ?_
    refine ops_nil ?_
    have hlen : (seen L (T.take k)).length = N := by rw [seen_len, hL]
    rw [Int.toNat_natCast, Nat.zero_add, splice_app (by rw [secR_len, rows_len secR_len, hlen]; omega), rows_set secR_len (by rw [hlen]; exact hxN), ← seen_snoc, ← take_snoc hkT] at hB13
    refine ⟨by (repeat (first | with_reducible exact offM_refl _ _ | refine offM_updc rfl ?_ | refine offM_upd rfl ?_ | refine offM_updo rfl ?_ | refine offM_updo_none ?_ | refine offM_head rfl rfl ?_)), ⟨k + 1, ?_, by omega, hclose _ _ hB13 (by rw [rows_len secR_len, rows_len secR_len, seen_len, seen_len]), hkw9.new hk13 ?_, by omega⟩, ?_⟩
    · rw [← hinc]; rfl
    · exact (hin2 g1 rfl).1
    · show T.length - (IntKind.i64.wrap ((k : Int) + 1)).toNat < T.length - (k : Int).toNat
      rw [hinc]; omega
    rw [secR_len, List.length_append, rows_len secR_len, seen_len, hL, Int.toNat_natCast]; omega
  · refine W_exit ?_
    refine W_seq ?_
    refine W_region ?_
    refine o_mvt rfl ?_
    refine o_ast rfl ?_
    refine ops_nil ?_
    refine W_ret ?_
    refine ret1 v2 rfl ?_ ?_; rfl
    have e : k = T.length := by omega
    subst e
    rw [List.take_length] at hown5
    exact ⟨hown5, fun j hj => ⟨(hin2 j hj).1, hown5.lt j hj⟩, hkw5⟩
end Go.Proofs.Ytmhbpfbidbccfaa.B
