/-
  Commits as bytes: bytes, right, Encode, Digest.
-/
import Derived.Test.YtigehkfdfecfoaaDoorCom1
import Derived.Test.YtigehkfdfecfoaaDoorBlobO
namespace Go.Proofs.YtigehkfdfecfoaaDoor.B
open Go
set_option linter.unusedVariables false
set_option maxHeartbeats 2000000
set_option maxRecDepth 100000
attribute [local irreducible] W OpsW OpsQ retP
/-- A commit's Refs: where they stand. -/
def rfAt (c : Cm) : List (Nat × Rf) := [(1, c.prev), (35, c.vols), (69, c.idx)]
theorem cmV_ref {c : Cm} {vb ve : Value} {k o : Nat} {r : Rf} (h : (rfAt c)[k]? = some (o, r)) {j : Nat} {v : Value} (hv : (refR r)[j]? = some v) : (cmV c vb ve)[o + j]? = some v := by
  match k, h with
  | 0, h => injection h with h; injection h with h1 h2; subst h1; subst h2; exact cmV_prev c vb ve hv
  | 1, h => injection h with h; injection h with h1 h2; subst h1; subst h2; exact cmV_vols c vb ve hv
  | 2, h => injection h with h; injection h with h1 h2; subst h1; subst h2; exact cmV_idx c vb ve hv
def encRs (c : Cm) (k : Nat) : List UInt8 := ((rfAt c).take k).flatMap fun p => encR p.2
theorem encRs_s {c : Cm} {k : Nat} {p : Nat × Rf} (h : (rfAt c)[k]? = some p) : encRs c (k + 1) = encRs c k ++ encR p.2 := by
  obtain ⟨h1, h2⟩ := List.getElem?_eq_some_iff.1 h
  unfold encRs; rw [take_flatMap h1, h2]
theorem encRs_len (c : Cm) (k : Nat) : (encRs c k).length ≤ 156 := by
  have h1 := encR_len c.prev
  have h2 := encR_len c.vols
  have h3 := encR_len c.idx
  unfold encRs rfAt
  match k with
  | 0 => simp
  | 1 => simp; omega
  | 2 => simp; omega
  | k + 3 => simp; omega
theorem encC_split (c : Cm) : encN c.epoch ++ encRs c 3 ++ (encN c.bins.length ++ c.bins.flatMap encBn) ++ c.state.val ++ (encN c.events.length ++ c.events.flatMap encB) = encC c := by
  unfold encC encRs rfAt; simp
theorem none_all {w w' : World} (h : Keep (fun z => some z ≠ (Value.slice none 0 0).ownBlock) w w') : Keep All w w' := h.mono fun _ _ _ e => by cases e
theorem bn_trip (x : Bn) : ((bnR (encBn x) false).1 = x ∧ ¬ ((bnR (encBn x) false).2.2 = true ∨ 0 < (bnR (encBn x) false).2.1.length)) ↔ x.may := by
  constructor
  · rintro ⟨h1, h2⟩
    have hb : (bnR (encBn x) false).2.2 = false := by simpa using fun h => h2 (.inl h)
    have h3 := bnR_can (show bnR (encBn x) false = (x, (bnR (encBn x) false).2.1, false) from Prod.ext h1 (Prod.ext rfl hb))
    exact h3.2.2
  · intro h
    have h1 := bnR_enc h []
    rw [List.append_nil] at h1
    rw [h1]; simp
theorem rf_trip (x : Rf) : ((rfR (encR x) false).1 = x ∧ ¬ ((rfR (encR x) false).2.2 = true ∨ 0 < (rfR (encR x) false).2.1.length)) ↔ x.may := by
  constructor
  · rintro ⟨h1, h2⟩
    have hb : (rfR (encR x) false).2.2 = false := by simpa using fun h => h2 (.inl h)
    have h3 := rfR_can (show rfR (encR x) false = (x, (rfR (encR x) false).2.1, false) from Prod.ext h1 (Prod.ext rfl hb))
    exact h3.2.2
  · intro h
    have h1 := rfR_enc h []
    rw [List.append_nil] at h1
    rw [h1]; simp
theorem rfAt_may (c : Cm) : (∀ p ∈ rfAt c, p.2.may) ↔ (c.prev.may ∧ c.vols.may ∧ c.idx.may) := by
  unfold rfAt; simp
theorem cm_Digest (w : World) (v : Value) (bs : List UInt8) (hv : By w v bs) (hl : bs.length ≤ 100000) : Ret Tryd.prog 33 [v].toArray w fun r w' => r = .agg (dgR (tagD 3 [bs])).toArray ∧ Keep All w w' := by
  refine enter (fn := Tryd.f33) (n := 6) Tryd.func33 rfl rfl (by simp) ?_
  refine W_seq ?_
  refine W_region ?_
  refine o_alloc rfl rfl rfl ?_; intro w1 b1 e1 hB1 hk1 hs1
  refine ops_nil ?_
  refine W_seq ?_
  refine W_region ?_
  refine o_mvt rfl ?_
  refine op_call rfl rfl rfl (bl_Of w1 0 v bs (hv.k hk1) hl) ?_; rintro v2 w2 ⟨rfl, hk2⟩
  refine op_run (r_fieldA (dgR (tagD 3 [bs])) rfl rfl rfl rfl rfl rfl ((by show ((refR (ofR 0 bs)).drop 0).take 32 = _; unfold refR ofR; rw [List.drop_zero]; exact List.take_left' (dgR_len _)))) rfl ?_
  refine o_storeA (cs := dgR (tagD 3 [bs])) rfl rfl (by first | rfl | exact binV_one _ | exact dgR_one _ | exact refR_one _ | exact secR_one _ | exact all_c8 _) (by first | rfl | (rw [binV_len]; rfl) | (rw [dgR_len]; rfl) | (rw [refR_len]; rfl) | (rw [secR_len]; rfl) | (rw [List.length_map, tagF_len]; rfl)) (hk2.blk' hB1 trivial) (by exact Nat.le_of_eq (by simp [dgR_len])) rfl ?_; intro w4 hB4 hk4 hs4
  have hB4 : Blk w4 b1 (dgR (tagD 3 [bs])) 28 := by
    have h := hB4
    rwa [splice_all (by simp [dgR_len])] at h
  refine ops_nil ?_
  refine W_ret ?_
  refine retA (dgR (tagD 3 [bs])) rfl rfl rfl rfl (by first | rfl | (rw [binV_len]; rfl) | (rw [dgR_len]; rfl) | (rw [refR_len]; rfl) | (rw [secR_len]; rfl) | (rw [List.length_map, tagF_len]; rfl)) hB4.all ?_
  exact ⟨rfl, (hk1.trans hk2).new hk4 (by omega)⟩
end Go.Proofs.YtigehkfdfecfoaaDoor.B
