/-
  Commits in memory; commits as bytes: refs, list, bytes.
-/
import Derived.Test.YtigehkfdfecfoaaDoorBin1
import Derived.Test.YtigehkfdfecfoaaDoorCommitP
import Derived.Test.YtigehkfdfecfoaaDoorRowsK
import Derived.Test.YtigehkfdfecfoaaDoorMSha
namespace Go.Proofs.YtigehkfdfecfoaaDoor.B
open Go
set_option linter.unusedVariables false
set_option maxHeartbeats 2000000
set_option maxRecDepth 100000
attribute [local irreducible] W OpsW OpsQ retP
def cmV (c : Cm) (vb ve : Value) : List Value := [.int .u64 c.epoch] ++ (refR c.prev ++ (refR c.vols ++ (refR c.idx ++ ([vb] ++ (dgR c.state ++ [ve])))))
theorem cmV_len (c : Cm) (vb ve : Value) : (cmV c vb ve).length = 137 := by unfold cmV; simp only [List.length_append, refR_len, dgR_len]; rfl
theorem cmV_epoch (c : Cm) (vb ve : Value) : (cmV c vb ve)[0]? = some (.int .u64 c.epoch) := rfl
theorem cmV_prev (c : Cm) (vb ve : Value) {j : Nat} {v : Value} (h : (refR c.prev)[j]? = some v) : (cmV c vb ve)[1 + j]? = some v := mid_get (A := [.int .u64 c.epoch]) rfl h
theorem cmV_vols (c : Cm) (vb ve : Value) {j : Nat} {v : Value} (h : (refR c.vols)[j]? = some v) : (cmV c vb ve)[35 + j]? = some v := by
  unfold cmV; rw [← List.append_assoc]
  exact mid_get (by rw [List.length_append, refR_len]; rfl) h
theorem cmV_idx (c : Cm) (vb ve : Value) {j : Nat} {v : Value} (h : (refR c.idx)[j]? = some v) : (cmV c vb ve)[69 + j]? = some v := by
  unfold cmV; rw [← List.append_assoc, ← List.append_assoc]
  exact mid_get (by simp only [List.length_append, refR_len]; rfl) h
theorem cmV_bins (c : Cm) (vb ve : Value) : (cmV c vb ve)[103]? = some vb := by
  unfold cmV; rw [← List.append_assoc, ← List.append_assoc, ← List.append_assoc]
  exact mid_get (j := 0) (by simp only [List.length_append, refR_len]; rfl) rfl
theorem cmV_state (c : Cm) (vb ve : Value) {j : Nat} {v : Value} (h : (dgR c.state)[j]? = some v) : (cmV c vb ve)[104 + j]? = some v := by
  unfold cmV; rw [← List.append_assoc, ← List.append_assoc, ← List.append_assoc, ← List.append_assoc]
  exact mid_get (by simp only [List.length_append, refR_len]; rfl) h
theorem cmV_events (c : Cm) (vb ve : Value) : (cmV c vb ve)[136]? = some ve := by
  unfold cmV; rw [← List.append_assoc, ← List.append_assoc, ← List.append_assoc, ← List.append_assoc, ← List.append_assoc]
  rw [List.getElem?_append_right (by simp only [List.length_append, refR_len, dgR_len]; exact Nat.le_refl 136)]
  simp only [List.length_append, refR_len, dgR_len]; rfl
theorem cmV_one (c : Cm) {vb ve : Value} (hb : one vb = true) (he : one ve = true) : (cmV c vb ve).all one = true := by
  unfold cmV; simp only [List.all_append, refR_one, dgR_one, List.all_cons, List.all_nil, hb, he]; rfl
theorem ti_bin : tinfo Tryd.prog 100 = some (some (.agg (binV Bn.zero).toArray), 35, 56) := by kernel_rfl
/-- A commit in memory. -/
def CmIn (w : World) (c : Cm) (vb ve : Value) (vks : List Value) : Prop := Sl w vb c.bins.length 35 (rows binV c.bins) ∧ RowsV w ve vks c.events
theorem CmIn.k {w w' : World} {c : Cm} {vb ve : Value} {vks : List Value} (h : CmIn w c vb ve vks) (hk : Keep All w w') : CmIn w' c vb ve vks := ⟨h.1.k hk, h.2.k hk⟩
/-- It has no more than so much. -/
structure Cm.small (c : Cm) : Prop where
  epoch : c.epoch < 2 ^ 64
  nbins : c.bins.length ≤ 65536
  nev : c.events.length ≤ 65536
  ev : ∀ x ∈ c.events, x.length ≤ 100000
theorem cm_refs (w : World) (b : Nat) : Ret Tryd.prog 50 [.pointer (some ⟨b, 0, none⟩)].toArray w fun r w' => ∃ s, r = .slice (some ⟨s, 0, none⟩) 3 3 ∧ w.heap.size ≤ s ∧ s < w'.heap.size ∧
    Blk w' s [.pointer (some ⟨b, 1, none⟩), .pointer (some ⟨b, 35, none⟩), .pointer (some ⟨b, 69, none⟩)] 96 ∧ Keep All w w' := by
  refine enter (fn := Tryd.f50) (n := 13) Tryd.func50 rfl rfl (by simp) ?_
  refine W_seq ?_
  refine W_region ?_
  refine o_asc rfl ?_
  refine ops_nil ?_
  refine W_seq ?_
  refine W_tail 9 (by kernel_rfl) (by kernel_rfl) ?_; intro w1 hk1 hs1
  refine q_mvt rfl ?_
  refine q_run (still1 (r_nilCheck rfl)) rfl ?_
  refine q_run (still1 (r_fieldAddr rfl rfl rfl rfl rfl)) rfl ?_
  refine q_mvt rfl ?_
  refine q_run (still1 (r_nilCheck rfl)) rfl ?_
  refine q_run (still1 (r_fieldAddr rfl rfl rfl rfl rfl)) rfl ?_
  refine q_mvt rfl ?_
  refine q_run (still1 (r_nilCheck rfl)) rfl ?_
  refine q_run (still1 (r_fieldAddr rfl rfl rfl rfl rfl)) rfl ?_
  refine q_nil ?_
  refine o_bsL ([.pointer (some ⟨b, 1, none⟩), .pointer (some ⟨b, 35, none⟩), .pointer (some ⟨b, 69, none⟩)]) rfl rfl rfl rfl rfl rfl rfl rfl rfl ?_; intro w2 b2 e2 hB2 hk2 hs2
  refine o_ast rfl ?_
  refine ops_nil ?_
  refine W_ret ?_
  refine ret1 (.slice (some ⟨b2, 0, none⟩) 3 3) rfl ?_ ?_; rfl
  have hz := hk1.size
  exact ⟨b2, rfl, by omega, by omega, hB2, hk1.trans hk2⟩
theorem flatBn_len (l : List Bn) : (l.flatMap encBn).length ≤ 62 * l.length := by
  induction l with
  | nil => simp
  | cons x l ih => rw [List.flatMap_cons, List.length_append, List.length_cons]; have := encBn_len x; omega
theorem take_flatMap {α : Type} {f : α → List UInt8} {l : List α} {k : Nat} (hk : k < l.length) : (l.take (k + 1)).flatMap f = (l.take k).flatMap f ++ f l[k] := by
  rw [List.take_succ_eq_append_getElem hk, List.flatMap_append]; simp
theorem flatTake_le {f : Bn → List UInt8} (l : List Bn) (k : Nat) : ((l.take k).flatMap f).length ≤ (l.flatMap f).length := by
  have h := List.take_append_drop k l
  have : (l.flatMap f).length = ((l.take k).flatMap f).length + ((l.drop k).flatMap f).length := by
    rw [← List.length_append, ← List.flatMap_append, h]
  omega
theorem flatB_len {l : List (List UInt8)} (h : ∀ x ∈ l, x.length ≤ 100000) : (l.flatMap encB).length ≤ 100010 * l.length := by
  induction l with
  | nil => simp
  | cons x l ih =>
    rw [List.flatMap_cons, List.length_append, List.length_cons]
    have h1 := h x (List.mem_cons_self ..)
    have h2 := ih fun y hy => h y (List.mem_cons_of_mem _ hy)
    have h3 := encN_len10 (v := x.length) (by omega)
    have h4 : (encB x).length = (encN x.length).length + x.length := by unfold encB; rw [List.length_append]
    omega
theorem flatTakeB_le (l : List (List UInt8)) (k : Nat) : ((l.take k).flatMap encB).length ≤ (l.flatMap encB).length := by
  have h := List.take_append_drop k l
  have : (l.flatMap encB).length = ((l.take k).flatMap encB).length + ((l.drop k).flatMap encB).length := by
    rw [← List.length_append, ← List.flatMap_append, h]
  omega
end Go.Proofs.YtigehkfdfecfoaaDoor.B
