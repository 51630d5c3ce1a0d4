/-
  A region that draws its order, whose last steps write what earlier ones read: up to the gate (an operation that waits for all that read) something holds; behind it nothing is asked.
-/
import Derived.Test.YtkmciohghhffnaaHeld
namespace Go.Proofs.Ytkmciohghhffnaa.B
open Go
set_option linter.unusedVariables false
structure ClosedL (md : Region.Mode) (ops : Array Oper) (listed : Array Bool) : Prop where
  size : listed.size = ops.size
  closed : ∀ j oj, ops[j]? = some oj → listed.getD j false = true → ∀ e ∈ oj.after, Region.binds md e = true → listed.getD e.on false = true
/-- Operation t waits for i, be it through others. -/
def waitsN (md : Region.Mode) (ops : Array Oper) : Nat → Nat → Nat → Bool
  | 0, _, _ => false
  | f + 1, t, i => match ops[t]? with
    | some o => o.after.toList.any fun e => Region.binds md e && (Nat.beq e.on i || waitsN md ops f e.on i)
    | none => false
section
variable {P : Program} {md : Region.Mode} {ops : Array Oper} {Q : Exit → Act → World → Prop} {S : World → Prop} {t : Nat}
theorem ClosedL.start : ClosedL md ops (Array.replicate ops.size false) :=
  ⟨by simp, fun j oj _ h => by rw [getD_replicate_false] at h; cases h⟩
theorem ClosedL.set {listed : Array Bool} {i : Nat} (inv : ClosedL md ops listed) (hi : i ∈ Region.ready md ops listed) : ClosedL md ops (listed.setIfInBounds i true) := by
  obtain ⟨_, oi, hoi, hall⟩ := mem_ready.1 hi
  refine ⟨by simp [inv.size], fun j oj hj hl e he hb => ?_⟩
  by_cases hij : i = j
  · subst hij
    have : oj = oi := Option.some.inj (hj.symm.trans hoi)
    subst this
    exact getD_set_true (hall e he hb)
  · rw [getD_set_ne false hij] at hl
    exact getD_set_true (inv.closed j oj hj hl e he hb)
theorem ClosedL.gate {listed : Array Bool} {i : Nat} (inv : ClosedL md ops listed) (hi : listed.getD i true = false) : ∀ f t, waitsN md ops f t i = true → listed.getD t true = false
  | 0, _, h => by cases h
  | f + 1, t, h => by
    unfold waitsN at h
    split at h
    · rename_i ot hot
      obtain ⟨e, he, hb⟩ := List.any_eq_true.1 h
      simp only [Bool.and_eq_true, Bool.or_eq_true] at hb
      have ht : t < listed.size := by rw [inv.size]; exact (Array.getElem?_eq_some_iff.1 hot).1
      cases hc : listed.getD t false with
      | false => exact getD_in ht hc
      | true =>
        have h1 := inv.closed t ot hot hc e (by simpa using he) hb.1
        rcases hb.2 with h2 | h2
        · rw [Nat.eq_of_beq_eq_true h2, getD_both hi] at h1; cases h1
        · have h3 := ClosedL.gate inv hi f e.on h2
          rw [getD_both h3] at h1; cases h1
    · cases h
def wpAnyG (P : Program) (md : Region.Mode) (ops : Array Oper) (Q : Exit → Act → World → Prop) (t : Nat) (S : World → Prop) : Nat → Array Bool → Act → World → Prop
  | 0, listed, a, w => Region.ready md ops listed = [] ∧ Q .normal a w
  | fuel + 1, listed, a, w =>
    (Region.ready md ops listed = [] → Q .normal a w) ∧
    ∀ i ∈ Region.ready md ops listed, wpOp P ops Q i (fun a' w' => ((listed.setIfInBounds i true).getD t true = false → S w') ∧ wpAnyG P md ops Q t S fuel (listed.setIfInBounds i true) a' w') a w
theorem wpAny_of_gate : ∀ (fuel : Nat) (listed : Array Bool) (a : Act) (w : World), wpAnyG P md ops Q t S fuel listed a w → wpAny P md ops Q fuel listed a w
  | 0, _, _, _, h => h
  | fuel + 1, _, _, _, h => ⟨h.1, fun i hi => wpOp_mono (fun a' w' h' => wpAny_of_gate fuel _ a' w' h'.2) (h.2 i hi)⟩
theorem wpAnyG_first {i : Nat} {oi : Oper} {v : Value} (hi : ops[i]? = some oi) (hsel : ∀ (j : Nat) (o : Oper) cs b, ops[j]? = some o → o.op ≠ .select cs b)
    (hQ : ∀ c a w, Q (.panic c) (a.put oi.dst v) w → Q (.panic c) a w) (hw : waitsN md ops ops.size t i = true) (hti : i ≠ t) :
    ∀ (fuel : Nat) (listed : Array Bool) (a : Act) (w : World), ClosedL md ops listed →
      (∀ j oj, ops[j]? = some oj → j ≠ i → listed.getD j true = false → (∀ e ∈ oj.after, Region.binds md e = true → e.on ≠ i) → oi.apart ops oj = true) →
      i ∈ Region.ready md ops listed → YieldsIf P ops S oi v a → (listed.getD t true = false → S w) →
      wpAnyG P md ops Q t S fuel (listed.setIfInBounds i true) (a.put oi.dst v) w → wpAnyG P md ops Q t S (fuel + 1) listed a w := by
  intro fuel
  induction fuel with
  | zero =>
    intro listed a w inv _ hr hy hS H
    refine ⟨fun h => (by rw [h] at hr; cases hr), fun j hj => ?_⟩
    by_cases hji : j = i
    · subst hji
      have h := hS (inv.gate (mem_ready.1 hr).1 _ t hw)
      exact hy.wpOp hi h ⟨fun _ => h, H⟩
    · have := ready_mono hj hji
      rw [H.1] at this
      cases this
  | succ fuel ih =>
    intro listed a w inv hfree hr hy hS H
    refine ⟨fun h => (by rw [h] at hr; cases hr), fun j hj => ?_⟩
    by_cases hji : j = i
    · subst hji
      have h := hS (inv.gate (mem_ready.1 hr).1 _ t hw)
      exact hy.wpOp hi h ⟨fun _ => h, H⟩
    · have h1 := H.2 j (ready_mono hj hji)
      obtain ⟨hjun, oj, hoj, hall⟩ := mem_ready.1 hj
      have hnot : ∀ e ∈ oj.after, Region.binds md e = true → e.on ≠ i := fun e he hb heq => by
        have h1 := hall e he hb
        have h0 := (mem_ready.1 hr).1
        rw [heq] at h1
        rw [getD_both h0] at h1; cases h1
      have h2 := wpOp_putIf hoj (hfree j oj hoj hji hjun hnot) (fun cs b => hsel i oi cs b hi) (fun cs b => hsel j oj cs b hoj) hQ hy h1
      have hfree' : ∀ k ok, ops[k]? = some ok → k ≠ i → (listed.setIfInBounds j true).getD k true = false →
          (∀ e ∈ ok.after, Region.binds md e = true → e.on ≠ i) → oi.apart ops ok = true := fun k ok hk hki hun hno => by
        refine hfree k ok hk hki ?_ hno
        by_cases hjk : j = k
        · subst hjk; exact hjun
        · rw [getD_set_ne true hjk] at hun; exact hun
      have hS' : ∀ w', (((listed.setIfInBounds i true).setIfInBounds j true).getD t true = false → S w') → ((listed.setIfInBounds j true).getD t true = false → S w') := fun w' h h3 => by
        refine h ?_
        rw [Array.setIfInBounds_comm _ _ (Ne.symm hji), getD_set_ne true hti]; exact h3
      refine wpOp_mono (fun a' w' h3 => ⟨hS' w' h3.2.1, ih (listed.setIfInBounds j true) a' w' (inv.set hj) hfree' (ready_mono hr (Ne.symm hji)) h3.1 (hS' w' h3.2.1) ?_⟩) h2
      rw [Array.setIfInBounds_comm _ _ hji]
      exact h3.2.2
/-- What hangs on no world may be taken first, also if the gate does not wait for it. -/
theorem wpAnyG_pure {i : Nat} {oi : Oper} {v : Value} (hi : ops[i]? = some oi) (hsel : ∀ (j : Nat) (o : Oper) cs b, ops[j]? = some o → o.op ≠ .select cs b)
    (hQ : ∀ c a w, Q (.panic c) (a.put oi.dst v) w → Q (.panic c) a w) (hti : i ≠ t) :
    ∀ (fuel : Nat) (listed : Array Bool) (a : Act) (w : World), ClosedL md ops listed →
      (∀ j oj, ops[j]? = some oj → j ≠ i → listed.getD j true = false → (∀ e ∈ oj.after, Region.binds md e = true → e.on ≠ i) → oi.apart ops oj = true) →
      i ∈ Region.ready md ops listed → YieldsIf P ops (fun _ => True) oi v a → (listed.getD t true = false → S w) →
      wpAnyG P md ops Q t S fuel (listed.setIfInBounds i true) (a.put oi.dst v) w → wpAnyG P md ops Q t S (fuel + 1) listed a w := by
  intro fuel
  induction fuel with
  | zero =>
    intro listed a w inv _ hr hy hS H
    refine ⟨fun h => (by rw [h] at hr; cases hr), fun j hj => ?_⟩
    by_cases hji : j = i
    · subst hji
      exact hy.wpOp hi trivial ⟨fun h => hS (by rwa [getD_set_ne true hti] at h), H⟩
    · have := ready_mono hj hji
      rw [H.1] at this
      cases this
  | succ fuel ih =>
    intro listed a w inv hfree hr hy hS H
    refine ⟨fun h => (by rw [h] at hr; cases hr), fun j hj => ?_⟩
    by_cases hji : j = i
    · subst hji
      exact hy.wpOp hi trivial ⟨fun h => hS (by rwa [getD_set_ne true hti] at h), H⟩
    · have h1 := H.2 j (ready_mono hj hji)
      obtain ⟨hjun, oj, hoj, hall⟩ := mem_ready.1 hj
      have hnot : ∀ e ∈ oj.after, Region.binds md e = true → e.on ≠ i := fun e he hb heq => by
        have h1 := hall e he hb
        have h0 := (mem_ready.1 hr).1
        rw [heq] at h1
        rw [getD_both h0] at h1; cases h1
      have h2 := wpOp_putIf hoj (hfree j oj hoj hji hjun hnot) (fun cs b => hsel i oi cs b hi) (fun cs b => hsel j oj cs b hoj) hQ hy h1
      have hfree' : ∀ k ok, ops[k]? = some ok → k ≠ i → (listed.setIfInBounds j true).getD k true = false →
          (∀ e ∈ ok.after, Region.binds md e = true → e.on ≠ i) → oi.apart ops ok = true := fun k ok hk hki hun hno => by
        refine hfree k ok hk hki ?_ hno
        by_cases hjk : j = k
        · subst hjk; exact hjun
        · rw [getD_set_ne true hjk] at hun; exact hun
      have hS' : ∀ w', (((listed.setIfInBounds i true).setIfInBounds j true).getD t true = false → S w') → ((listed.setIfInBounds j true).getD t true = false → S w') := fun w' h h3 => by
        refine h ?_
        rw [Array.setIfInBounds_comm _ _ (Ne.symm hji), getD_set_ne true hti]; exact h3
      refine wpOp_mono (fun a' w' h3 => ⟨hS' w' h3.2.1, ih (listed.setIfInBounds j true) a' w' (inv.set hj) hfree' (ready_mono hr (Ne.symm hji)) h3.1 (hS' w' h3.2.1) ?_⟩) h2
      rw [Array.setIfInBounds_comm _ _ hji]
      exact h3.2.2
end
/-- The walk of such a region. -/
def GateW (c0 : Ctx) (P : Program) (n : Nat) (ops : Array Oper) (t : Nat) (S : World → Prop) (fuel : Nat) (listed : Array Bool) (F : Fr) (w : World) (K : Fr → World → Prop) : Prop :=
  ∀ a Q, Sim c0 n a F → ClosedL .any ops listed → (∀ a' F' w', Sim c0 n a' F' → K F' w' → Q Exit.normal a' w') → (∀ c a w, ¬ Q (.panic c) a w) → wpAnyG P .any ops Q t S fuel listed a w
section
variable {c0 : Ctx} {P : Program} {n : Nat} {ops : Array Oper} {t : Nat} {S : World → Prop} {F : Fr} {w : World} {K : Fr → World → Prop} {fuel : Nat} {listed : Array Bool}
theorem W_gate {ds : List Deferred} {alt : Act → World → Prop} {id : Nat} {l : List Oper} {Q : Exit → Fr → World → Prop} (t : Nat) (S : World → Prop) (hm : P.follows .mixedOrders = true) (hS : S { w with drawn := w.drawn + 1 })
    (h : S { w with drawn := w.drawn + 1 } → GateW ⟨none, ds, alt⟩ P n l.toArray t S l.length (Array.replicate l.length false) F { w with drawn := w.drawn + 1 } (fun F' w' => Q .normal F' w')) : W ⟨none, ds, alt⟩ P n (.region id l.toArray true) F w Q := by
  intro a ha
  refine wpIn_wide.2 (wp_region_noPanic (wp_region_any hm (wpAny_of_gate (t := t) (S := S) _ _ _ _ ?_)))
  have h1 := h hS a (NoPanic (Post ⟨none, ds, alt⟩ n Q)) ha (by have := ClosedL.start (md := .any) (ops := l.toArray); simpa using this) (fun a' F' w' hs hK => .inl ⟨F', hs, hK⟩) (fun c a w h => h)
  simpa using h1
theorem gt_done (hr : Region.ready .any ops listed = []) (h : K F w) : GateW c0 P n ops t S fuel listed F w K := fun a Q hs _ hk hp => by
  cases fuel with
  | zero => exact ⟨hr, hk _ _ _ hs h⟩
  | succ f => exact ⟨fun _ => hk _ _ _ hs h, by rw [hr]; simp⟩
theorem gt_take {o : Oper} {v : Value} (i : Nat) (hi : ops[i]? = some o) (hn : Region.noSelect ops = true) (hf : Region.free .any ops listed i = true) (hr : (Region.ready .any ops listed).contains i = true) (hw : (waitsN .any ops ops.size t i && !Nat.beq i t) = true)
    (hg : wantedF ops F o = true) (hy : ∀ w, S w → Run1 P F o w v w) (hS : S w) (h : GateW c0 P n ops t S fuel (listed.setIfInBounds i true) (updo n F o.dst v) w K) : GateW c0 P n ops t S (fuel + 1) listed F w K := by
  intro a Q hs hc hk hp
  simp only [Bool.and_eq_true, Bool.not_eq_true'] at hw
  have hir : i ∈ Region.ready .any ops listed := by simpa using hr
  refine wpAnyG_first hi (Region.noSelect_spec hn) (fun c a w h => (hp _ _ _ h).elim) hw.1 (fun e => by subst e; rw [Nat.beq_refl] at hw; cases hw.2) fuel listed a w hc (Region.free_spec hi hf) hir (.inl ⟨by rw [wanted_eq hs]; exact hg, fun w hw => by rw [hs.eval]; exact (hy w hw : (execOp (ev F) o).run P w = .ok (.value v) w)⟩) (fun _ => hS) ?_
  exact h _ Q (hs.put o.dst v) (hc.set hir) hk hp
section
variable {d s : Tmp} {v : Value} {ty : TypeId} {pos : String} {after : Array Edge} {g : Option (Nat × Bool)}
theorem gt_mvt (i : Nat) (hi : ops[i]? = some ⟨some d, .move (.tmp s), ty, pos, after, g⟩) (hn : Region.noSelect ops = true) (hf : Region.free .any ops listed i = true) (hr : (Region.ready .any ops listed).contains i = true) (hw : (waitsN .any ops ops.size t i && !Nat.beq i t) = true)
    (hg : wantedF ops F ⟨some d, .move (.tmp s), ty, pos, after, g⟩ = true) (hS : S w) (h : GateW c0 P n ops t S fuel (listed.setIfInBounds i true) (updc n F d s) w K) : GateW c0 P n ops t S (fuel + 1) listed F w K :=
  gt_take i hi hn hf hr hw hg (fun _ _ => r_move) hS (by rw [updc_eq] at h; exact h)
theorem gt_ast (i : Nat) (hi : ops[i]? = some ⟨some d, .assign (.tmp s), ty, pos, after, g⟩) (hn : Region.noSelect ops = true) (hf : Region.free .any ops listed i = true) (hr : (Region.ready .any ops listed).contains i = true) (hw : (waitsN .any ops ops.size t i && !Nat.beq i t) = true)
    (hg : wantedF ops F ⟨some d, .assign (.tmp s), ty, pos, after, g⟩ = true) (hS : S w) (h : GateW c0 P n ops t S fuel (listed.setIfInBounds i true) (updc n F d s) w K) : GateW c0 P n ops t S (fuel + 1) listed F w K :=
  gt_take i hi hn hf hr hw hg (fun _ _ => r_assign) hS (by rw [updc_eq] at h; exact h)
theorem gt_run {op : Op} (i : Nat) (hy : ∀ w, S w → Run1 P F ⟨some d, op, ty, pos, after, g⟩ w v w) (hi : ops[i]? = some ⟨some d, op, ty, pos, after, g⟩) (hn : Region.noSelect ops = true) (hf : Region.free .any ops listed i = true) (hr : (Region.ready .any ops listed).contains i = true) (hw : (waitsN .any ops ops.size t i && !Nat.beq i t) = true)
    (hg : wantedF ops F ⟨some d, op, ty, pos, after, g⟩ = true) (hS : S w) (h : GateW c0 P n ops t S fuel (listed.setIfInBounds i true) (upd n F d v) w K) : GateW c0 P n ops t S (fuel + 1) listed F w K :=
  gt_take i hi hn hf hr hw hg hy hS h
end
theorem gp_take {o : Oper} {v : Value} (i : Nat) (hi : ops[i]? = some o) (hn : Region.noSelect ops = true) (hf : Region.free .any ops listed i = true) (hr : (Region.ready .any ops listed).contains i = true) (hw : (!Nat.beq i t) = true)
    (hg : wantedF ops F o = true) (hy : ∀ w, True → Run1 P F o w v w) (hS : S w) (h : GateW c0 P n ops t S fuel (listed.setIfInBounds i true) (updo n F o.dst v) w K) : GateW c0 P n ops t S (fuel + 1) listed F w K := by
  intro a Q hs hc hk hp
  simp only [Bool.not_eq_true'] at hw
  have hir : i ∈ Region.ready .any ops listed := by simpa using hr
  refine wpAnyG_pure hi (Region.noSelect_spec hn) (fun c a w h => (hp _ _ _ h).elim) (fun e => by subst e; rw [Nat.beq_refl] at hw; cases hw) fuel listed a w hc (Region.free_spec hi hf) hir (.inl ⟨by rw [wanted_eq hs]; exact hg, fun w hw => by rw [hs.eval]; exact (hy w hw : (execOp (ev F) o).run P w = .ok (.value v) w)⟩) (fun _ => hS) ?_
  exact h _ Q (hs.put o.dst v) (hc.set hir) hk hp
section
variable {d s : Tmp} {v : Value} {ty : TypeId} {pos : String} {after : Array Edge} {g : Option (Nat × Bool)}
theorem gp_mvt (i : Nat) (hi : ops[i]? = some ⟨some d, .move (.tmp s), ty, pos, after, g⟩) (hn : Region.noSelect ops = true) (hf : Region.free .any ops listed i = true) (hr : (Region.ready .any ops listed).contains i = true) (hw : (!Nat.beq i t) = true)
    (hg : wantedF ops F ⟨some d, .move (.tmp s), ty, pos, after, g⟩ = true) (hS : S w) (h : GateW c0 P n ops t S fuel (listed.setIfInBounds i true) (updc n F d s) w K) : GateW c0 P n ops t S (fuel + 1) listed F w K :=
  gp_take i hi hn hf hr hw hg (fun _ _ => r_move) hS (by rw [updc_eq] at h; exact h)
theorem gp_run {op : Op} (i : Nat) (hy : ∀ w, True → Run1 P F ⟨some d, op, ty, pos, after, g⟩ w v w) (hi : ops[i]? = some ⟨some d, op, ty, pos, after, g⟩) (hn : Region.noSelect ops = true) (hf : Region.free .any ops listed i = true) (hr : (Region.ready .any ops listed).contains i = true) (hw : (!Nat.beq i t) = true)
    (hg : wantedF ops F ⟨some d, op, ty, pos, after, g⟩ = true) (hS : S w) (h : GateW c0 P n ops t S fuel (listed.setIfInBounds i true) (upd n F d v) w K) : GateW c0 P n ops t S (fuel + 1) listed F w K :=
  gp_take i hi hn hf hr hw hg hy hS h
end
/-- Only one may come up, ahead of the gate. -/
theorem gt_one (i : Nat) (hr : Region.ready .any ops listed = [i]) (h : OneW c0 P n ops F w i (fun F' w' => S w' ∧ (S w' → GateW c0 P n ops t S fuel (listed.setIfInBounds i true) F' w' K))) : GateW c0 P n ops t S (fuel + 1) listed F w K := by
  intro a Q hs hc hk hp
  refine ⟨fun h0 => (by rw [hr] at h0; cases h0), fun j hj => ?_⟩
  rw [hr, List.mem_singleton] at hj
  subst hj
  exact h a Q hs hp _ fun a' F' w' hs' ⟨hS', hA⟩ => ⟨fun _ => hS', hA hS' a' Q hs' (hc.set (by rw [hr]; simp)) hk hp⟩
/-- The gate, and what comes behind it. -/
theorem gt_past (i : Nat) (hr : Region.ready .any ops listed = [i]) (hg : (listed.setIfInBounds i true).getD t true = true) (h : OneW c0 P n ops F w i (fun F' w' => GateW c0 P n ops t S fuel (listed.setIfInBounds i true) F' w' K)) : GateW c0 P n ops t S (fuel + 1) listed F w K := by
  intro a Q hs hc hk hp
  refine ⟨fun h0 => (by rw [hr] at h0; cases h0), fun j hj => ?_⟩
  rw [hr, List.mem_singleton] at hj
  subst hj
  exact h a Q hs hp _ fun a' F' w' hs' hA => ⟨fun h => (by rw [hg] at h; cases h), hA a' Q hs' (hc.set (by rw [hr]; simp)) hk hp⟩
end
end Go.Proofs.Ytkmciohghhffnaa.B
