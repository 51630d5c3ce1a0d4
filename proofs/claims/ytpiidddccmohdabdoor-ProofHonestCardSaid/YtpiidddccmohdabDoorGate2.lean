/-
  A region that draws its order, with two gates: up to the first one thing holds, up to the second another; behind it nothing is asked.
-/
import Derived.Test.YtpiidddccmohdabDoorMLib
import Derived.OrdersIn
import Derived.TacticsIn
namespace Go.Proofs.YtpiidddccmohdabDoor.B
open Go
set_option linter.unusedVariables false
def condG (t : Nat) (S : World → Prop) (u : Nat) (T : World → Prop) (L : Array Bool) (w : World) : Prop := (L.getD t true = false → S w) ∧ (L.getD u true = false → T w)
section
variable {Fe : Fence} {nn : Nat} {P : Program} {md : Region.Mode} {ops : Array Oper} {Q : Exit → Act → World → Prop} {S T R : World → Prop} {t u : Nat}
theorem condG.set {L : Array Bool} {i : Nat} {w : World} (hti : i ≠ t) (hui : i ≠ u) : condG t S u T (L.setIfInBounds i true) w ↔ condG t S u T L w := by
  unfold condG; rw [getD_set_ne true hti, getD_set_ne true hui]
/-- No operation here puts a call off. -/
def noDefer (ops : Array Oper) : Bool := ops.toList.all fun o => match o.op with | .defer _ => false | _ => true
theorem noDefer_spec (h : noDefer ops = true) {j : Nat} {o : Oper} (hj : ops[j]? = some o) : ∀ c, o.op ≠ .defer c := by
  intro c e
  have h1 := List.all_eq_true.1 h o (by rw [← Array.getElem?_toList] at hj; exact List.mem_of_getElem? hj)
  rw [e] at h1; cases h1
theorem yieldsIf_wpOpIn {i : Nat} {o : Oper} {v : Value} {a : Act} (hfn : ∀ f, Fe.fn f) (hd : ∀ c, o.op ≠ .defer c) (hi : ops[i]? = some o) (hy : YieldsIf P ops R o v a)
    {K : Act → World → Prop} {w : World} (hR : R w) (h : K (a.put o.dst v) w) : wpOpIn Fe nn P ops Q i K a w := by
  unfold Go.wpOpIn
  simp only [hi]
  rcases hy with ⟨hw, hv⟩ | ⟨hw, rfl⟩
  · simp only [hw, if_true, Oper.wpIn, Oper.semAt_eq _ _ _ hd, hv w hR, Oper.uponIn]; exact ⟨fun f _ => hfn f, h⟩
  · simp only [hw, Bool.false_eq_true, if_false]; exact ⟨fun f _ => hfn f, h⟩
theorem wpOpIn_putIf {j : Nat} {oi oj : Oper} {v : Value} (hfn : ∀ f, Fe.fn f) (hdj : ∀ c, oj.op ≠ .defer c) (hj : ops[j]? = some oj) (hap : oi.apart ops oj = true)
    (hsi : ∀ cs b, oi.op ≠ .select cs b) (hsj : ∀ cs b, oj.op ≠ .select cs b)
    (hQ : ∀ c a w, Q (.panic c) (a.put oi.dst v) w → Q (.panic c) a w) {K : Act → World → Prop} {a : Act} {w : World}
    (hy : YieldsIf P ops R oi v a) (h : wpOpIn Fe nn P ops Q j K (a.put oi.dst v) w) :
    wpOpIn Fe nn P ops Q j (fun a' w' => YieldsIf P ops R oi v a' ∧ K (a'.put oi.dst v) w') a w := by
  obtain ⟨h1, h2, h3⟩ := Oper.apart_spec hap
  have keep : ∀ (a : Act), YieldsIf P ops R oi v a → ∀ u, YieldsIf P ops R oi v (a.put oj.dst u) := fun a hy u =>
    hy.of_same (execOp_put oi hsi a oj.dst u h3) (wanted_put oi a oj.dst u h3)
  have keepD : ∀ d, YieldsIf P ops R oi v { a with defers := d :: a.defers } := fun d => hy.of_same rfl rfl
  unfold wpOpIn at *
  simp only [hj] at *
  rw [wanted_put oj a oi.dst v h1] at h
  split
  · rename_i hw
    simp only [hw, if_true] at h
    unfold Oper.wpIn at *
    refine ⟨fun f _ => hfn f, ?_⟩
    have h := h.2
    rw [Oper.semAt_eq _ _ _ hdj, execOp_put oj hsj a oi.dst v h1] at h
    rw [Oper.semAt_eq _ _ _ hdj]
    generalize (execOp a.eval oj).run P w = r at *
    cases r with
    | ok x w' =>
      cases x <;> simp only [Oper.uponIn] at h ⊢
      case value u => exact ⟨keep a hy u, by rw [← Act.put_comm a v u h2]; exact h⟩
      case skip => exact ⟨keep a hy _, by rw [← Act.put_comm a v undef h2]; exact h⟩
      case defer d =>
        refine ⟨keep _ (keepD d) _, ?_⟩
        rw [← Act.put_comm _ v undef h2, ← Act.put_defers]
        exact h
      case enter f args =>
        refine ⟨h.1, CallsIn.mono h.2 fun e w'' he => ?_⟩
        cases e with
        | returned u => exact ⟨keep a hy u, by rw [← Act.put_comm a v u h2]; exact he⟩
        | panicked c => exact hQ _ _ _ he
        | outgrown => exact he
      case row row args => exact ⟨h.1, RowsIn.mono h.2 fun u w'' he => ⟨keep a hy u, by rw [← Act.put_comm a v u h2]; exact he⟩⟩
      case round l f tmps assign body =>
        refine ⟨h.1, RoundIn.mono h.2 fun e w'' he => ?_⟩
        cases e with
        | returned u => exact ⟨keep a hy u, by rw [← Act.put_comm a v u h2]; exact he⟩
        | panicked c => exact hQ _ _ _ he
        | outgrown => exact he
    | halt x w' =>
      cases x <;> simp only [Oper.uponIn] at h ⊢
      case panic u => exact hQ _ _ _ h
  · rename_i hw
    simp only [hw] at h
    exact ⟨fun f _ => hfn f, keep a hy _, by rw [← Act.put_comm a v undef h2]; exact h.2⟩
def wpAnyV (Fe : Fence) (nn : Nat) (P : Program) (md : Region.Mode) (ops : Array Oper) (Q : Exit → Act → World → Prop) (t : Nat) (S : World → Prop) (u : Nat) (T : World → Prop) : Nat → Array Bool → Act → World → Prop
  | 0, listed, a, w => Region.ready md ops listed = [] ∧ Q .normal a w
  | fuel + 1, listed, a, w =>
    (Region.ready md ops listed = [] → Q .normal a w) ∧
    ∀ i ∈ Region.ready md ops listed, wpOpIn Fe nn P ops Q i (fun a' w' => condG t S u T (listed.setIfInBounds i true) w' ∧ wpAnyV Fe nn P md ops Q t S u T fuel (listed.setIfInBounds i true) a' w') a w
theorem wpAny_of_gateV : ∀ (fuel : Nat) (listed : Array Bool) (a : Act) (w : World), wpAnyV Fe nn P md ops Q t S u T fuel listed a w → wpAnyIn Fe nn P md ops Q fuel listed a w
  | 0, _, _, _, h => h
  | fuel + 1, _, _, _, h => ⟨h.1, fun i hi => wpOpIn_mono (fun a' w' h' => wpAny_of_gateV fuel _ a' w' h'.2) (h.2 i hi)⟩
theorem wpAnyV_first {i : Nat} {oi : Oper} {v : Value} (hfn : ∀ f, Fe.fn f) (hdf : noDefer ops = true) (hi : ops[i]? = some oi) (hsel : ∀ (j : Nat) (o : Oper) cs b, ops[j]? = some o → o.op ≠ .select cs b)
    (hQ : ∀ c a w, Q (.panic c) (a.put oi.dst v) w → Q (.panic c) a w) (hR : ∀ (L : Array Bool) w, ClosedL md ops L → L.getD i true = false → condG t S u T L w → R w) (hti : i ≠ t) (hui : i ≠ u) :
    ∀ (fuel : Nat) (listed : Array Bool) (a : Act) (w : World), ClosedL md ops listed →
      (∀ j oj, ops[j]? = some oj → j ≠ i → listed.getD j true = false → (∀ e ∈ oj.after, Region.binds md e = true → e.on ≠ i) → oi.apart ops oj = true) →
      i ∈ Region.ready md ops listed → YieldsIf P ops R oi v a → condG t S u T listed w →
      wpAnyV Fe nn P md ops Q t S u T fuel (listed.setIfInBounds i true) (a.put oi.dst v) w → wpAnyV Fe nn P md ops Q t S u T (fuel + 1) listed a w := by
  intro fuel
  induction fuel with
  | zero =>
    intro listed a w inv _ hr hy hS H
    refine ⟨fun h => (by rw [h] at hr; cases hr), fun j hj => ?_⟩
    by_cases hji : j = i
    · subst hji
      exact yieldsIf_wpOpIn hfn (noDefer_spec hdf hi) hi hy (hR _ _ inv (mem_ready.1 hr).1 hS) ⟨(condG.set hti hui).2 hS, H⟩
    · have := ready_mono hj hji
      rw [H.1] at this
      cases this
  | succ fuel ih =>
    intro listed a w inv hfree hr hy hS H
    refine ⟨fun h => (by rw [h] at hr; cases hr), fun j hj => ?_⟩
    by_cases hji : j = i
    · subst hji
      exact yieldsIf_wpOpIn hfn (noDefer_spec hdf hi) hi hy (hR _ _ inv (mem_ready.1 hr).1 hS) ⟨(condG.set hti hui).2 hS, H⟩
    · have h1 := H.2 j (ready_mono hj hji)
      obtain ⟨hjun, oj, hoj, hall⟩ := mem_ready.1 hj
      have hnot : ∀ e ∈ oj.after, Region.binds md e = true → e.on ≠ i := fun e he hb heq => by
        have h1 := hall e he hb
        have h0 := (mem_ready.1 hr).1
        rw [heq] at h1
        rw [getD_both h0] at h1; cases h1
      have h2 := wpOpIn_putIf hfn (noDefer_spec hdf hoj) hoj (hfree j oj hoj hji hjun hnot) (fun cs b => hsel i oi cs b hi) (fun cs b => hsel j oj cs b hoj) hQ hy h1
      have hfree' : ∀ k ok, ops[k]? = some ok → k ≠ i → (listed.setIfInBounds j true).getD k true = false →
          (∀ e ∈ ok.after, Region.binds md e = true → e.on ≠ i) → oi.apart ops ok = true := fun k ok hk hki hun hno => by
        refine hfree k ok hk hki ?_ hno
        by_cases hjk : j = k
        · subst hjk; exact hjun
        · rw [getD_set_ne true hjk] at hun; exact hun
      have hS' : ∀ w', condG t S u T ((listed.setIfInBounds i true).setIfInBounds j true) w' → condG t S u T (listed.setIfInBounds j true) w' := fun w' h => by
        rw [Array.setIfInBounds_comm _ _ (Ne.symm hji)] at h
        exact (condG.set hti hui).1 h
      refine wpOpIn_mono (fun a' w' h3 => ⟨hS' w' h3.2.1, ih (listed.setIfInBounds j true) a' w' (inv.set hj) hfree' (ready_mono hr (Ne.symm hji)) h3.1 (hS' w' h3.2.1) ?_⟩) h2
      rw [Array.setIfInBounds_comm _ _ hji]
      exact h3.2.2
end
/-- The walk of such a region. -/
def GateV (c0 : Ctx) (P : Program) (n : Nat) (ops : Array Oper) (t : Nat) (S : World → Prop) (u : Nat) (T : World → Prop) (fuel : Nat) (listed : Array Bool) (F : Fr) (w : World) (K : Fr → World → Prop) : Prop :=
  ∀ a Q, Sim c0 n a F → ClosedL .any ops listed → (∀ a' F' w', Sim c0 n a' F' → K F' w' → Q Exit.normal a' w') → (∀ c a w, ¬ Q (.panic c) a w) → wpAnyV c0.fence 0 P .any ops Q t S u T fuel listed a w
def OneV (c0 : Ctx) (P : Program) (n : Nat) (ops : Array Oper) (F : Fr) (w : World) (i : Nat) (K : Fr → World → Prop) : Prop :=
  ∀ a Q, Sim c0 n a F → (∀ c a w, ¬ Q (Exit.panic c) a w) → ∀ K' : Act → World → Prop, (∀ a' F' w', Sim c0 n a' F' → K F' w' → K' a' w') → wpOpIn c0.fence 0 P ops Q i K' a w
section
variable {c0 : Ctx} {P : Program} {n : Nat} {ops : Array Oper} {t u : Nat} {S T : World → Prop} {F : Fr} {w : World} {K : Fr → World → Prop} {fuel : Nat} {listed : Array Bool}
theorem one_ofV {o : Oper} {i : Nat} (hi : ops[i]? = some o) (h : OpsW true c0 P n ops [o] F w K) : OneV c0 P n ops F w i K := by
  intro a Q hs hp K' hk
  have h1 : wpListIn c0.fence 0 P ops (fun e a' w' => e = .normal ∧ K' a' w') [o] a w := h a (fun e a' w' => e = .normal ∧ K' a' w') hs (fun a' F' w' hs' hK => ⟨rfl, hk _ _ _ hs' hK⟩)
  unfold wpOpIn
  simp only [hi]
  simp only [wpListIn] at h1
  split
  · rename_i hw
    rw [if_pos hw] at h1
    refine ⟨h1.1, ?_⟩
    have h1 := h1.2
    generalize (o.semAt c0.fence.round a.eval).run P w = r at *
    cases r with
    | ok nx w' =>
      cases nx <;> simp only [Oper.uponIn] at h1 ⊢ <;> first | exact h1.2 | skip
      · refine ⟨h1.1, CallsIn.mono h1.2 fun e w'' he => ?_⟩
        cases e with
        | returned u => exact he.2
        | panicked c => exact absurd he.1 (by simp)
        | outgrown => obtain ⟨a0, w0, h2, _⟩ := he; cases h2
      · refine ⟨h1.1, RoundIn.mono h1.2 fun e w'' he => ?_⟩
        cases e with
        | returned u => exact he.2
        | panicked c => exact absurd he.1 (by simp)
        | outgrown => obtain ⟨a0, w0, h2, _⟩ := he; cases h2
      · exact ⟨h1.1, RowsIn.mono h1.2 fun u w'' he => he.2⟩
    | halt x w' =>
      cases x <;> simp only [Oper.uponIn] at h1 ⊢
      exact absurd h1.1 (by simp)
  · rename_i hw
    rw [if_neg hw] at h1
    exact ⟨h1.1, h1.2.2⟩
theorem W_gateV {id : Nat} {l : List Oper} {Q : Exit → Fr → World → Prop} (t u : Nat) (S T : World → Prop) (hm : P.follows .mixedOrders = true) (hS : S { w with drawn := w.drawn + 1 } ∧ T { w with drawn := w.drawn + 1 })
    (h : S { w with drawn := w.drawn + 1 } ∧ T { w with drawn := w.drawn + 1 } → GateV c0 P n l.toArray t S u T l.length (Array.replicate l.length false) F { w with drawn := w.drawn + 1 } (fun F' w' => Q .normal F' w')) : W c0 P n (.region id l.toArray true) F w Q := by
  intro a ha
  have h1 := h hS a (NoPanic (Post c0 n Q)) ha (by have := ClosedL.start (md := .any) (ops := l.toArray); simpa using this) (fun a' F' w' hs hK => .inl ⟨F', hs, hK⟩) (fun c a w h => h)
  refine Code.wpIn_mono (Q := NoPanic (Post c0 n Q)) (fun e a w h => ?_) (wpIn_region_any hm (wpAny_of_gateV (t := t) (S := S) (u := u) (T := T) _ _ _ _ (by simpa using h1)))
  cases e <;> first | exact h | exact h.elim
theorem gv_done (hr : Region.ready .any ops listed = []) (h : K F w) : GateV c0 P n ops t S u T fuel listed F w K := fun a Q hs _ hk hp => by
  cases fuel with
  | zero => exact ⟨hr, hk _ _ _ hs h⟩
  | succ f => exact ⟨fun _ => hk _ _ _ hs h, by rw [hr]; simp⟩
theorem gv_takeR {o : Oper} {v : Value} {R : World → Prop} (i : Nat) (hi : ops[i]? = some o) (hn : (Region.noSelect ops && noDefer ops) = true) (hf : Region.free .any ops listed i = true) (hr : (Region.ready .any ops listed).contains i = true) (hw : (!Nat.beq i t && !Nat.beq i u) = true)
    (hR : ∀ (L : Array Bool) w, ClosedL .any ops L → L.getD i true = false → condG t S u T L w → R w)
    (hg : wantedF ops F o = true) (hy : ∀ w, R w → Run1 P F o w v w) (hS : S w ∧ T w) (h : GateV c0 P n ops t S u T fuel (listed.setIfInBounds i true) (updo n F o.dst v) w K) : GateV c0 P n ops t S u T (fuel + 1) listed F w K := by
  intro a Q hs hc hk hp
  simp only [Bool.and_eq_true, Bool.not_eq_true'] at hw hn
  have hir : i ∈ Region.ready .any ops listed := by simpa using hr
  have hit : i ≠ t := fun e => by have := hw.1; rw [e, Nat.beq_refl] at this; cases this
  have hiu : i ≠ u := fun e => by have := hw.2; rw [e, Nat.beq_refl] at this; cases this
  refine wpAnyV_first (fun _ => trivial) hn.2 hi (Region.noSelect_spec hn.1) (fun c a w h => (hp _ _ _ h).elim) hR hit hiu fuel listed a w hc (Region.free_spec hi hf) hir (.inl ⟨by rw [wanted_eq hs]; exact hg, fun w hw => by rw [hs.eval]; exact (hy w hw : (execOp (ev F) o).run P w = .ok (.value v) w)⟩) ⟨fun _ => hS.1, fun _ => hS.2⟩ ?_
  exact h _ Q (hs.put o.dst v) (hc.set hir) hk hp
/-- What is read ahead of the first gate. -/
theorem gvS_run {op : Op} {d : Tmp} {v : Value} {ty : TypeId} {pos : String} {after : Array Edge} {g : Option (Nat × Bool)} (i : Nat) (hy : ∀ w, S w → Run1 P F ⟨some d, op, ty, pos, after, g⟩ w v w) (hi : ops[i]? = some ⟨some d, op, ty, pos, after, g⟩) (hn : (Region.noSelect ops && noDefer ops) = true) (hf : Region.free .any ops listed i = true) (hr : (Region.ready .any ops listed).contains i = true) (hw : (!Nat.beq i t && !Nat.beq i u) = true) (hwt : waitsN .any ops ops.size t i = true)
    (hg : wantedF ops F ⟨some d, op, ty, pos, after, g⟩ = true) (hS : S w ∧ T w) (h : GateV c0 P n ops t S u T fuel (listed.setIfInBounds i true) (upd n F d v) w K) : GateV c0 P n ops t S u T (fuel + 1) listed F w K :=
  gv_takeR (R := S) i hi hn hf hr hw (fun L w hc hl hC => hC.1 (hc.gate hl _ t hwt)) hg hy hS h
/-- What is read ahead of the second gate. -/
theorem gvT_run {op : Op} {d : Tmp} {v : Value} {ty : TypeId} {pos : String} {after : Array Edge} {g : Option (Nat × Bool)} (i : Nat) (hy : ∀ w, T w → Run1 P F ⟨some d, op, ty, pos, after, g⟩ w v w) (hi : ops[i]? = some ⟨some d, op, ty, pos, after, g⟩) (hn : (Region.noSelect ops && noDefer ops) = true) (hf : Region.free .any ops listed i = true) (hr : (Region.ready .any ops listed).contains i = true) (hw : (!Nat.beq i t && !Nat.beq i u) = true) (hwu : waitsN .any ops ops.size u i = true)
    (hg : wantedF ops F ⟨some d, op, ty, pos, after, g⟩ = true) (hS : S w ∧ T w) (h : GateV c0 P n ops t S u T fuel (listed.setIfInBounds i true) (upd n F d v) w K) : GateV c0 P n ops t S u T (fuel + 1) listed F w K :=
  gv_takeR (R := T) i hi hn hf hr hw (fun L w hc hl hC => hC.2 (hc.gate hl _ u hwu)) hg hy hS h
/-- What hangs on no world. -/
theorem gvP_run {op : Op} {d : Tmp} {v : Value} {ty : TypeId} {pos : String} {after : Array Edge} {g : Option (Nat × Bool)} (i : Nat) (hy : ∀ w, True → Run1 P F ⟨some d, op, ty, pos, after, g⟩ w v w) (hi : ops[i]? = some ⟨some d, op, ty, pos, after, g⟩) (hn : (Region.noSelect ops && noDefer ops) = true) (hf : Region.free .any ops listed i = true) (hr : (Region.ready .any ops listed).contains i = true) (hw : (!Nat.beq i t && !Nat.beq i u) = true)
    (hg : wantedF ops F ⟨some d, op, ty, pos, after, g⟩ = true) (hS : S w ∧ T w) (h : GateV c0 P n ops t S u T fuel (listed.setIfInBounds i true) (upd n F d v) w K) : GateV c0 P n ops t S u T (fuel + 1) listed F w K :=
  gv_takeR (R := fun _ => True) i hi hn hf hr hw (fun L w hc hl hC => trivial) hg hy hS h
section
variable {d s : Tmp} {v : Value} {ty : TypeId} {pos : String} {after : Array Edge} {g : Option (Nat × Bool)}
theorem gvP_mvt (i : Nat) (hi : ops[i]? = some ⟨some d, .move (.tmp s), ty, pos, after, g⟩) (hn : (Region.noSelect ops && noDefer ops) = true) (hf : Region.free .any ops listed i = true) (hr : (Region.ready .any ops listed).contains i = true) (hw : (!Nat.beq i t && !Nat.beq i u) = true)
    (hg : wantedF ops F ⟨some d, .move (.tmp s), ty, pos, after, g⟩ = true) (hS : S w ∧ T w) (h : GateV c0 P n ops t S u T fuel (listed.setIfInBounds i true) (updc n F d s) w K) : GateV c0 P n ops t S u T (fuel + 1) listed F w K :=
  gvP_run i (fun _ _ => r_move) hi hn hf hr hw hg hS (by rw [updc_eq] at h; exact h)
theorem gvP_ast (i : Nat) (hi : ops[i]? = some ⟨some d, .assign (.tmp s), ty, pos, after, g⟩) (hn : (Region.noSelect ops && noDefer ops) = true) (hf : Region.free .any ops listed i = true) (hr : (Region.ready .any ops listed).contains i = true) (hw : (!Nat.beq i t && !Nat.beq i u) = true)
    (hg : wantedF ops F ⟨some d, .assign (.tmp s), ty, pos, after, g⟩ = true) (hS : S w ∧ T w) (h : GateV c0 P n ops t S u T fuel (listed.setIfInBounds i true) (updc n F d s) w K) : GateV c0 P n ops t S u T (fuel + 1) listed F w K :=
  gvP_run i (fun _ _ => r_assign) hi hn hf hr hw hg hS (by rw [updc_eq] at h; exact h)
end
/-- Only one may come up, ahead of the gates. -/
theorem gv_one (i : Nat) (hr : Region.ready .any ops listed = [i]) (h : OneV c0 P n ops F w i (fun F' w' => (S w' ∧ T w') ∧ (S w' ∧ T w' → GateV c0 P n ops t S u T fuel (listed.setIfInBounds i true) F' w' K))) : GateV c0 P n ops t S u T (fuel + 1) listed F w K := by
  intro a Q hs hc hk hp
  refine ⟨fun h0 => (by rw [hr] at h0; cases h0), fun j hj => ?_⟩
  rw [hr, List.mem_singleton] at hj
  subst hj
  exact h a Q hs hp _ fun a' F' w' hs' ⟨hS', hA⟩ => ⟨⟨fun _ => hS'.1, fun _ => hS'.2⟩, hA hS' a' Q hs' (hc.set (by rw [hr]; simp)) hk hp⟩
/-- Two may come up, ahead of the gates. -/
theorem gv_two (i j : Nat) (hr : Region.ready .any ops listed = [i, j]) (h1 : OneV c0 P n ops F w i (fun F' w' => (S w' ∧ T w') ∧ (S w' ∧ T w' → GateV c0 P n ops t S u T fuel (listed.setIfInBounds i true) F' w' K)))
    (h2 : OneV c0 P n ops F w j (fun F' w' => (S w' ∧ T w') ∧ (S w' ∧ T w' → GateV c0 P n ops t S u T fuel (listed.setIfInBounds j true) F' w' K))) : GateV c0 P n ops t S u T (fuel + 1) listed F w K := by
  intro a Q hs hc hk hp
  refine ⟨fun h0 => (by rw [hr] at h0; cases h0), fun k hj => ?_⟩
  have hj' := hj
  rw [hr, List.mem_cons, List.mem_singleton] at hj
  rcases hj with rfl | rfl
  · exact h1 a Q hs hp _ fun a' F' w' hs' ⟨hS', hA⟩ => ⟨⟨fun _ => hS'.1, fun _ => hS'.2⟩, hA hS' a' Q hs' (hc.set hj') hk hp⟩
  · exact h2 a Q hs hp _ fun a' F' w' hs' ⟨hS', hA⟩ => ⟨⟨fun _ => hS'.1, fun _ => hS'.2⟩, hA hS' a' Q hs' (hc.set hj') hk hp⟩
/-- The first gate, and what comes up between the gates. -/
theorem gv_mid (i : Nat) (hr : Region.ready .any ops listed = [i]) (hg : (listed.setIfInBounds i true).getD t true = true) (h : OneV c0 P n ops F w i (fun F' w' => T w' ∧ (T w' → GateV c0 P n ops t S u T fuel (listed.setIfInBounds i true) F' w' K))) : GateV c0 P n ops t S u T (fuel + 1) listed F w K := by
  intro a Q hs hc hk hp
  refine ⟨fun h0 => (by rw [hr] at h0; cases h0), fun j hj => ?_⟩
  rw [hr, List.mem_singleton] at hj
  subst hj
  exact h a Q hs hp _ fun a' F' w' hs' ⟨hS', hA⟩ => ⟨⟨fun h => (by rw [hg] at h; cases h), fun _ => hS'⟩, hA hS' a' Q hs' (hc.set (by rw [hr]; simp)) hk hp⟩
/-- Both gates are passed. -/
theorem gv_past (i : Nat) (hr : Region.ready .any ops listed = [i]) (hg : ((listed.setIfInBounds i true).getD t true && (listed.setIfInBounds i true).getD u true) = true) (h : OneV c0 P n ops F w i (fun F' w' => GateV c0 P n ops t S u T fuel (listed.setIfInBounds i true) F' w' K)) : GateV c0 P n ops t S u T (fuel + 1) listed F w K := by
  intro a Q hs hc hk hp
  rw [Bool.and_eq_true] at hg
  refine ⟨fun h0 => (by rw [hr] at h0; cases h0), fun j hj => ?_⟩
  rw [hr, List.mem_singleton] at hj
  subst hj
  exact h a Q hs hp _ fun a' F' w' hs' hA => ⟨⟨fun h => (by rw [hg.1] at h; cases h), fun h => (by rw [hg.2] at h; cases h)⟩, hA a' Q hs' (hc.set (by rw [hr]; simp)) hk hp⟩
end
end Go.Proofs.YtpiidddccmohdabDoor.B
