/-
  A region that draws its order, some of whose operations write or make memory: what only reads is taken first, the rest in whatever order it may come up.
-/
import Derived.Test.YtkmciohghhffnaaTys
import Derived.OrdersHeld
import Derived.Deep.RegionHeld3
import Derived.StillTail
namespace Go.Proofs.Ytkmciohghhffnaa.B
open Go
set_option linter.unusedVariables false
/-! ### Reads in any order, the tail in its own -/
theorem still_of_quiet {P : Program} {ops : Array Oper} {w1 : World} {Q : Act → Prop} : ∀ (l : List Oper) (a : Act), wpQuiet P ops (fun w' => w' = w1) Q l a → wpStill P ops w1 Q l a
  | [], a, h => h
  | o :: l, a, h => by
    simp only [wpQuiet] at h
    simp only [wpStill]
    split
    · rename_i hw
      rw [if_pos hw] at h
      obtain ⟨v, h1, h2⟩ := h
      have h3 := h1 w1 rfl
      unfold Oper.quietAt Oper.quietUpon at h3
      unfold Oper.still Oper.stillUpon
      split at h3
      · rename_i he; rw [he]; obtain ⟨rfl, rfl⟩ := h3; exact ⟨rfl, still_of_quiet l _ h2⟩
      · rename_i he; rw [he]; obtain ⟨rfl, rfl⟩ := h3; exact ⟨rfl, still_of_quiet l _ h2⟩
      · rename_i he; rw [he]
        obtain ⟨rfl, h4⟩ := h3
        exact ⟨rfl, v, h4, still_of_quiet l _ h2⟩
      · exact h3.elim
    · rename_i hw
      rw [if_neg hw] at h
      exact still_of_quiet l _ h
theorem still1 {P : Program} {F : Fr} {o : Oper} {w1 : World} {v : Value} (h : Run1 P F o w1 v w1) : ∀ w, w = w1 → Run1 P F o w v w := fun w e => by subst e; exact h
theorem W_tail {ds : List Deferred} {alt : Act → World → Prop} {P : Program} {n : Nat} {F : Fr} {w : World} {id : Nat} {l : List Oper} {Q : Exit → Fr → World → Prop} (m : Nat) (hm : P.follows .mixedOrders = true) (hB : Region.lexTailB .any l.toArray m = true)
    (h : ∀ w1, Keep All w w1 → w1.heap.size = w.heap.size → OpsQ ⟨none, ds, alt⟩ P n l.toArray (fun w' => w' = w1) (l.take m) F (fun F' => OpsW false ⟨none, ds, alt⟩ P n l.toArray (l.drop m) F' w1 (fun F' w' => Q .normal F' w'))) : W ⟨none, ds, alt⟩ P n (.region id l.toArray true) F w Q := by
  intro a ha
  refine wpIn_wide.2 (wp_region_still_tail m hm hB ?_)
  refine still_of_quiet _ _ ?_
  exact h _ (Keep.drawn w) rfl a _ ha fun a' F' hs hK => hK a' _ hs fun a'' F'' w' hs' hQ => .inl ⟨F'', hs', hQ⟩
def AnyW (c0 : Ctx) (P : Program) (n : Nat) (ops : Array Oper) (S : World → Prop) (fuel : Nat) (listed : Array Bool) (F : Fr) (w : World) (K : Fr → World → Prop) : Prop :=
  ∀ a Q, Sim c0 n a F → (∀ a' F' w', Sim c0 n a' F' → K F' w' → Q Exit.normal a' w') → (∀ c a w, ¬ Q (.panic c) a w) → wpAnyH P .any ops Q S fuel listed a w
section
variable {c0 : Ctx} {P : Program} {n : Nat} {ops : Array Oper} {S : World → Prop} {F : Fr} {w : World} {K : Fr → World → Prop} {fuel : Nat} {listed : Array Bool}
theorem W_held {ds : List Deferred} {alt : Act → World → Prop} {id : Nat} {l : List Oper} {Q : Exit → Fr → World → Prop} (S : World → Prop) (hm : P.follows .mixedOrders = true) (hS : S { w with drawn := w.drawn + 1 })
    (h : S { w with drawn := w.drawn + 1 } → AnyW ⟨none, ds, alt⟩ P n l.toArray S l.length (Array.replicate l.length false) F { w with drawn := w.drawn + 1 } (fun F' w' => Q .normal F' w')) : W ⟨none, ds, alt⟩ P n (.region id l.toArray true) F w Q := by
  intro a ha
  refine wpIn_wide.2 (wp_region_noPanic (wp_region_held (S := S) hm ?_))
  have := h hS a (NoPanic (Post ⟨none, ds, alt⟩ n Q)) ha (fun a' F' w' hs hK => .inl ⟨F', hs, hK⟩) (fun c a w h => h)
  simpa using this
theorem any_done (hr : Region.ready .any ops listed = []) (h : K F w) : AnyW c0 P n ops S fuel listed F w K := fun a Q hs hk hp => wpAnyH_done hr (hk _ _ _ hs h) fuel
/-- Operation i, which only reads, is taken first. -/
theorem any_take {o : Oper} {v : Value} (i : Nat) (hi : ops[i]? = some o) (hn : Region.noSelect ops = true) (hf : Region.free .any ops listed i = true) (hr : (Region.ready .any ops listed).contains i = true)
    (hg : wantedF ops F o = true) (hy : ∀ w, S w → Run1 P F o w v w) (hS : S w) (h : AnyW c0 P n ops S fuel (listed.setIfInBounds i true) (updo n F o.dst v) w K) : AnyW c0 P n ops S (fuel + 1) listed F w K := by
  intro a Q hs hk hp
  refine wpAnyH_take hi hn hf hr (fun c a w h => (hp _ _ _ h).elim) (.inl ⟨by rw [wanted_eq hs]; exact hg, fun w hw => by rw [hs.eval]; exact (hy w hw : (execOp (ev F) o).run P w = .ok (.value v) w)⟩) hS ?_
  exact h _ Q (hs.put o.dst v) hk hp
theorem any_skip {o : Oper} (i : Nat) (hi : ops[i]? = some o) (hn : Region.noSelect ops = true) (hf : Region.free .any ops listed i = true) (hr : (Region.ready .any ops listed).contains i = true)
    (hg : wantedF ops F o = false) (hS : S w) (h : AnyW c0 P n ops S fuel (listed.setIfInBounds i true) (updo n F o.dst undef) w K) : AnyW c0 P n ops S (fuel + 1) listed F w K := by
  intro a Q hs hk hp
  refine wpAnyH_take hi hn hf hr (fun c a w h => (hp _ _ _ h).elim) (.inr ⟨by rw [wanted_eq hs]; exact hg, rfl⟩) hS ?_
  exact h _ Q (hs.put o.dst undef) hk hp
theorem a_split (t : Nat) (want : Bool) {b : Bool} (hv : F t = .bool b) (hy : b = want → AnyW c0 P n ops S fuel listed F w K) (hn : b = !want → AnyW c0 P n ops S fuel listed F w K) : AnyW c0 P n ops S fuel listed F w K := by
  by_cases h : b = want
  · exact hy h
  · exact hn (by cases b <;> cases want <;> simp_all)
section
variable {d s : Tmp} {v : Value} {ty : TypeId} {pos : String} {after : Array Edge} {g : Option (Nat × Bool)}
theorem any_mvt (i : Nat) (hi : ops[i]? = some ⟨some d, .move (.tmp s), ty, pos, after, g⟩) (hn : Region.noSelect ops = true) (hf : Region.free .any ops listed i = true) (hr : (Region.ready .any ops listed).contains i = true)
    (hg : wantedF ops F ⟨some d, .move (.tmp s), ty, pos, after, g⟩ = true) (hS : S w) (h : AnyW c0 P n ops S fuel (listed.setIfInBounds i true) (updc n F d s) w K) : AnyW c0 P n ops S (fuel + 1) listed F w K :=
  any_take i hi hn hf hr hg (fun _ _ => r_move) hS (by rw [updc_eq] at h; exact h)
theorem any_ast (i : Nat) (hi : ops[i]? = some ⟨some d, .assign (.tmp s), ty, pos, after, g⟩) (hn : Region.noSelect ops = true) (hf : Region.free .any ops listed i = true) (hr : (Region.ready .any ops listed).contains i = true)
    (hg : wantedF ops F ⟨some d, .assign (.tmp s), ty, pos, after, g⟩ = true) (hS : S w) (h : AnyW c0 P n ops S fuel (listed.setIfInBounds i true) (updc n F d s) w K) : AnyW c0 P n ops S (fuel + 1) listed F w K :=
  any_take i hi hn hf hr hg (fun _ _ => r_assign) hS (by rw [updc_eq] at h; exact h)
theorem any_run {op : Op} (i : Nat) (hy : ∀ w, S w → Run1 P F ⟨some d, op, ty, pos, after, g⟩ w v w) (hi : ops[i]? = some ⟨some d, op, ty, pos, after, g⟩) (hn : Region.noSelect ops = true) (hf : Region.free .any ops listed i = true) (hr : (Region.ready .any ops listed).contains i = true)
    (hg : wantedF ops F ⟨some d, op, ty, pos, after, g⟩ = true) (hS : S w) (h : AnyW c0 P n ops S fuel (listed.setIfInBounds i true) (upd n F d v) w K) : AnyW c0 P n ops S (fuel + 1) listed F w K :=
  any_take i hi hn hf hr hg hy hS h
end
/-- One operation at a time, in the way of 'OpsW'. -/
def OneW (c0 : Ctx) (P : Program) (n : Nat) (ops : Array Oper) (F : Fr) (w : World) (i : Nat) (K : Fr → World → Prop) : Prop :=
  ∀ a Q, Sim c0 n a F → (∀ c a w, ¬ Q (Exit.panic c) a w) → ∀ K' : Act → World → Prop, (∀ a' F' w', Sim c0 n a' F' → K F' w' → K' a' w') → wpOp P ops Q i K' a w
theorem one_of {o : Oper} {i : Nat} (hi : ops[i]? = some o) (h : OpsW false c0 P n ops [o] F w K) : OneW c0 P n ops F w i K := by
  intro a Q hs hp K' hk
  have h1 : wpList P ops (fun e a' w' => e = .normal ∧ K' a' w') [o] a w := h a (fun e a' w' => e = .normal ∧ K' a' w') hs (fun a' F' w' hs' hK => ⟨rfl, hk _ _ _ hs' hK⟩)
  unfold wpOp
  simp only [hi]
  simp only [wpList] at h1
  split
  · rename_i hw
    rw [if_pos hw] at h1
    rcases h1 with h1 | ⟨h1, a0, w0, h2, _⟩
    · left
      unfold Oper.wp at h1 ⊢
      generalize (execOp a.eval o).run P w = r at *
      cases r with
      | ok nx w' =>
        cases nx <;> simp only [Oper.upon] at h1 ⊢ <;> first | exact h1.2 | skip
        · refine Calls.mono h1 fun e w'' he => ?_
          cases e with
          | returned u => exact he.2
          | panicked c => exact absurd he.1 (by simp)
          | outgrown => obtain ⟨a0, w0, h2, _⟩ := he; cases h2
        · exact Rows.mono h1 fun u w'' he => he.2
      | halt x w' =>
        cases x <;> simp only [Oper.upon] at h1 ⊢
        exact absurd h1.1 (by simp)
    · cases h2
  · rename_i hw
    rw [if_neg hw] at h1
    exact h1.2
/-- Only one may come up. -/
theorem any_one (i : Nat) (hr : Region.ready .any ops listed = [i]) (h : OneW c0 P n ops F w i (fun F' w' => S w' ∧ (S w' → AnyW c0 P n ops S fuel (listed.setIfInBounds i true) F' w' K))) : AnyW c0 P n ops S (fuel + 1) listed F w K := by
  intro a Q hs hk hp
  refine wpAnyH_all hr (by simp) fun j hj => ?_
  simp only [List.mem_singleton] at hj
  subst hj
  exact h a Q hs hp _ fun a' F' w' hs' ⟨hS', hA⟩ => ⟨hS', hA hS' a' Q hs' hk hp⟩
/-- One of two may come up. -/
theorem any_two (i j : Nat) (hr : Region.ready .any ops listed = [i, j]) (h1 : OneW c0 P n ops F w i (fun F' w' => S w' ∧ (S w' → AnyW c0 P n ops S fuel (listed.setIfInBounds i true) F' w' K)))
    (h2 : OneW c0 P n ops F w j (fun F' w' => S w' ∧ (S w' → AnyW c0 P n ops S fuel (listed.setIfInBounds j true) F' w' K))) : AnyW c0 P n ops S (fuel + 1) listed F w K := by
  intro a Q hs hk hp
  refine wpAnyH_all hr (by simp) fun k hk' => ?_
  simp only [List.mem_cons, List.not_mem_nil, or_false] at hk'
  rcases hk' with rfl | rfl
  · exact h1 a Q hs hp _ fun a' F' w' hs' ⟨hS', hA⟩ => ⟨hS', hA hS' a' Q hs' hk hp⟩
  · exact h2 a Q hs hp _ fun a' F' w' hs' ⟨hS', hA⟩ => ⟨hS', hA hS' a' Q hs' hk hp⟩
end
end Go.Proofs.Ytkmciohghhffnaa.B
