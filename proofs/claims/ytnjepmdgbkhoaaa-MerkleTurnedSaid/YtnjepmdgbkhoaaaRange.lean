/-
  Ranges over functions: what an iterator promises, how a round is walked, and what stands behind the loop.
-/
import Derived.Test.YtnjepmdgbkhoaaaBuild
namespace Go.Proofs.Ytnjepmdgbkhoaaa.B
open Go Go.RowKit
set_option linter.unusedVariables false
def mark (D : Nat) : Deferred := { target := .collected D, args := #[] }
@[reducible] def Ctx.inRound (l : Nat) : Ctx := ⟨some l, [], fun _ _ => False⟩
@[reducible] def Ctx.marked (D : Nat) : Ctx := ⟨none, [mark D], fun _ _ => False⟩
/-- A call of yield: it tells whether to go on. -/
abbrev YieldsB (P : Program) (l : Nat) (args : Array Value) (w : World) (R : Bool → World → Prop) : Prop :=
  YieldAt Fence.wide 0 P l args w (fun e w' => ∃ b, e = .returned (.bool b) ∧ R b w')
section
variable {c0 : Ctx} {P : Program} {n : Nat} {ops : Array Oper} {F : Fr} {w : World} {K : Fr → World → Prop} {rest : List Oper} {dst : Option Tmp} {ty : TypeId} {pos : String} {after : Array Edge} {g : Option (Nat × Bool)}
theorem op_yield {f : Operand} {l : Nat} {xs : List Operand} {ts : Array TypeId} {R : Bool → World → Prop}
    (hf : ev F f = .func (.yield l) #[] #[])
    (hg : wantedF ops F ⟨dst, .call ⟨.value f, xs.toArray, ts⟩, ty, pos, after, g⟩ = true)
    (h : YieldsB P l (xs.map (ev F)).toArray w R)
    (hk : ∀ b w', R b w' → OpsW true c0 P n ops rest (updo n F dst (.bool b)) w' K) : OpsW true c0 P n ops (⟨dst, .call ⟨.value f, xs.toArray, ts⟩, ty, pos, after, g⟩ :: rest) F w K := by
  obtain ⟨fn, tmps, assign, body, hy, hR⟩ := h
  have hrun : (execOp (ev F) ⟨dst, .call ⟨.value f, xs.toArray, ts⟩, ty, pos, after, g⟩).run P w = .ok (.round l fn tmps assign body) w := by
    simp only [execOp, resolve, hf, Deferred.ofValue, invoke, List.map_toArray, bind, Sem.bind, pure]
    simpa using hy
  refine op_next hrun (fun d e => by cases e) hg ?_ (fun a Q hs hkk e => by cases e)
  intro a Q hs hkk _
  refine ⟨fun e => (by cases e), ?_⟩
  refine RoundIn.mono (show RoundIn c0.fence _ P l fn tmps assign body w _ from hR) ?_
  rintro e w' ⟨b, rfl, hb⟩
  exact hk b w' hb (a.put dst (.bool b)) Q (hs.put dst (.bool b)) hkk
end
/-- What an iterator promises: at most N rounds, in round k it hands over what E tells. -/
def SeqW (P : Program) (gf : FuncId) (lb : Array Value) (N : Nat) (E : Nat → Array Value → World → Prop) (R : World → Prop) : Prop :=
  ∀ (l : Nat) (J : Nat → World → Prop) (Jx : World → Prop) (w : World),
    (∀ k w, J k w → R w) → (∀ k w w', J k w → Keep All w w' → J k w') → (∀ w w', Jx w → Keep All w w' → Jx w') →
    (∀ k args w, J k w → k < N → E k args w → YieldsB P l args w fun b w' => (b = true → J (k + 1) w') ∧ (b = false → Jx w')) →
    J 0 w → Ret P gf (#[.func (.yield l) #[] #[]] ++ lb) w fun _ w' => J N w' ∨ Jx w'
/-- The frame in which a round begins. -/
def bindF (n : Nat) : Fr → List (Nat × Value) → Fr
  | F, [] => F
  | F, (t, v) :: l => bindF n (upd n F t v) l
theorem bindF_sim {c0 : Ctx} {n : Nat} : ∀ (l : List (Nat × Value)) (F : Fr) (a : Act), Sim c0 n a F → Sim c0 n { tmps := l.foldl (fun t x => t.setIfInBounds x.1 x.2) a.tmps, defers := a.defers } (bindF n F l)
  | [], F, a, h => h
  | (t, v) :: l, F, a, h => bindF_sim l (upd n F t v) (a.put (some t) v) (h.put (some t) v)
section
variable {P : Program} {n : Nat} {fn : Func} {S : Value → World → Prop}
/-- A return behind a range over a function: the mark is taken up. -/
@[reducible] def retM (P : Program) (fn : Func) (S : Value → World → Prop) (D : Nat) : Exit → Fr → World → Prop
  | .ret, F, w => w.heap[D]? = some (.deferred (some [])) ∧ retP P fn S .ret F (w.putObj D (.deferred none))
  | _, _, _ => False
def retAlt (P : Program) (fn : Func) (S : Value → World → Prop) : Act → World → Prop := fun a w =>
  ∃ D, a.defers = [mark D] ∧ w.heap[D]? = some (.deferred (some [])) ∧ ∃ v, (results fn a.tmps).run P (w.putObj D (.deferred none)) = .ok v (w.putObj D (.deferred none)) ∧ S v (w.putObj D (.deferred none))
abbrev Ctx.outer (P : Program) (fn : Func) (S : Value → World → Prop) : Ctx := ⟨none, [], retAlt P fn S⟩
theorem enterM {f : FuncId} {w : World} {c : Code} {args : List Value} (hf : P.funcs[f]? = some fn) (hb : fn.body = some c) (hn : fn.ntmps = n) (hle : args.length ≤ n) (h : W (Ctx.outer P fn S) P n c (args0 args) w (retP P fn S)) : Ret P f args.toArray w S := by
  refine (callsIn_wide (n := 0)).1 (callsIn_of_wp_marks hf hb trivial ?_)
  have hsim : Sim (Ctx.outer P fn S) n { tmps := args.toArray ++ Array.replicate (fn.ntmps - args.toArray.size) undef, defers := [] } (args0 args) := by
    refine ⟨rfl, by simp [hn]; omega, fun t => ?_⟩
    rw [← args0_eq]
    simp only [Array.getD_eq_getD_getElem?, List.getD_eq_getElem?_getD, Array.getElem?_append, List.getElem?_toArray, List.size_toArray]
    by_cases ht : t < args.length
    · simp [ht]
    · rw [if_neg ht, List.getElem?_eq_none (by omega), Array.getElem?_replicate]
      split <;> rfl
  refine wpIn_mono (h _ hsim) ?_
  rintro e a' w' (⟨F', hs, hq⟩ | ⟨rfl, D, hd, hD, v, hr, hS⟩)
  · have hds : a'.defers = [] := hs.defers
    cases e with
    | normal => obtain ⟨v, hr, hS⟩ := hq; show LeavesInM _ _ _ _ _ _ a'.defers _ _; rw [hds]; exact ⟨v, hr _ hs.val, v, rfl, hS⟩
    | ret => obtain ⟨v, hr, hS⟩ := hq; show LeavesInM _ _ _ _ _ _ a'.defers _ _; rw [hds]; exact ⟨v, hr _ hs.val, v, rfl, hS⟩
    | exit id => exact hq.elim
    | goto l => exact hq.elim
    | panic c => exact hq.elim
    | outgrown => exact hq.elim
  · show LeavesInM _ _ _ _ _ _ a'.defers _ _
    rw [hd]
    exact ⟨by simp, .inl ⟨D, _, rfl, run_takeDeferred hD, v, hr, v, rfl, hS⟩⟩
end
/-- How a round may be left. -/
@[reducible] def roundQ (I : World → Prop) (Ix : Exit → World → Prop) (D : Nat) (w : World) : Exit → Fr → World → Prop
  | .normal, _, w' => Keep (fun b => b = D ∨ b = D + 1) w w' ∧ I w'
  | .ret, _, w' => Keep (fun b => b = D ∨ b = D + 1) w w' ∧ Ix .ret w'
  | .exit j, _, w' => Keep (fun b => b = D ∨ b = D + 1) w w' ∧ Ix (.exit j) w'
  | _, _, _ => False
theorem Keep.putObj (w : World) (r : Nat) (o : Obj) : Keep (· ≠ r) w (w.putObj r o) := ⟨rfl, rfl, rfl, by simp, fun k _ hk => World.putObj_heap_other hk⟩
/-- A first part that may leave a mark behind, and the second part. -/
def W2 (c0 : Ctx) (P : Program) (n : Nat) (x y : Code) (F : Fr) (w : World) (Q : Exit → Fr → World → Prop) : Prop :=
  ∀ a, Sim c0 n a F → x.wpIn c0.fence 0 P (Exit.then (y.wpIn c0.fence 0 P (Post c0 n Q)) (Post c0 n Q)) a w
theorem W_seq2 {c0 : Ctx} {P : Program} {n : Nat} {x y : Code} {F : Fr} {w : World} {Q : Exit → Fr → World → Prop} (h : W2 c0 P n x y F w Q) : W c0 P n (.seq x y) F w Q := fun a ha => wpIn_seq (h a ha)
theorem W2_seq {c0 : Ctx} {P : Program} {n : Nat} {x b y : Code} {F : Fr} {w : World} {Q : Exit → Fr → World → Prop} (h : W c0 P n x F w (thenW (fun F w => W2 c0 P n b y F w Q) Q)) : W2 c0 P n (.seq x b) y F w Q := by
  intro a ha
  refine wpIn_seq (wpIn_mono (h a ha) ?_)
  rintro e a' w' (⟨F', hs, hQ⟩ | ⟨rfl, hr⟩)
  · cases e with
    | normal => exact hQ a' hs
    | exit id => exact .inl ⟨F', hs, hQ⟩
    | goto l => exact .inl ⟨F', hs, hQ⟩
    | ret => exact .inl ⟨F', hs, hQ⟩
    | panic c => exact .inl ⟨F', hs, hQ⟩
    | outgrown => exact .inl ⟨F', hs, hQ⟩
  · exact .inr ⟨rfl, hr⟩
theorem W_range {P : Program} {n : Nat} {F : Fr} {w : World} {fn : Func} {S : Value → World → Prop} {Q : Exit → Fr → World → Prop} {g : Operand} {ps : Array Tmp} {assign body y : Code} {id : Nat} {gf : FuncId} {lb : Array Value} {N : Nat} {E : Nat → Array Value → World → Prop} {R : World → Prop}
    (hg : ev F g = .func (.func gf) #[] lb) (hgf : isFn P gf = true) (hseq : SeqW P gf lb N E R) (hE : ∀ k args w, E k args w → args.size = ps.size)
    (I : Nat → World → Prop) (Ix : Exit → World → Prop)
    (hIR : ∀ k w, I k w → R w) (hI : ∀ k w1 w2, I k w1 → Keep (· ≠ w.heap.size + 1) w1 w2 → I k w2) (hIx : ∀ e w1 w2, Ix e w1 → Keep (· ≠ w.heap.size + 1) w1 w2 → Ix e w2)
    (h0 : ∀ w', Keep All w w' → w'.heap.size = w.heap.size + 2 → I 0 w')
    (hbody : ∀ k args w1, I k w1 → k < N → E k args w1 → w.heap.size + 2 ≤ w1.heap.size →
      W (Ctx.inRound (w.heap.size + 1)) P n assign (bindF n F (ps.toList.zip args.toList)) w1 (thenW (fun F1 w2 => Keep (fun b => b = w.heap.size ∨ b = w.heap.size + 1) w1 w2 ∧
        ∀ w3, Keep (· ≠ w.heap.size + 1) w2 w3 → w3.heap.size = w2.heap.size → W (Ctx.inRound (w.heap.size + 1)) P n body F1 w3 (roundQ (I (k + 1)) Ix w.heap.size w3)) (fun _ _ _ => False)))
    (hdone : ∀ w1, (I N w1 ∨ Ix (.exit id) w1) → w1.heap[w.heap.size]? = some (.deferred (some [])) → W (Ctx.marked w.heap.size) P n y F w1 (retM P fn S w.heap.size))
    (hret : ∀ w1, Ix .ret w1 → w1.heap[w.heap.size]? = some (.deferred (some [])) → retP P fn S .ret F (w1.putObj w.heap.size (.deferred none)))
    (hother : ∀ j w1, Ix (.exit j) w1 → j = id) :
    W2 (Ctx.outer P fn S) P n (.block id (.rangeFunc g ps assign body)) y F w Q := by
  intro a ha
  have ha' : Sim (Ctx.outer P fn S) n a F := ha
  have hdef : a.defers = [] := ha.defers
  refine wpIn_block ?_
  have hbeh : ∀ w1, (I N w1 ∨ Ix (.exit id) w1) → w1.heap[w.heap.size]? = some (.deferred (some [])) → y.wpIn Fence.wide 0 P (Post (Ctx.outer P fn S) n Q) { a with defers := mark w.heap.size :: a.defers } w1 := fun w1 h1 h2 => by
    have hs1 : Sim (Ctx.marked w.heap.size) n { a with defers := mark w.heap.size :: a.defers } F := ⟨by simp [hdef], ha.size, ha.val⟩
    refine wpIn_mono (hdone w1 h1 h2 _ hs1) ?_
    rintro e a' w' (⟨F', hs, hq⟩ | ⟨_, hq⟩)
    · cases e with
      | ret =>
        obtain ⟨hD, v, hr, hS⟩ := hq
        exact .inr ⟨rfl, w.heap.size, hs.defers, hD, v, hr _ hs.val, hS⟩
      | normal => exact hq.elim
      | exit id => exact hq.elim
      | goto l => exact hq.elim
      | panic c => exact hq.elim
      | outgrown => exact hq.elim
    · exact hq.elim
  refine wpIn_rangeFunc fun f _ => ?_
  obtain ⟨rec, hrec⟩ : ∃ rec : LoopState → Option Code → Loop, rec = fun s p => { state := s, pending := p, fn := f, tmps := a.tmps, params := ps, assign, body, defers := w.heap.size } := ⟨_, rfl⟩
  obtain ⟨W1, hW1⟩ : ∃ W1, (w.alloc (.deferred (some []))).alloc (.loop (rec .ready none)) = W1 := ⟨_, rfl⟩
  have hL1 : W1.heap[w.heap.size + 1]? = some (.loop (rec .ready none)) := by
    rw [← hW1]; have h := World.alloc_heap_new (w.alloc (.deferred (some []))) (.loop (rec .ready none)); rwa [World.size_alloc] at h
  have hD1 : W1.heap[w.heap.size]? = some (.deferred (some [])) := by
    rw [← hW1]; exact (Below.heap_alloc _ _ _ (by rw [World.size_alloc]; omega)).trans (World.alloc_heap_new w _)
  have hk1 : Keep All w W1 := by rw [← hW1]; exact (Keep.alloc w _).trans (Keep.alloc _ _)
  have hs1 : W1.heap.size = w.heap.size + 2 := by rw [← hW1, World.size_alloc, World.size_alloc]
  have hge : a.eval g = .func (.func gf) #[] lb := by rw [ha'.eval]; exact hg
  have eg : ∀ args w, (callFunc gf args).run P w = .ok (.enter gf args) w := fun args w => run_callFunc hgf args w
  refine ⟨w.heap.size + 1, [mark w.heap.size], W1, { target := .fn (.func gf) lb, args := #[.func (.yield (w.heap.size + 1)) #[] #[]] }, W1, gf,
    #[.func (.yield (w.heap.size + 1)) #[] #[]] ++ lb, W1, ?_, ?_, fun _ _ => trivial, ?_, fun e => (by cases e), ?_⟩
  · rw [← hW1, hrec]; exact run_enterLoop_outer _ _ _ _ _
  · simp only [resolve, hge]
    simp [go_sem, Deferred.ofValue]
  · simp [invoke, go_sem, eg]
  refine callsIn_wide.2 (Calls.mono (hseq (w.heap.size + 1)
      (fun k W => I k W ∧ w.heap.size + 2 ≤ W.heap.size ∧ W.heap[w.heap.size + 1]? = some (.loop (rec .ready none)) ∧ W.heap[w.heap.size]? = some (.deferred (some [])))
      (fun W => ∃ e c, ((e = Exit.ret ∧ c = Code.ret) ∨ ∃ j, e = Exit.exit j ∧ c = Code.exit j) ∧ Ix e W ∧ W.heap[w.heap.size + 1]? = some (.loop (rec .done (some c))) ∧ W.heap[w.heap.size]? = some (.deferred (some [])))
      W1 (fun k W h => hIR k W h.1)
      (fun k W W' h hk => ⟨hI k W W' h.1 (hk.mono fun _ _ _ => trivial), Nat.le_trans h.2.1 hk.size, hk.get h.2.2.1 trivial, hk.get h.2.2.2 trivial⟩)
      (fun W W' ⟨e, c, hc, h1, h2, h3⟩ hk => ⟨e, c, hc, hIx e W W' h1 (hk.mono fun _ _ _ => trivial), hk.get h2 trivial, hk.get h3 trivial⟩)
      ?_ ⟨h0 W1 hk1 hs1, by omega, hL1, hD1⟩) ?_)
  · -- one round
    rintro k args W ⟨hi, hsz, hl, hD⟩ hkN hEk
    have hlt : w.heap.size + 1 < W.heap.size := by omega
    have hy := run_yield (P := P) (args := args) hl (by rw [hrec]; exact hE k args W hEk)
    rw [hrec] at hy
    refine ⟨f, _, assign, body, hy, roundIn_of_wpIn trivial ?_⟩
    have hb := hbody k args W hi hkN hEk hsz
    have hsim : Sim (Ctx.inRound (w.heap.size + 1)) n { tmps := (ps.zip args).foldl (fun t x => t.setIfInBounds x.1 x.2) a.tmps, defers := [] } (bindF n F (ps.toList.zip args.toList)) := by
      have h := bindF_sim (c0 := Ctx.inRound (w.heap.size + 1)) (ps.toList.zip args.toList) F { a with defers := [] } ⟨rfl, ha.size, ha.val⟩
      rw [← Array.foldl_toList, Array.toList_zip]; exact h
    refine wpIn_mono (hb _ hsim) ?_
    rintro e a1 W2 (⟨F1, hs2, hq⟩ | ⟨_, hq⟩)
    · cases e with
      | normal =>
        obtain ⟨hk2, hq⟩ := hq
        have hl2 := hk2.get hl (.inr rfl)
        have hD2 := hk2.get hD (.inl rfl)
        refine ⟨_, run_beginRound hl2 (by rw [hrec]), ?_⟩
        have hl3 : (W2.putObj (w.heap.size + 1) (.loop { rec .ready none with state := .busy })).heap[w.heap.size + 1]? = some (.loop { rec .ready none with state := .busy }) := World.putObj_heap_same (lt_of_get hl2)
        have hD3 : (W2.putObj (w.heap.size + 1) (.loop { rec .ready none with state := .busy })).heap[w.heap.size]? = some (.deferred (some [])) := (World.putObj_heap_other (by omega)).trans hD2
        refine wpIn_mono (hq _ (Keep.putObj W2 _ _) (by simp) a1 hs2) ?_
        have fin : ∀ (jump : Option Code) (W3 : World), Keep (fun b => b = w.heap.size ∨ b = w.heap.size + 1) (W2.putObj (w.heap.size + 1) (.loop { rec .ready none with state := .busy })) W3 →
            (Instr.endRound (w.heap.size + 1) jump).run P W3 = .ok (.bool jump.isNone) (W3.putObj (w.heap.size + 1) (.loop (rec (if jump.isNone then .ready else .done) jump))) ∧
            (W3.putObj (w.heap.size + 1) (.loop (rec (if jump.isNone then .ready else .done) jump))).heap[w.heap.size + 1]? = some (.loop (rec (if jump.isNone then .ready else .done) jump)) ∧
            (W3.putObj (w.heap.size + 1) (.loop (rec (if jump.isNone then .ready else .done) jump))).heap[w.heap.size]? = some (.deferred (some [])) ∧ w.heap.size + 2 ≤ W3.heap.size := fun jump W3 hk3 => by
          have hl4 := hk3.get hl3 (.inr rfl)
          have h := run_endRound (P := P) jump hl4
          rw [hrec] at h ⊢
          exact ⟨h, World.putObj_heap_same (lt_of_get hl4), (World.putObj_heap_other (by omega)).trans (hk3.get hD3 (.inl rfl)), by have := lt_of_get hl4; omega⟩
        rintro e a3 W3 (⟨F3, hs3, hp⟩ | ⟨_, hp⟩)
        · cases e with
          | normal =>
            obtain ⟨hk3, hi3⟩ := hp
            obtain ⟨hr, hl4, hD4, hz4⟩ := fin none W3 hk3
            exact ⟨_, _, hr, true, rfl, fun _ => ⟨hI _ _ _ hi3 (Keep.putObj _ _ _), by simpa using hz4, hl4, hD4⟩, fun e => by cases e⟩
          | ret =>
            obtain ⟨hk3, hi3⟩ := hp
            obtain ⟨hr, hl4, hD4, hz4⟩ := fin (some .ret) W3 hk3
            exact ⟨_, _, hr, false, rfl, (fun e => by cases e), fun _ => ⟨_, _, .inl ⟨rfl, rfl⟩, hIx _ _ _ hi3 (Keep.putObj _ _ _), hl4, hD4⟩⟩
          | exit j =>
            obtain ⟨hk3, hi3⟩ := hp
            obtain ⟨hr, hl4, hD4, hz4⟩ := fin (some (.exit j)) W3 hk3
            exact ⟨_, _, hr, false, rfl, (fun e => by cases e), fun _ => ⟨_, _, .inr ⟨j, rfl, rfl⟩, hIx _ _ _ hi3 (Keep.putObj _ _ _), hl4, hD4⟩⟩
          | goto t => exact hp.elim
          | panic ch => exact hp.elim
          | outgrown => exact hp.elim
        · exact hp.elim
      | ret => exact hq.elim
      | exit j => exact hq.elim
      | goto t => exact hq.elim
      | panic ch => exact hq.elim
      | outgrown => exact hq.elim
    · exact hq.elim
  · -- behind the iterator
    subst hrec
    rintro e W2 ⟨v, rfl, hv⟩
    have hmk : ∀ x : List Deferred, [mark w.heap.size] ++ x = mark w.heap.size :: x := fun _ => rfl
    rcases hv with ⟨hi, hz, hl, hD⟩ | ⟨e, c, hc, hi, hl, hD⟩
    · refine ⟨none, _, run_endLoop (P := P) hl (by simp), ?_⟩
      exact wpIn_mono (hbeh _ (.inl (hI _ _ _ hi (Keep.putObj _ _ _))) ((World.putObj_heap_other (by omega)).trans hD)) (fun _ _ _ h => h)
    · refine ⟨some c, _, run_endLoop (P := P) hl (by simp), ?_⟩
      have hD' := (World.putObj_heap_other (w := W2) (o := .loop { state := .exhausted, pending := some c, fn := f, tmps := a.tmps, params := ps, assign, body, defers := w.heap.size }) (show w.heap.size ≠ w.heap.size + 1 by omega)).trans hD
      rcases hc with ⟨rfl, rfl⟩ | ⟨j, rfl, rfl⟩
      · refine wpIn_ret ?_
        obtain ⟨v, hr, hS⟩ := hret _ (hIx _ _ _ hi (Keep.putObj _ _ _)) hD'
        refine .inr ⟨rfl, w.heap.size, ?_, hD', v, hr _ ha.val, hS⟩
        simp [hdef]
      · obtain rfl := hother _ _ hi
        refine wpIn_exit ?_
        simp only [Exit.inBlock, if_true]
        exact hbeh _ (.inr (hIx _ _ _ hi (Keep.putObj _ _ _))) hD'
end Go.Proofs.Ytnjepmdgbkhoaaa.B
