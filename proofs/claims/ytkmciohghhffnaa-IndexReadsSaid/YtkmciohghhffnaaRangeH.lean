/-
  Ranges over functions whose iterator writes the first block that it makes; what has come so far is told as a list (the order is drawn).
-/
import Derived.Test.YtkmciohghhffnaaRangeO
namespace Go.Proofs.Ytkmciohghhffnaa.B
open Go Go.RowKit
set_option linter.unusedVariables false
/-- What such an iterator promises: fewer than N have come ahead of each round; in the end what has come is one of Fin. -/
def SeqH {α : Type} (P : Program) (gf : FuncId) (lb : Array Value) (enc : α → Array Value) (N : Nat) (Fin : List α → Prop) (R : World → Prop) : Prop :=
  ∀ (l : Nat) (J : List α → World → Prop) (Jx : World → Prop) (w : World),
    (∀ k w1, J k w1 → R w1) → (∀ k w1 w2, J k w1 → Keep (· ≠ w.heap.size) w1 w2 → J k w2) → (∀ w1 w2, Jx w1 → Keep (· ≠ w.heap.size) w1 w2 → Jx w2) →
    (∀ k x w0 w1, J k w0 → w.heap.size < w0.heap.size → Keep (· ≠ w.heap.size) w0 w1 → k.length < N → YieldsB P l (enc x) w1 fun b w2 => (b = true → J (k ++ [x]) w2 ∧ Keep (fun b => b = w.heap.size ∨ (w0.heap.size ≤ b ∧ b < w1.heap.size)) w1 w2) ∧ (b = false → Jx w2)) →
    J [] w → Ret P gf (#[.func (.yield l) #[] #[]] ++ lb) w fun _ w' => (∃ k, Fin k ∧ J k w') ∨ Jx w'
theorem W_rangeH {P : Program} {n : Nat} {F : Fr} {w : World} {fn : Func} {S : Value → World → Prop} {Q : Exit → Fr → World → Prop} {g : Operand} {ps : Array Tmp} {assign body y : Code} {id : Nat} {gf : FuncId} {lb : Array Value} {N : Nat} {α : Type} {enc : α → Array Value} {Fin : List α → Prop} {R : World → Prop}
    (hg : ev F g = .func (.func gf) #[] lb) (hgf : isFn P gf = true) (hseq : SeqH P gf lb enc N Fin R) (hE : ∀ x, (enc x).size = ps.size)
    (I : List α → World → Prop) (Ix : Exit → World → Prop)
    (hIR : ∀ k w, I k w → R w) (hI : ∀ k w1 w2, I k w1 → Keep (fun b => b ≠ w.heap.size + 1 ∧ b ≠ w.heap.size + 2) w1 w2 → I k w2) (hIx : ∀ e w1 w2, Ix e w1 → Keep (fun b => b ≠ w.heap.size + 1 ∧ b ≠ w.heap.size + 2) w1 w2 → Ix e w2)
    (h0 : ∀ w', Keep All w w' → w'.heap.size = w.heap.size + 2 → I [] w')
    (hbody : ∀ k x w0 w1, I k w0 → I k w1 → Keep (· ≠ w.heap.size + 2) w0 w1 → k.length < N → w.heap.size + 3 ≤ w0.heap.size →
      W (Ctx.inRound (w.heap.size + 1)) P n assign (bindF n F (ps.toList.zip (enc x).toList)) w1 (thenW (fun F1 w2 => Keep (fun b => b = w.heap.size ∨ b = w.heap.size + 1 ∨ b = w.heap.size + 2 ∨ (w0.heap.size ≤ b ∧ b < w1.heap.size)) w1 w2 ∧
        ∀ w3, Keep (· ≠ w.heap.size + 1) w2 w3 → w3.heap.size = w2.heap.size → W (Ctx.inRound (w.heap.size + 1)) P n body F1 w3 (roundQO (I (k ++ [x])) Ix w.heap.size w0.heap.size w1.heap.size w3)) (fun _ _ _ => False)))
    (hdone : ∀ w1, ((∃ k, Fin k ∧ I k w1) ∨ Ix (.exit id) w1) → w1.heap[w.heap.size]? = some (.deferred (some [])) → W (Ctx.marked w.heap.size) P n y F w1 (retM P fn S w.heap.size))
    (hret : ∀ w1, Ix .ret w1 → w1.heap[w.heap.size]? = some (.deferred (some [])) → retP P fn S .ret F (w1.putObj w.heap.size (.deferred none)))
    (hother : ∀ j w1, Ix (.exit j) w1 → j = id) :
    W2 (Ctx.outer P fn S) P n (.block id (.rangeFunc g ps assign body)) y F w Q := by
  intro a ha
  have ha' : Sim (Ctx.outer P fn S) n a F := ha
  have hdef : a.defers = [] := ha.defers
  refine wpIn_block ?_
  have hbeh : ∀ w1, ((∃ k, Fin k ∧ I k w1) ∨ Ix (.exit id) w1) → w1.heap[w.heap.size]? = some (.deferred (some [])) → y.wpIn Fence.wide 0 P (Post (Ctx.outer P fn S) n Q) { a with defers := mark w.heap.size :: a.defers } w1 := fun w1 h1 h2 => by
    have hs1 : Sim (Ctx.marked w.heap.size) n { a with defers := mark w.heap.size :: a.defers } F := ⟨by simp [hdef], ha.size, ha.val⟩
    refine wpIn_mono (hdone w1 h1 h2 _ hs1) ?_
    rintro e a' w' (⟨F', hs, hq⟩ | ⟨_, hq⟩)
    · cases e with
      | ret =>
        obtain ⟨hD, v, hr, hS⟩ := hq
        exact .inr ⟨rfl, w.heap.size, hs.defers, hD, v, hr _ hs.val, hS⟩
      | normal => exact hq.elim
      | exit id => exact hq.elim
      | goto l => exact hq.elim
      | panic c => exact hq.elim
      | outgrown => exact hq.elim
    · exact hq.elim
  refine wpIn_rangeFunc fun f _ => ?_
  obtain ⟨rec, hrec⟩ : ∃ rec : LoopState → Option Code → Loop, rec = fun s p => { state := s, pending := p, fn := f, tmps := a.tmps, params := ps, assign, body, defers := w.heap.size } := ⟨_, rfl⟩
  obtain ⟨W1, hW1⟩ : ∃ W1, (w.alloc (.deferred (some []))).alloc (.loop (rec .ready none)) = W1 := ⟨_, rfl⟩
  have hL1 : W1.heap[w.heap.size + 1]? = some (.loop (rec .ready none)) := by
    rw [← hW1]; have h := World.alloc_heap_new (w.alloc (.deferred (some []))) (.loop (rec .ready none)); rwa [World.size_alloc] at h
  have hD1 : W1.heap[w.heap.size]? = some (.deferred (some [])) := by
    rw [← hW1]; exact (Below.heap_alloc _ _ _ (by rw [World.size_alloc]; omega)).trans (World.alloc_heap_new w _)
  have hk1 : Keep All w W1 := by rw [← hW1]; exact (Keep.alloc w _).trans (Keep.alloc _ _)
  have hs1 : W1.heap.size = w.heap.size + 2 := by rw [← hW1, World.size_alloc, World.size_alloc]
  have hge : a.eval g = .func (.func gf) #[] lb := by rw [ha'.eval]; exact hg
  have eg : ∀ args w, (callFunc gf args).run P w = .ok (.enter gf args) w := fun args w => run_callFunc hgf args w
  refine ⟨w.heap.size + 1, [mark w.heap.size], W1, { target := .fn (.func gf) lb, args := #[.func (.yield (w.heap.size + 1)) #[] #[]] }, W1, gf,
    #[.func (.yield (w.heap.size + 1)) #[] #[]] ++ lb, W1, ?_, ?_, fun _ _ => trivial, ?_, fun e => (by cases e), ?_⟩
  · rw [← hW1, hrec]; exact run_enterLoop_outer _ _ _ _ _
  · simp only [resolve, hge]
    simp [go_sem, Deferred.ofValue]
  · simp [invoke, go_sem, eg]
  refine callsIn_wide.2 (Calls.mono (hseq (w.heap.size + 1)
      (fun k W => I k W ∧ w.heap.size + 2 ≤ W.heap.size ∧ W.heap[w.heap.size + 1]? = some (.loop (rec .ready none)) ∧ W.heap[w.heap.size]? = some (.deferred (some [])))
      (fun W => ∃ e c, ((e = Exit.ret ∧ c = Code.ret) ∨ ∃ j, e = Exit.exit j ∧ c = Code.exit j) ∧ Ix e W ∧ W.heap[w.heap.size + 1]? = some (.loop (rec .done (some c))) ∧ W.heap[w.heap.size]? = some (.deferred (some [])))
      W1 (fun k W h => hIR k W h.1)
      (fun k W W' h hk => ⟨hI k W W' h.1 (hk.mono fun _ _ h => by rw [hs1]; exact h.2), Nat.le_trans h.2.1 hk.size, hk.get h.2.2.1 (by rw [hs1]; omega), hk.get h.2.2.2 (by rw [hs1]; omega)⟩)
      (fun W W' ⟨e, c, hc, h1, h2, h3⟩ hk => ⟨e, c, hc, hIx e W W' h1 (hk.mono fun _ _ h => by rw [hs1]; exact h.2), hk.get h2 (by rw [hs1]; omega), hk.get h3 (by rw [hs1]; omega)⟩)
      ?_ ⟨h0 W1 hk1 hs1, by omega, hL1, hD1⟩) ?_)
  · -- one round
    rintro k x W0 W ⟨hi0, hsz0, hl0, hD0⟩ hltW hkW hkN
    rw [hs1] at hkW hltW
    have hi : I k W := hI k W0 W hi0 (hkW.mono fun _ _ h => h.2)
    have hsz : w.heap.size + 2 ≤ W.heap.size := Nat.le_trans hsz0 hkW.size
    have hl := hkW.get hl0 (show w.heap.size + 1 ≠ w.heap.size + 2 by omega)
    have hD := hkW.get hD0 (show w.heap.size ≠ w.heap.size + 2 by omega)
    have hlt : w.heap.size + 1 < W.heap.size := by omega
    have hy := run_yield (P := P) (args := enc x) hl (by rw [hrec]; exact hE x)
    rw [hrec] at hy
    refine ⟨f, _, assign, body, hy, roundIn_of_wpIn trivial ?_⟩
    have hb := hbody k x W0 W hi0 hi hkW hkN (by omega)
    have hsim : Sim (Ctx.inRound (w.heap.size + 1)) n { tmps := (ps.zip (enc x)).foldl (fun t x => t.setIfInBounds x.1 x.2) a.tmps, defers := [] } (bindF n F (ps.toList.zip (enc x).toList)) := by
      have h := bindF_sim (c0 := Ctx.inRound (w.heap.size + 1)) (ps.toList.zip (enc x).toList) F { a with defers := [] } ⟨rfl, ha.size, ha.val⟩
      rw [← Array.foldl_toList, Array.toList_zip]; exact h
    refine wpIn_mono (hb _ hsim) ?_
    rintro e a1 W2 (⟨F1, hs2, hq⟩ | ⟨_, hq⟩)
    · cases e with
      | normal =>
        obtain ⟨hk2, hq⟩ := hq
        have hl2 := hk2.get hl (.inr (.inl rfl))
        have hD2 := hk2.get hD (.inl rfl)
        refine ⟨_, run_beginRound hl2 (by rw [hrec]), ?_⟩
        have hl3 : (W2.putObj (w.heap.size + 1) (.loop { rec .ready none with state := .busy })).heap[w.heap.size + 1]? = some (.loop { rec .ready none with state := .busy }) := World.putObj_heap_same (lt_of_get hl2)
        have hD3 : (W2.putObj (w.heap.size + 1) (.loop { rec .ready none with state := .busy })).heap[w.heap.size]? = some (.deferred (some [])) := (World.putObj_heap_other (by omega)).trans hD2
        refine wpIn_mono (hq _ (Keep.putObj W2 _ _) (by simp) a1 hs2) ?_
        have fin : ∀ (jump : Option Code) (W3 : World), Keep (fun b => b = w.heap.size ∨ b = w.heap.size + 1 ∨ b = w.heap.size + 2 ∨ (W0.heap.size ≤ b ∧ b < W.heap.size)) (W2.putObj (w.heap.size + 1) (.loop { rec .ready none with state := .busy })) W3 →
            (Instr.endRound (w.heap.size + 1) jump).run P W3 = .ok (.bool jump.isNone) (W3.putObj (w.heap.size + 1) (.loop (rec (if jump.isNone then .ready else .done) jump))) ∧
            (W3.putObj (w.heap.size + 1) (.loop (rec (if jump.isNone then .ready else .done) jump))).heap[w.heap.size + 1]? = some (.loop (rec (if jump.isNone then .ready else .done) jump)) ∧
            (W3.putObj (w.heap.size + 1) (.loop (rec (if jump.isNone then .ready else .done) jump))).heap[w.heap.size]? = some (.deferred (some [])) ∧ w.heap.size + 2 ≤ W3.heap.size := fun jump W3 hk3 => by
          have hl4 := hk3.get hl3 (.inr (.inl rfl))
          have h := run_endRound (P := P) jump hl4
          rw [hrec] at h ⊢
          exact ⟨h, World.putObj_heap_same (lt_of_get hl4), (World.putObj_heap_other (by omega)).trans (hk3.get hD3 (.inl rfl)), by have := lt_of_get hl4; omega⟩
        rintro e a3 W3 (⟨F3, hs3, hp⟩ | ⟨_, hp⟩)
        · cases e with
          | normal =>
            obtain ⟨hk3, hi3⟩ := hp
            obtain ⟨hr, hl4, hD4, hz4⟩ := fin none W3 hk3
            exact ⟨_, _, hr, true, rfl, fun _ => ⟨⟨hI _ _ _ hi3 ((Keep.putObj _ _ _).mono fun _ _ h => h.1), by simpa using hz4, hl4, hD4⟩, by
              rw [hs1]
              exact (((hk2.mono fun _ _ h => .inr (.inr h)).trans ((Keep.putObj W2 _ _).mono fun z _ h => by omega)).trans (hk3.mono fun _ _ h => .inr (.inr h))).trans ((Keep.putObj _ _ _).mono fun z _ h => by omega)⟩, fun e => by cases e⟩
          | ret =>
            obtain ⟨hk3, hi3⟩ := hp
            obtain ⟨hr, hl4, hD4, hz4⟩ := fin (some .ret) W3 hk3
            exact ⟨_, _, hr, false, rfl, (fun e => by cases e), fun _ => ⟨_, _, .inl ⟨rfl, rfl⟩, hIx _ _ _ hi3 ((Keep.putObj _ _ _).mono fun _ _ h => h.1), hl4, hD4⟩⟩
          | exit j =>
            obtain ⟨hk3, hi3⟩ := hp
            obtain ⟨hr, hl4, hD4, hz4⟩ := fin (some (.exit j)) W3 hk3
            exact ⟨_, _, hr, false, rfl, (fun e => by cases e), fun _ => ⟨_, _, .inr ⟨j, rfl, rfl⟩, hIx _ _ _ hi3 ((Keep.putObj _ _ _).mono fun _ _ h => h.1), hl4, hD4⟩⟩
          | goto t => exact hp.elim
          | panic ch => exact hp.elim
          | outgrown => exact hp.elim
        · exact hp.elim
      | ret => exact hq.elim
      | exit j => exact hq.elim
      | goto t => exact hq.elim
      | panic ch => exact hq.elim
      | outgrown => exact hq.elim
    · exact hq.elim
  · -- behind the iterator
    subst hrec
    rintro e W2 ⟨v, rfl, hv⟩
    have hmk : ∀ x : List Deferred, [mark w.heap.size] ++ x = mark w.heap.size :: x := fun _ => rfl
    rcases hv with ⟨kk, hF, hi, hz, hl, hD⟩ | ⟨e, c, hc, hi, hl, hD⟩
    · refine ⟨none, _, run_endLoop (P := P) hl (by simp), ?_⟩
      exact wpIn_mono (hbeh _ (.inl ⟨kk, hF, hI _ _ _ hi ((Keep.putObj _ _ _).mono fun _ _ h => h.1)⟩) ((World.putObj_heap_other (by omega)).trans hD)) (fun _ _ _ h => h)
    · refine ⟨some c, _, run_endLoop (P := P) hl (by simp), ?_⟩
      have hD' := (World.putObj_heap_other (w := W2) (o := .loop { state := .exhausted, pending := some c, fn := f, tmps := a.tmps, params := ps, assign, body, defers := w.heap.size }) (show w.heap.size ≠ w.heap.size + 1 by omega)).trans hD
      rcases hc with ⟨rfl, rfl⟩ | ⟨j, rfl, rfl⟩
      · refine wpIn_ret ?_
        obtain ⟨v, hr, hS⟩ := hret _ (hIx _ _ _ hi ((Keep.putObj _ _ _).mono fun _ _ h => h.1)) hD'
        refine .inr ⟨rfl, w.heap.size, ?_, hD', v, hr _ ha.val, hS⟩
        simp [hdef]
      · obtain rfl := hother _ _ hi
        refine wpIn_exit ?_
        simp only [Exit.inBlock, if_true]
        exact hbeh _ (.inr (hIx _ _ _ hi ((Keep.putObj _ _ _).mono fun _ _ h => h.1))) hD'
end Go.Proofs.Ytkmciohghhffnaa.B
