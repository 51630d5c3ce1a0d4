/-
  One disk among other things.
-/
import Derived.Test.YtcbbodjcgjbfaaaDisk6
namespace Go.Proofs.Ytcbbodjcgjbfaaa.B
open Go
set_option linter.unusedVariables false
set_option maxHeartbeats 2000000
set_option maxRecDepth 100000
attribute [local irreducible] W OpsW OpsQ retP
theorem landL_other {kk : Nat → Nat} {L : List Sec} {T : List (Nat × Sec)} {p : Nat} (h : ∀ j (hj : j < T.length), T[j].1 ≠ p) : ∀ i, i ≤ T.length → (landL kk L T i)[p]? = L[p]?
  | 0, _ => rfl
  | i + 1, hi => by rw [landL_s (by omega), List.getElem?_set_ne (h i (by omega)), landL_other h i (by omega)]
/-- A disk in memory, apart from the blocks K. -/
def One (w : World) (K : Nat → Prop) (b N : Nat) (L : List Sec) (T : List (Nat × Sec)) (f : Nat) (w' : World) : Prop :=
  ∃ A : Nat → Prop, DkC w' b A N L T f ∧ (∀ j, A j → w.heap.size ≤ j ∧ j < w'.heap.size ∧ ¬ K j) ∧ (∀ j, K j → j < w'.heap.size) ∧ Keep All w w'
section
variable {w : World} {K : Nat → Prop} {b N : Nat} {L : List Sec} {T : List (Nat × Sec)} {f : Nat} {w' : World}
theorem One.kw (h : One w K b N L T f w') : Keep All w w' := by obtain ⟨_, _, _, _, h⟩ := h; exact h
theorem One.keep {w2 : World} (h : One w K b N L T f w') (hk : Keep All w' w2) : One w K b N L T f w2 := by
  obtain ⟨A, h1, h3, h5, h6⟩ := h
  have hs := hk.size
  exact ⟨A, h1.keep hk (fun _ _ => trivial), fun j hj => ⟨(h3 j hj).1, by have := (h3 j hj).2.1; omega, (h3 j hj).2.2⟩, fun j hj => by have := h5 j hj; omega, h6.trans hk⟩
theorem One.mono {K' : Nat → Prop} (h : One w K b N L T f w') (hK : ∀ j, K' j → K j) : One w K' b N L T f w' := by
  obtain ⟨A, h1, h3, h5, h6⟩ := h
  exact ⟨A, h1, fun j hj => ⟨(h3 j hj).1, (h3 j hj).2.1, fun h => (h3 j hj).2.2 (hK j h)⟩, fun j hj => h5 j (hK j hj), h6⟩
theorem One.fresh {wa wb : World} {b0 : Nat} (h : One w K b N L T f w') (hk : Keep All w' wa) (hb : w'.heap.size ≤ b0) (hk2 : Keep (· ≠ b0) wa wb) (hlt : b0 < wb.heap.size) : One w (fun j => K j ∨ j = b0) b N L T f wb := by
  obtain ⟨A, h1, h3, h5, h6⟩ := h
  have hs := hk.size
  have hs2 := hk2.size
  have h6s := h6.size
  refine ⟨A, (h1.keep hk (fun _ _ => trivial)).keep hk2 (fun j hj => by have := (h3 j hj).2.1; omega), fun j hj => ?_, fun j hj => ?_, (h6.trans hk).new hk2 (by omega)⟩
  · have := h3 j hj
    exact ⟨this.1, by omega, fun h => h.elim this.2.2 (fun e => by omega)⟩
  · rcases hj with hj | hj
    · have := h5 j hj; omega
    · omega
theorem One.other {w2 : World} {b0 : Nat} (h : One w K b N L T f w') (hK : K b0) (hb : w.heap.size ≤ b0) (hk : Keep (· ≠ b0) w' w2) : One w K b N L T f w2 := by
  obtain ⟨A, h1, h3, h5, h6⟩ := h
  have hs := hk.size
  exact ⟨A, h1.keep hk (fun j hj e => (h3 j hj).2.2 (e ▸ hK)), fun j hj => ⟨(h3 j hj).1, by have := (h3 j hj).2.1; omega, (h3 j hj).2.2⟩, fun j hj => by have := h5 j hj; omega, h6.new hk hb⟩
theorem One.step {A : Nat → Prop} {A' : Nat → Prop} {L' : List Sec} {T' : List (Nat × Sec)} {f' : Nat} {w2 : World} (h3 : ∀ j, A j → w.heap.size ≤ j ∧ j < w'.heap.size ∧ ¬ K j) (h5 : ∀ j, K j → j < w'.heap.size) (h6 : Keep All w w')
    (hD : DkC w2 b A' N L' T' f') (hA' : ∀ j, A' j → A j ∨ w'.heap.size ≤ j) (hk : Keep (fun k => ¬ A k) w' w2) : One w K b N L' T' f' w2 ∧ Keep K w' w2 := by
  obtain ⟨A2, hD2, hA2⟩ := hD.shrink
  have hs := hk.size
  have h6s := h6.size
  refine ⟨⟨A2, hD2, fun j hj => ?_, fun j hj => by have := h5 j hj; omega, h6.outA hk (fun j hj => (h3 j hj).1)⟩, hk.mono fun k _ hk' hd => (h3 k hd).2.2 hk'⟩
  have hlt := (hA2 j hj).2
  rcases hA' j (hA2 j hj).1 with hd | hn
  · exact ⟨(h3 j hd).1, hlt, (h3 j hd).2.2⟩
  · exact ⟨by omega, hlt, fun hx => by have := h5 j hx; omega⟩
theorem One.write (h : One w K b N L T f w') (at_ : Int) (s : Sec) (hT : T.length < 1000000) :
    Ret Try.prog 7 [.pointer (some ⟨b, 0, none⟩), .int .i64 at_, .agg (secR s).toArray].toArray w' fun r w2 => r = .int .i64 (if 0 ≤ at_ ∧ at_ < N then 0 else 2) ∧
      One w K b N L (if (0 ≤ at_ ∧ at_ < N) ∧ f ≠ 1 then T ++ [(at_.toNat, s)] else T) (if (0 ≤ at_ ∧ at_ < N) ∧ f ≠ 1 then f - 1 else f) w2 ∧ Keep K w' w2 := by
  obtain ⟨A, h1, h3, h5, h6⟩ := h
  refine Calls.mono (dk_Write w' b A N L T f at_ s h1 (fun k hk => (h3 k hk).2.1) hT) fun e w2 ⟨u, he, hu, hD, hk⟩ => ⟨u, he, hu, ?_⟩
  exact One.step h3 h5 h6 hD (fun j hj => hj) hk
end
end Go.Proofs.Ytcbbodjcgjbfaaa.B
