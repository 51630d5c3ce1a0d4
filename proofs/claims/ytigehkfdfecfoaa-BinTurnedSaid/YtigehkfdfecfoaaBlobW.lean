/-
  BlobWrites: the walk.
-/
import Derived.Test.YtigehkfdfecfoaaBlobR
namespace Go.Proofs.Ytigehkfdfecfoaa.B
open Go
set_option linter.unusedVariables false
set_option maxHeartbeats 2000000
set_option maxRecDepth 100000
attribute [local irreducible] W OpsW OpsQ retP
/-- A sector that begins with two bytes. -/
def secE (x y : UInt8) : Sec := ⟨x :: y :: List.replicate 62 0, by simp⟩
theorem rowSl {w : World} {v : Value} {L : List Sec} {i : Nat} {s : Sec} (h : Sl w v L.length 64 (rows secR L)) (hs : L[i]? = some s) : ∃ b o c, v = .slice (some ⟨b, o, none⟩) L.length c ∧ ∀ (j : Nat) (u : Value), (secR s)[j]? = some u → w.cell? ((⟨b, o + i * 64, none⟩ : Addr).add j) = some u := by
  obtain ⟨a, c, rfl, _, _⟩ := h.form
  obtain ⟨hi, he⟩ := List.getElem?_eq_some_iff.1 hs
  obtain ⟨b, o, rfl, hc⟩ := rows_at' (i := i) secR_len h hi (by decide)
  rw [he] at hc
  exact ⟨b, o, c, rfl, hc⟩
section
variable {w : World} {K : Nat → Prop} {b N n : Nat} {M : List Sec} {w' : World}
theorem One.frame {L : List Sec} {T : List (Nat × Sec)} {f : Nat} {w2 : World} (h : One w K b N L T f w') (hk : Keep (· < w'.heap.size) w' w2) : One w (fun j => K j ∨ (w'.heap.size ≤ j ∧ j < w2.heap.size)) b N L T f w2 := by
  obtain ⟨A, h1, h3, h5, h6⟩ := h
  have hs := hk.size
  have h6s := h6.size
  refine ⟨A, h1.keep hk (fun j hj => (h3 j hj).2.1), fun j hj => ?_, fun j hj => ?_, h6.outA (B := fun j => ¬ j < w'.heap.size) (hk.mono fun j _ hj => Decidable.not_not.1 hj) (fun j hj => by omega)⟩
  · have := h3 j hj
    exact ⟨this.1, by omega, fun h => h.elim this.2.2 (fun e => by omega)⟩
  · rcases hj with hj | hj
    · have := h5 j hj; omega
    · omega
theorem DV.frame {w2 : World} (h : DV w K b N M n w') (hk : Keep (· < w'.heap.size) w' w2) : DV w (fun j => K j ∨ (w'.heap.size ≤ j ∧ j < w2.heap.size)) b N M n w2 := by
  obtain ⟨L, T, h1, h2⟩ := h; exact ⟨L, T, h1.frame hk, h2⟩
theorem DV.image (h : DV w K b N M n w') (hn : n < 1000000) :
    Ret Try.prog 11 [.pointer (some ⟨b, 0, none⟩)].toArray w' fun r w2 => Own w2 37 64 r M.length (rows secR M) ∧ Keep All w' w2 ∧ DV w (fun j => K j ∨ r.ownBlock = some j) b N M n w2 := by
  obtain ⟨L, T, h1, rfl, h3, h4⟩ := h
  exact (h1.image (by omega)).mono fun e w2 ⟨u, he, hO, _, _, hk, hD⟩ => ⟨u, he, hO, hk, L, T, hD, rfl, h3, h4⟩
/-- Bytes, copied behind nothing: kept apart from the disk. -/
theorem DV.app {K : Nat → Prop} {wa wb : World} {b0 : Nat} {v : Value} (h : DV w K b N M n w') (hk : Keep All w' wa) (e0 : b0 = w'.heap.size) (hk2 : Keep (fun j => some j ≠ (Value.slice (some ⟨b0, 0, none⟩) 0 0).ownBlock) wa wb) (hs : wa.heap.size = b0 + 1) (hlt : InB (· < wb.heap.size) v) (hin : InB (fun j => (Value.slice (some ⟨b0, 0, none⟩) 0 0).ownBlock = some j ∨ wa.heap.size ≤ j) v) :
    DV w (fun j => K j ∨ (w'.heap.size ≤ j ∧ j < wb.heap.size)) b N M n wb ∧ InB (fun j => w'.heap.size ≤ j ∧ j < wb.heap.size) v ∧ Keep (· < w'.heap.size) w' wb := by
  have hkk : Keep (· < w'.heap.size) w' wb := hk.all.trans (hk2.mono fun j _ hj e => by have e : j = b0 := Option.some.inj e; omega)
  refine ⟨h.frame hkk, fun j hj => ⟨?_, hlt j hj⟩, hkk⟩
  rcases hin j hj with h | h
  · have h : b0 = j := Option.some.inj h; omega
  · omega
end
end Go.Proofs.Ytigehkfdfecfoaa.B
