/-
  blob: fits, Write.
-/
import Derived.Test.YtigehkfdfecfoaaBlob2
namespace Go.Proofs.Ytigehkfdfecfoaa.B
open Go
set_option linter.unusedVariables false
set_option maxHeartbeats 2000000
set_option maxRecDepth 100000
attribute [local irreducible] W OpsW OpsQ retP
section
variable {w : World} {K : Nat → Prop} {b N n : Nat} {M : List Sec} {w' : World}
theorem DV.le {m : Nat} (h : DV w K b N M n w') (hm : n ≤ m) : DV w K b N M m w' := by
  obtain ⟨L, T, h1, h2, h3, h4⟩ := h; exact ⟨L, T, h1, h2, by omega, h4⟩
theorem DV.bound (h : DV w K b N M n w') : N ≤ 65536 ∧ ∀ j, K j → j < w'.heap.size := by
  obtain ⟨L, T, ⟨A, h1, h5, h6, h7⟩, _⟩ := h
  obtain ⟨g, c, ex, vl, hB, hG, hT, hin, hgb, hAb, hAg, hNc, hcm, hL, hTn, hN1, hN2, hf⟩ := h1
  exact ⟨hN2, h6⟩
theorem DV.dlen (h : DV w K b N M n w') : Ret Try.prog 62 [.pointer (some ⟨b, 0, none⟩)].toArray w' fun r w2 => r = .int .i64 N ∧ w2 = w' := by
  obtain ⟨L, T, ⟨A, h1, _⟩, _⟩ := h
  exact dk_Len w' b A N L T 0 h1
end

theorem copy_pad (l : List UInt8) : splice (List.replicate 64 (c8 0)) 0 ((l.map c8).take (min l.length 64)) = secR (padS l) := by
  have e : (l.map c8).take (min l.length 64) = (l.map c8).take 64 := by
    rcases Nat.le_total l.length 64 with h | h
    · rw [Nat.min_eq_left h, List.take_of_length_le (by rw [List.length_map]; exact Nat.le_refl _), List.take_of_length_le (by rw [List.length_map]; exact h)]
    · rw [Nat.min_eq_right h]
  rw [e]
  unfold splice secR padS
  simp only [List.take_zero, List.nil_append, Nat.zero_add, List.map_append, List.map_take, List.map_replicate, List.drop_replicate, List.length_take, List.length_map]
theorem drop_min (xs : List UInt8) : (xs.take xs.length).drop (min xs.length 64) = xs.drop 64 := by
  rw [List.take_length]
  rcases Nat.le_total xs.length 64 with h | h
  · rw [Nat.min_eq_left h, List.drop_length, List.drop_eq_nil_of_le h]
  · rw [Nat.min_eq_right h]
/-- Bytes that stay, whatever is written to the disk. -/
def Stays (w : World) (K : Nat → Prop) (w' : World) (v : Value) (bs : List UInt8) : Prop := ∀ w2, Keep All w w2 → Keep K w' w2 → By w2 v bs
theorem Stays.of {w w' : World} {K : Nat → Prop} {v : Value} {bs : List UInt8} (h : By w v bs) : Stays w K w' v bs := fun w2 hk _ => h.k hk
theorem Stays.to {w w' w3 : World} {K K' : Nat → Prop} {v : Value} {bs : List UInt8} (h : Stays w K w' v bs) (hk : Keep K w' w3) (hK : ∀ j, K j → K' j) : Stays w K' w3 v bs := fun w2 h1 h2 => h w2 h1 (hk.trans (h2.mono fun j _ hj => hK j hj))

end Go.Proofs.Ytigehkfdfecfoaa.B
