/-
  Arguments that are Refs, digests or sectors.
-/
import Derived.Test.YtigehkfdfecfoaaMRef
import Derived.Test.YtigehkfdfecfoaaTrod
namespace Go.Proofs.Ytigehkfdfecfoaa.B
open Go
set_option linter.unusedVariables false
set_option maxHeartbeats 2000000
set_option maxRecDepth 100000
attribute [local irreducible] W OpsW OpsQ retP
theorem Tr.dig {W : World} {cs : List Value} (h : Tr Try.prog W 29 cs) : ∃ d : Dig, cs = dgR d := by
  obtain ⟨ss, hsl, hss⟩ := h.bytesA Try.underlying29 Try.underlying5 (by kernel_rfl) (by kernel_rfl)
  exact ⟨⟨ss, hsl⟩, hss⟩
theorem Tr.ref {W : World} {cs : List Value} (h : Tr Try.prog W 79 cs) : ∃ r : Rf, cs = refR r ∧ (-9223372036854775808 ≤ r.at_ ∧ r.at_ ≤ 9223372036854775807) ∧ (-9223372036854775808 ≤ r.len ∧ r.len ≤ 9223372036854775807) := by
  obtain ⟨hl, hf⟩ := h.struct Try.underlying79
  have hl : cs.length = 34 := hl.trans (by kernel_rfl)
  have c0 : Try.prog.cellsOf 29 = 32 := by kernel_rfl
  have c1 : Try.prog.cellsOf 3 = 1 := by kernel_rfl
  have h0 : Tr Try.prog W 29 ((cs.drop 0).take (Try.prog.cellsOf 29)) := hf 0 _ rfl
  have h1 : Tr Try.prog W 3 ((cs.drop 32).take (Try.prog.cellsOf 3)) := hf 1 _ rfl
  have h2 : Tr Try.prog W 3 ((cs.drop 33).take (Try.prog.cellsOf 3)) := hf 2 _ rfl
  rw [c0] at h0; rw [c1] at h1 h2
  obtain ⟨d, hd⟩ := h0.dig
  obtain ⟨n1, e1, w1⟩ := h1.int Try.underlying3
  obtain ⟨n2, e2, w2⟩ := h2.int Try.underlying3
  have b1 := bounds_i64 w1
  have b2 := bounds_i64 w2
  refine ⟨⟨d, n1, n2⟩, ?_, ⟨b1.1, by have := b1.2; omega⟩, ⟨b2.1, by have := b2.2; omega⟩⟩
  show cs = dgR d ++ [.int .i64 n1, .int .i64 n2]
  have e3 : cs.drop 32 = [.int .i64 n1, .int .i64 n2] := by
    rw [← List.take_append_drop 1 (cs.drop 32), e1, List.drop_drop, show 32 + 1 = 33 from rfl]
    rw [List.take_of_length_le (by rw [List.length_drop]; omega)] at e2
    rw [e2]; rfl
  rw [← hd, ← e3, List.drop_zero, List.take_append_drop]
end Go.Proofs.Ytigehkfdfecfoaa.B
