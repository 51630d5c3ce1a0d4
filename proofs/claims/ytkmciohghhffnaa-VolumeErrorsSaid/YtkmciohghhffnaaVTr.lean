/-
  Arguments that are calls to volumes.
-/
import Derived.Test.YtkmciohghhffnaaVCall
namespace Go.Proofs.Ytkmciohghhffnaa.B
open Go
set_option linter.unusedVariables false
set_option maxHeartbeats 2000000
set_option maxRecDepth 100000
attribute [local irreducible] W OpsW OpsQ retP
theorem cut_atO (cs : List Value) (a n : Nat) : cs.drop a = (cs.drop a).take n ++ cs.drop (a + n) := by rw [← List.drop_drop, List.take_append_drop]
theorem str_strA (s : ByteArray) : Value.string s = strA s.data.toList := by
  unfold strA; cases s; rfl
theorem Tr.call {W : World} {cs : List Value} (h : Tr Try.prog W 43 cs) : ∃ o : CallV, cs = callR o ∧ o.wf := by
  obtain ⟨hl, hf⟩ := h.struct Try.underlying43
  have hl : cs.length = 38 := hl.trans (by kernel_rfl)
  have c0 : Try.prog.cellsOf 41 = 32 := by kernel_rfl
  have c1 : Try.prog.cellsOf 3 = 1 := by kernel_rfl
  have c2 : Try.prog.cellsOf 9 = 1 := by kernel_rfl
  have h0 : Tr Try.prog W 3 ((cs.drop 0).take (Try.prog.cellsOf 3)) := hf 0 _ rfl
  have h1 : Tr Try.prog W 9 ((cs.drop 1).take (Try.prog.cellsOf 9)) := hf 1 _ rfl
  have h2 : Tr Try.prog W 9 ((cs.drop 2).take (Try.prog.cellsOf 9)) := hf 2 _ rfl
  have h3 : Tr Try.prog W 3 ((cs.drop 3).take (Try.prog.cellsOf 3)) := hf 3 _ rfl
  have h4 : Tr Try.prog W 3 ((cs.drop 4).take (Try.prog.cellsOf 3)) := hf 4 _ rfl
  have c3 : Try.prog.cellsOf 4 = 1 := by kernel_rfl
  have h5 : Tr Try.prog W 4 ((cs.drop 5).take (Try.prog.cellsOf 4)) := hf 5 _ rfl
  have h6 : Tr Try.prog W 41 ((cs.drop 6).take (Try.prog.cellsOf 41)) := hf 6 _ rfl
  rw [c1] at h0 h3 h4; rw [c2] at h1 h2; rw [c3] at h5; rw [c0] at h6
  obtain ⟨n0, e0, w0⟩ := h0.int Try.underlying3
  obtain ⟨s1, e1, _⟩ := h1.str Try.underlying9
  obtain ⟨s2, e2, _⟩ := h2.str Try.underlying9
  obtain ⟨n3, e3, w3⟩ := h3.int Try.underlying3
  obtain ⟨n4, e4, w4⟩ := h4.int Try.underlying3
  obtain ⟨b5, e5⟩ := h5.bool Try.underlying4
  obtain ⟨ss, hsl, e6⟩ := h6.bytesA Try.underlying41 Try.underlying5 (by kernel_rfl) (by kernel_rfl)
  have k0 := cut_atO cs 0 1
  have k1 := cut_atO cs 1 1
  have k2 := cut_atO cs 2 1
  have k3 := cut_atO cs 3 1
  have k4 := cut_atO cs 4 1
  have k5 := cut_atO cs 5 1
  have k6 := cut_atO cs 6 32
  rw [show cs.drop (6 + 32) = [] from List.drop_eq_nil_of_le (by omega), List.append_nil, e6] at k6
  rw [e5, k6] at k5; rw [e4, k5] at k4; rw [e3, k4] at k3; rw [e2, k3] at k2; rw [e1, k2] at k1; rw [e0, k1] at k0
  rw [str_strA, str_strA] at k0
  exact ⟨⟨n0, s1.data.toList, s2.data.toList, n3, n4, b5, ⟨ss, hsl⟩⟩, k0, bounds_i64 w0, bounds_i64 w3, bounds_i64 w4⟩
theorem trCalls {W : World} {cs : List Value} (h : Tr Try.prog W 36 cs) : ∃ v xs, cs = [v] ∧ CallsIn W v xs := by
  obtain ⟨v, xs, e, hx⟩ := h.rows (R := RowCall) Try.underlying36 (fun cs' hl h' => h'.call)
  have hc : Try.prog.cellsOf 43 = 38 := by kernel_rfl
  rw [hc] at hx; exact ⟨v, xs, e, hx⟩
theorem Tr.dig {W : World} {cs : List Value} (h : Tr Try.prog W 41 cs) : ∃ d : Dig, cs = dgR d := by
  obtain ⟨ss, hsl, hss⟩ := h.bytesA Try.underlying41 Try.underlying5 (by kernel_rfl) (by kernel_rfl)
  exact ⟨⟨ss, hsl⟩, hss⟩
end Go.Proofs.Ytkmciohghhffnaa.B
