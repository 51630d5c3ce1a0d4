/-
  Arguments that are calls to a trie.
-/
import Derived.Test.YtpiidddccmohdabDoorTreL2
namespace Go.Proofs.YtpiidddccmohdabDoor.B
open Go
set_option linter.unusedVariables false
set_option maxHeartbeats 2000000
set_option maxRecDepth 100000
attribute [local irreducible] W OpsW OpsQ retP
theorem cut_atT (cs : List Value) (a n : Nat) : cs.drop a = (cs.drop a).take n ++ cs.drop (a + n) := by rw [← List.drop_drop, List.take_append_drop]
theorem Tr.dig {W : World} {cs : List Value} (h : Tr Tryd.prog W 24 cs) : ∃ d : Dig, cs = dgR d := by
  obtain ⟨ss, hsl, hss⟩ := h.bytesA Tryd.underlying24 Tryd.underlying5 (by kernel_rfl) (by kernel_rfl)
  exact ⟨⟨ss, hsl⟩, hss⟩
theorem Tr.call {W : World} {cs : List Value} (h : Tr Tryd.prog W 31 cs) : ∃ c : Cl, RowCl W cs c := by
  obtain ⟨hl, hf⟩ := h.struct Tryd.underlying31
  have hl : cs.length = 34 := hl.trans (by kernel_rfl)
  have c0 : Tryd.prog.cellsOf 24 = 32 := by kernel_rfl
  have c1 : Tryd.prog.cellsOf 3 = 1 := by kernel_rfl
  have c2 : Tryd.prog.cellsOf 25 = 1 := by kernel_rfl
  have h0 : Tr Tryd.prog W 3 ((cs.drop 0).take (Tryd.prog.cellsOf 3)) := hf 0 _ rfl
  have h1 : Tr Tryd.prog W 24 ((cs.drop 1).take (Tryd.prog.cellsOf 24)) := hf 1 _ rfl
  have h2 : Tr Tryd.prog W 25 ((cs.drop 33).take (Tryd.prog.cellsOf 25)) := hf 2 _ rfl
  rw [c1] at h0; rw [c0] at h1; rw [c2] at h2
  obtain ⟨n0, e0, _⟩ := h0.int Tryd.underlying3
  obtain ⟨d, e1⟩ := h1.dig
  obtain ⟨vv, bs, e2, hb⟩ := h2.bytes Tryd.underlying25 Tryd.underlying5 (by kernel_rfl)
  have k0 := cut_atT cs 0 1
  have k1 := cut_atT cs 1 32
  have k2 := cut_atT cs 33 1
  rw [show cs.drop (33 + 1) = [] from List.drop_eq_nil_of_le (by omega), List.append_nil, e2] at k2
  rw [e1, k2] at k1; rw [e0, k1] at k0
  exact ⟨(n0, d, bs), vv, k0, hb⟩
theorem trCalls {W : World} {cs : List Value} (h : Tr Tryd.prog W 22 cs) : ∃ v xs, cs = [v] ∧ ClsIn W v xs := by
  obtain ⟨v, xs, e, hx⟩ := h.rows (R := RowCl W) Tryd.underlying22 (fun cs' hl h' => h'.call)
  have hc : Tryd.prog.cellsOf 31 = 34 := by kernel_rfl
  rw [hc] at hx; exact ⟨v, xs, e, hx⟩
end Go.Proofs.YtpiidddccmohdabDoor.B
