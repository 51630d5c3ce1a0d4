/-
  Arguments that are bins or commits.
-/
import Derived.Test.YtigehkfdfecfoaaTrR
import Derived.Test.YtigehkfdfecfoaaTrBin
import Derived.Test.YtigehkfdfecfoaaCom1
namespace Go.Proofs.Ytigehkfdfecfoaa.B
open Go
set_option linter.unusedVariables false
set_option maxHeartbeats 2000000
set_option maxRecDepth 100000
attribute [local irreducible] W OpsW OpsQ retP
theorem trRowsB' {W : World} {cs : List Value} (h : Tr Try.prog W 67 cs) : ∃ v xs, cs = [v] ∧ SlR W v 1 (RowB W) xs := by
  obtain ⟨v, xs, e, hx⟩ := h.rows (R := RowB W) Try.underlying67 (fun cs' hl h' => by
    obtain ⟨v, ps, e, hv⟩ := h'.bytes Try.underlying53 Try.underlying5 (by kernel_rfl)
    exact ⟨ps, v, e, hv⟩)
  have hc : Try.prog.cellsOf 53 = 1 := by kernel_rfl
  rw [hc] at hx; exact ⟨v, xs, e, hx⟩
theorem Tr.commit {W : World} {cs : List Value} (h : Tr Try.prog W 108 cs) : ∃ (c : Cm) (vb ve : Value) (vks : List Value), cs = cmV c vb ve ∧ CmIn W c vb ve vks ∧ c.epoch < 2 ^ 64 := by
  obtain ⟨hl, hf⟩ := h.struct Try.underlying108
  have hl : cs.length = 137 := hl.trans (by kernel_rfl)
  have c0 : Try.prog.cellsOf 29 = 32 := by kernel_rfl
  have c1 : Try.prog.cellsOf 66 = 1 := by kernel_rfl
  have c2 : Try.prog.cellsOf 79 = 34 := by kernel_rfl
  have c3 : Try.prog.cellsOf 106 = 1 := by kernel_rfl
  have c4 : Try.prog.cellsOf 67 = 1 := by kernel_rfl
  have h0 : Tr Try.prog W 66 ((cs.drop 0).take (Try.prog.cellsOf 66)) := hf 0 _ rfl
  have h1 : Tr Try.prog W 79 ((cs.drop 1).take (Try.prog.cellsOf 79)) := hf 1 _ rfl
  have h2 : Tr Try.prog W 79 ((cs.drop 35).take (Try.prog.cellsOf 79)) := hf 2 _ rfl
  have h3 : Tr Try.prog W 79 ((cs.drop 69).take (Try.prog.cellsOf 79)) := hf 3 _ rfl
  have h4 : Tr Try.prog W 106 ((cs.drop 103).take (Try.prog.cellsOf 106)) := hf 4 _ rfl
  have h5 : Tr Try.prog W 29 ((cs.drop 104).take (Try.prog.cellsOf 29)) := hf 5 _ rfl
  have h6 : Tr Try.prog W 67 ((cs.drop 136).take (Try.prog.cellsOf 67)) := hf 6 _ rfl
  rw [c1] at h0; rw [c2] at h1 h2 h3; rw [c3] at h4; rw [c0] at h5; rw [c4] at h6
  obtain ⟨n0, e0, w0⟩ := h0.int Try.underlying66
  obtain ⟨r1, e1, _⟩ := h1.ref
  obtain ⟨r2, e2, _⟩ := h2.ref
  obtain ⟨r3, e3, _⟩ := h3.ref
  obtain ⟨vb, bs, e4, hb⟩ := trBins h4
  obtain ⟨d, e5⟩ := h5.dig
  obtain ⟨ve, es, e6, he⟩ := trRowsB' h6
  obtain ⟨vks, hv⟩ := RowsV.of he
  have b0 := bounds_u64 w0
  have k0 := cut_at cs 0 1
  have k1 := cut_at cs 1 34
  have k2 := cut_at cs 35 34
  have k3 := cut_at cs 69 34
  have k4 := cut_at cs 103 1
  have k5 := cut_at cs 104 32
  have k6 := cut_at cs 136 1
  rw [show cs.drop (136 + 1) = [] from List.drop_eq_nil_of_le (by omega), List.append_nil, e6] at k6
  rw [e5, k6] at k5; rw [e4, k5] at k4; rw [e3, k4] at k3; rw [e2, k3] at k2; rw [e1, k2] at k1; rw [e0, k1] at k0
  obtain ⟨n, rfl⟩ := Int.eq_ofNat_of_zero_le b0.1
  exact ⟨⟨n, r1, r2, r3, bs, d, es⟩, vb, ve, vks, k0, ⟨hb, hv⟩, by have h := b0.2; show n < 2 ^ 64; omega⟩
end Go.Proofs.Ytigehkfdfecfoaa.B
