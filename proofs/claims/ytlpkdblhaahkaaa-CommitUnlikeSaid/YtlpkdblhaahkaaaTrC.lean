/-
  Arguments that are bins or commits.
-/
import Derived.Test.YtlpkdblhaahkaaaTrR
import Derived.Test.YtlpkdblhaahkaaaCom1
namespace Go.Proofs.Ytlpkdblhaahkaaa.B
open Go
set_option linter.unusedVariables false
set_option maxHeartbeats 2000000
set_option maxRecDepth 100000
attribute [local irreducible] W OpsW OpsQ retP
theorem cut_at (cs : List Value) (a n : Nat) : cs.drop a = (cs.drop a).take n ++ cs.drop (a + n) := by rw [← List.drop_drop, List.take_append_drop]
theorem Tr.bin {W : World} {cs : List Value} (h : Tr Try.prog W 59 cs) : ∃ b : Bn, cs = binV b := by
  obtain ⟨hl, hf⟩ := h.struct Try.underlying59
  have hl : cs.length = 35 := hl.trans (by kernel_rfl)
  have c0 : Try.prog.cellsOf 26 = 32 := by kernel_rfl
  have c1 : Try.prog.cellsOf 3 = 1 := by kernel_rfl
  have h0 : Tr Try.prog W 3 ((cs.drop 0).take (Try.prog.cellsOf 3)) := hf 0 _ rfl
  have h1 : Tr Try.prog W 3 ((cs.drop 1).take (Try.prog.cellsOf 3)) := hf 1 _ rfl
  have h2 : Tr Try.prog W 3 ((cs.drop 2).take (Try.prog.cellsOf 3)) := hf 2 _ rfl
  have h3 : Tr Try.prog W 26 ((cs.drop 3).take (Try.prog.cellsOf 26)) := hf 3 _ rfl
  rw [c1] at h0 h1 h2; rw [c0] at h3
  obtain ⟨n0, e0, w0⟩ := h0.int Try.underlying3
  obtain ⟨n1, e1, w1⟩ := h1.int Try.underlying3
  obtain ⟨n2, e2, w2⟩ := h2.int Try.underlying3
  obtain ⟨d, e3⟩ := h3.dig
  refine ⟨⟨n0, n1, n2, d⟩, ?_⟩
  have k0 := cut_at cs 0 1
  have k1 := cut_at cs 1 1
  have k2 := cut_at cs 2 1
  have k3 := cut_at cs 3 32
  rw [show cs.drop (3 + 32) = [] from List.drop_eq_nil_of_le (by omega), List.append_nil, e3] at k3
  rw [e2, k3] at k2; rw [e1, k2] at k1; rw [e0, k1] at k0
  exact k0
theorem trBins {W : World} {cs : List Value} (h : Tr Try.prog W 29 cs) : ∃ v bs, cs = [v] ∧ Sl W v (List.length bs) 35 (rows binV bs) := by
  obtain ⟨v, xs, e, hx⟩ := h.rows (R := fun cs x => cs = binV x) Try.underlying29 (fun cs' hl h' => h'.bin)
  have hc : Try.prog.cellsOf 59 = 35 := by kernel_rfl
  rw [hc] at hx
  refine ⟨v, xs, e, ?_⟩
  obtain ⟨a, c, rfl, h1, h2, h3, h4⟩ := hx
  refine ⟨a, c, rfl, h1, h2, rows_len binV_len xs, fun e => h3 e, fun x hx i u hu => ?_⟩
  have hi := (List.getElem?_eq_some_iff.1 hu).1
  rw [rows_len binV_len] at hi
  have hq : i / 35 < xs.length := by omega
  have hr : i % 35 < 35 := Nat.mod_lt _ (by decide)
  have hiq : i / 35 * 35 + i % 35 = i := by omega
  obtain ⟨b, o, sp⟩ := x
  have hsp : sp = none := by
    obtain ⟨cs0, hl0, hc0, _⟩ := h4 _ hx 0 xs[0] (List.getElem?_eq_getElem (by omega))
    have h5 := hc0 0 cs0[0] (List.getElem?_eq_getElem (by omega))
    simp only [Nat.zero_mul, Addr.add_zero'] at h5
    exact World.cell?_spot h5
  subst hsp
  obtain ⟨cs, hl, hc, rfl⟩ := h4 _ hx (i / 35) xs[i / 35] (List.getElem?_eq_getElem hq)
  have hu' : (binV xs[i / 35])[i % 35]? = some u := by rw [← rows_get binV_len hq hr, hiq]; exact hu
  have := hc _ u hu'
  simp only [Addr.add_lit] at this
  rw [Nat.add_assoc, hiq] at this
  exact ⟨rfl, this⟩
theorem trRowsB' {W : World} {cs : List Value} (h : Tr Try.prog W 30 cs) : ∃ v xs, cs = [v] ∧ SlR W v 1 (RowB W) xs := by
  obtain ⟨v, xs, e, hx⟩ := h.rows (R := RowB W) Try.underlying30 (fun cs' hl h' => by
    obtain ⟨v, ps, e, hv⟩ := h'.bytes Try.underlying22 Try.underlying5 (by kernel_rfl)
    exact ⟨ps, v, e, hv⟩)
  have hc : Try.prog.cellsOf 22 = 1 := by kernel_rfl
  rw [hc] at hx; exact ⟨v, xs, e, hx⟩
theorem Tr.commit {W : World} {cs : List Value} (h : Tr Try.prog W 32 cs) : ∃ (c : Cm) (vb ve : Value) (vks : List Value), cs = cmV c vb ve ∧ CmIn W c vb ve vks ∧ c.epoch < 2 ^ 64 := by
  obtain ⟨hl, hf⟩ := h.struct Try.underlying32
  have hl : cs.length = 137 := hl.trans (by kernel_rfl)
  have c0 : Try.prog.cellsOf 26 = 32 := by kernel_rfl
  have c1 : Try.prog.cellsOf 24 = 1 := by kernel_rfl
  have c2 : Try.prog.cellsOf 28 = 34 := by kernel_rfl
  have c3 : Try.prog.cellsOf 29 = 1 := by kernel_rfl
  have c4 : Try.prog.cellsOf 30 = 1 := by kernel_rfl
  have h0 : Tr Try.prog W 24 ((cs.drop 0).take (Try.prog.cellsOf 24)) := hf 0 _ rfl
  have h1 : Tr Try.prog W 28 ((cs.drop 1).take (Try.prog.cellsOf 28)) := hf 1 _ rfl
  have h2 : Tr Try.prog W 28 ((cs.drop 35).take (Try.prog.cellsOf 28)) := hf 2 _ rfl
  have h3 : Tr Try.prog W 28 ((cs.drop 69).take (Try.prog.cellsOf 28)) := hf 3 _ rfl
  have h4 : Tr Try.prog W 29 ((cs.drop 103).take (Try.prog.cellsOf 29)) := hf 4 _ rfl
  have h5 : Tr Try.prog W 26 ((cs.drop 104).take (Try.prog.cellsOf 26)) := hf 5 _ rfl
  have h6 : Tr Try.prog W 30 ((cs.drop 136).take (Try.prog.cellsOf 30)) := hf 6 _ rfl
  rw [c1] at h0; rw [c2] at h1 h2 h3; rw [c3] at h4; rw [c0] at h5; rw [c4] at h6
  obtain ⟨n0, e0, w0⟩ := h0.int Try.underlying24
  obtain ⟨r1, e1, _⟩ := h1.ref
  obtain ⟨r2, e2, _⟩ := h2.ref
  obtain ⟨r3, e3, _⟩ := h3.ref
  obtain ⟨vb, bs, e4, hb⟩ := trBins h4
  obtain ⟨d, e5⟩ := h5.dig
  obtain ⟨ve, es, e6, he⟩ := trRowsB' h6
  obtain ⟨vks, hv⟩ := RowsV.of he
  have b0 := bounds_u64 w0
  have k0 := cut_at cs 0 1
  have k1 := cut_at cs 1 34
  have k2 := cut_at cs 35 34
  have k3 := cut_at cs 69 34
  have k4 := cut_at cs 103 1
  have k5 := cut_at cs 104 32
  have k6 := cut_at cs 136 1
  rw [show cs.drop (136 + 1) = [] from List.drop_eq_nil_of_le (by omega), List.append_nil, e6] at k6
  rw [e5, k6] at k5; rw [e4, k5] at k4; rw [e3, k4] at k3; rw [e2, k3] at k2; rw [e1, k2] at k1; rw [e0, k1] at k0
  obtain ⟨n, rfl⟩ := Int.eq_ofNat_of_zero_le b0.1
  exact ⟨⟨n, r1, r2, r3, bs, d, es⟩, vb, ve, vks, k0, ⟨hb, hv⟩, by have h := b0.2; show n < 2 ^ 64; omega⟩
end Go.Proofs.Ytlpkdblhaahkaaa.B
