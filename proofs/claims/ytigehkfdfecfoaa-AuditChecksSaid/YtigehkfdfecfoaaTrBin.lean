/-
  Arguments that are bins.
-/
import Derived.Test.YtigehkfdfecfoaaTrR
import Derived.Test.YtigehkfdfecfoaaBin1
import Derived.Test.YtigehkfdfecfoaaMLib
namespace Go.Proofs.Ytigehkfdfecfoaa.B
open Go
set_option linter.unusedVariables false
set_option maxHeartbeats 2000000
set_option maxRecDepth 100000
attribute [local irreducible] W OpsW OpsQ retP
theorem cut_at (cs : List Value) (a n : Nat) : cs.drop a = (cs.drop a).take n ++ cs.drop (a + n) := by rw [← List.drop_drop, List.take_append_drop]
theorem Tr.bin {W : World} {cs : List Value} (h : Tr Try.prog W 31 cs) : ∃ b : Bn, cs = binV b := by
  obtain ⟨hl, hf⟩ := h.struct Try.underlying31
  have hl : cs.length = 35 := hl.trans (by kernel_rfl)
  have c0 : Try.prog.cellsOf 29 = 32 := by kernel_rfl
  have c1 : Try.prog.cellsOf 3 = 1 := by kernel_rfl
  have h0 : Tr Try.prog W 3 ((cs.drop 0).take (Try.prog.cellsOf 3)) := hf 0 _ rfl
  have h1 : Tr Try.prog W 3 ((cs.drop 1).take (Try.prog.cellsOf 3)) := hf 1 _ rfl
  have h2 : Tr Try.prog W 3 ((cs.drop 2).take (Try.prog.cellsOf 3)) := hf 2 _ rfl
  have h3 : Tr Try.prog W 29 ((cs.drop 3).take (Try.prog.cellsOf 29)) := hf 3 _ rfl
  rw [c1] at h0 h1 h2; rw [c0] at h3
  obtain ⟨n0, e0, w0⟩ := h0.int Try.underlying3
  obtain ⟨n1, e1, w1⟩ := h1.int Try.underlying3
  obtain ⟨n2, e2, w2⟩ := h2.int Try.underlying3
  obtain ⟨d, e3⟩ := h3.dig
  refine ⟨⟨n0, n1, n2, d⟩, ?_⟩
  have k0 := cut_at cs 0 1
  have k1 := cut_at cs 1 1
  have k2 := cut_at cs 2 1
  have k3 := cut_at cs 3 32
  rw [show cs.drop (3 + 32) = [] from List.drop_eq_nil_of_le (by omega), List.append_nil, e3] at k3
  rw [e2, k3] at k2; rw [e1, k2] at k1; rw [e0, k1] at k0
  exact k0
theorem trBins {W : World} {cs : List Value} (h : Tr Try.prog W 106 cs) : ∃ v bs, cs = [v] ∧ Sl W v (List.length bs) 35 (rows binV bs) := by
  obtain ⟨v, xs, e, hx⟩ := h.rows (R := fun cs x => cs = binV x) Try.underlying106 (fun cs' hl h' => h'.bin)
  have hc : Try.prog.cellsOf 31 = 35 := by kernel_rfl
  rw [hc] at hx
  refine ⟨v, xs, e, ?_⟩
  obtain ⟨a, c, rfl, h1, h2, h3, h4⟩ := hx
  refine ⟨a, c, rfl, h1, h2, rows_len binV_len xs, fun e => h3 e, fun x hx i u hu => ?_⟩
  have hi := (List.getElem?_eq_some_iff.1 hu).1
  rw [rows_len binV_len] at hi
  have hq : i / 35 < xs.length := by omega
  have hr : i % 35 < 35 := Nat.mod_lt _ (by decide)
  have hiq : i / 35 * 35 + i % 35 = i := by omega
  obtain ⟨b, o, sp⟩ := x
  have hsp : sp = none := by
    obtain ⟨cs0, hl0, hc0, _⟩ := h4 _ hx 0 xs[0] (List.getElem?_eq_getElem (by omega))
    have h5 := hc0 0 cs0[0] (List.getElem?_eq_getElem (by omega))
    simp only [Nat.zero_mul, Addr.add_zero'] at h5
    exact World.cell?_spot h5
  subst hsp
  obtain ⟨cs, hl, hc, rfl⟩ := h4 _ hx (i / 35) xs[i / 35] (List.getElem?_eq_getElem hq)
  have hu' : (binV xs[i / 35])[i % 35]? = some u := by rw [← rows_get binV_len hq hr, hiq]; exact hu
  have := hc _ u hu'
  simp only [Addr.add_lit] at this
  rw [Nat.add_assoc, hiq] at this
  exact ⟨rfl, this⟩
end Go.Proofs.Ytigehkfdfecfoaa.B
