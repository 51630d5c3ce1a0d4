/-
  Arguments that are blocks.
-/
import Derived.Test.YtigehkfdfecfoaaTrR
import Derived.Test.YtigehkfdfecfoaaBn2
namespace Go.Proofs.Ytigehkfdfecfoaa.B
open Go
set_option linter.unusedVariables false
set_option maxHeartbeats 2000000
set_option maxRecDepth 100000
attribute [local irreducible] W OpsW OpsQ retP
theorem Tr.blk {W : World} {cs : List Value} (h : Tr Try.prog W 40 cs) : ∃ x : Bk, cs = blkR x := by
  obtain ⟨ss, hsl, hss⟩ := h.bytesA Try.underlying40 Try.underlying5 (by kernel_rfl) (by kernel_rfl)
  exact ⟨⟨ss, hsl⟩, hss⟩
theorem trBlocks {W : World} {cs : List Value} (h : Tr Try.prog W 22 cs) : ∃ v bs, cs = [v] ∧ Sl W v (List.length bs) 48 (rows blkR bs) := by
  obtain ⟨v, xs, e, hx⟩ := h.rows (R := fun cs x => cs = blkR x) Try.underlying22 (fun cs' hl h' => h'.blk)
  have hc : Try.prog.cellsOf 40 = 48 := by kernel_rfl
  rw [hc] at hx
  refine ⟨v, xs, e, ?_⟩
  obtain ⟨a, c, rfl, h1, h2, h3, h4⟩ := hx
  refine ⟨a, c, rfl, h1, h2, rows_len blkR_len xs, fun e => h3 e, fun x hx i u hu => ?_⟩
  have hi := (List.getElem?_eq_some_iff.1 hu).1
  rw [rows_len blkR_len] at hi
  have hq : i / 48 < xs.length := by omega
  have hr : i % 48 < 48 := Nat.mod_lt _ (by decide)
  have hiq : i / 48 * 48 + i % 48 = i := by omega
  obtain ⟨b, o, sp⟩ := x
  have hsp : sp = none := by
    obtain ⟨cs0, hl0, hc0, _⟩ := h4 _ hx 0 xs[0] (List.getElem?_eq_getElem (by omega))
    have h5 := hc0 0 cs0[0] (List.getElem?_eq_getElem (by omega))
    simp only [Nat.zero_mul, Addr.add_zero'] at h5
    exact World.cell?_spot h5
  subst hsp
  obtain ⟨cs, hl, hc, rfl⟩ := h4 _ hx (i / 48) xs[i / 48] (List.getElem?_eq_getElem hq)
  have hu' : (blkR xs[i / 48])[i % 48]? = some u := by rw [← rows_get blkR_len hq hr, hiq]; exact hu
  have := hc _ u hu'
  simp only [Addr.add_lit] at this
  rw [Nat.add_assoc, hiq] at this
  exact ⟨rfl, this⟩
end Go.Proofs.Ytigehkfdfecfoaa.B
