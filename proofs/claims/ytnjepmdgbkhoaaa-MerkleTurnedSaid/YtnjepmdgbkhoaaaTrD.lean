/-
  Arguments that are digests, rows of digests, rows of bytes.
-/
import Derived.Test.YtnjepmdgbkhoaaaMerkV
import Derived.Test.YtnjepmdgbkhoaaaTrod
namespace Go.Proofs.Ytnjepmdgbkhoaaa.B
open Go
set_option linter.unusedVariables false
set_option maxHeartbeats 2000000
set_option maxRecDepth 100000
attribute [local irreducible] W OpsW OpsQ retP
theorem Tr.dig {W : World} {cs : List Value} (h : Tr Try.prog W 23 cs) : ∃ d : Dig, cs = dgR d := by
  obtain ⟨ss, hsl, hss⟩ := h.bytesA Try.underlying23 Try.underlying5 (by kernel_rfl) (by kernel_rfl)
  exact ⟨⟨ss, hsl⟩, hss⟩
theorem trDigs {W : World} {n c : Nat} {a : Option Addr} (h : Tr Try.prog W 25 [Value.slice a n c]) : ∃ ds, Sl W (.slice a n c) ds.length 32 (rows dgR ds) := by
  obtain ⟨v, xs, e, hx⟩ := h.rows (R := fun cs x => cs = dgR x) Try.underlying25 (fun cs' hl h' => h'.dig)
  obtain rfl := one_inj (show [Value.slice a n c] = [v] from e)
  have hc : Try.prog.cellsOf 23 = 32 := by kernel_rfl
  rw [hc] at hx; exact ⟨xs, hx.sl dgR_len (by decide)⟩
theorem trRowsB {W : World} {n c : Nat} {a : Option Addr} (h : Tr Try.prog W 30 [Value.slice a n c]) : ∃ xs, SlR W (.slice a n c) 1 (RowB W) xs := by
  obtain ⟨v, xs, e, hx⟩ := h.rows (R := RowB W) Try.underlying30 (fun cs' hl h' => by
    obtain ⟨v, ps, e, hv⟩ := h'.bytes Try.underlying24 Try.underlying5 (by kernel_rfl)
    exact ⟨ps, v, e, hv⟩)
  obtain rfl := one_inj (show [Value.slice a n c] = [v] from e)
  have hc : Try.prog.cellsOf 24 = 1 := by kernel_rfl
  rw [hc] at hx; exact ⟨xs, hx⟩
end Go.Proofs.Ytnjepmdgbkhoaaa.B
