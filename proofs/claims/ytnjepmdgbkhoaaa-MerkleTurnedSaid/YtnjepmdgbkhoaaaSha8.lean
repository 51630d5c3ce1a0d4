/-
  sha: the document's example.
-/
import Derived.Test.YtnjepmdgbkhoaaaSha7
import Derived.Test.YtnjepmdgbkhoaaaStr
namespace Go.Proofs.Ytnjepmdgbkhoaaa.B
open Go
set_option linter.unusedVariables false
set_option maxHeartbeats 2000000
set_option maxRecDepth 100000
attribute [local irreducible] W OpsW OpsQ retP
theorem take_s {α : Type} {l : List α} {k : Nat} {x : α} (h : l[k]? = some x) : l.take (k + 1) = l.take k ++ [x] := by
  obtain ⟨hk, rfl⟩ := List.getElem?_eq_some_iff.1 h
  rw [List.take_succ_eq_append_getElem hk]

/-- A row among rows: one cell, a slice of bytes. -/
def RowB (w : World) (cs : List Value) (p : List UInt8) : Prop := ∃ v, cs = [v] ∧ By w v p
theorem flat_le {n : Nat} : ∀ {l : List (List UInt8)}, (∀ p ∈ l, p.length ≤ n) → l.flatten.length ≤ n * l.length
  | [], _ => by simp
  | p :: l, h => by
    have h1 := flat_le (l := l) fun q hq => h q (List.mem_cons_of_mem _ hq)
    have h2 := h p (List.mem_cons_self ..)
    rw [List.flatten_cons, List.length_append, List.length_cons, Nat.mul_succ]; omega
theorem okC_dig (d : List UInt8) (h : d.length = 32) : okC Try.prog 2 23 (d.map c8) := okC_bytes rfl rfl rfl d h


end Go.Proofs.Ytnjepmdgbkhoaaa.B
