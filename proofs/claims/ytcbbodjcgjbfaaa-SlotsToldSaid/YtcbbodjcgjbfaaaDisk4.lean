/-
  A disk: land, Sync, Crash.
-/
import Derived.Test.YtcbbodjcgjbfaaaDisk3
namespace Go.Proofs.Ytcbbodjcgjbfaaa.B
open Go
set_option linter.unusedVariables false
set_option maxHeartbeats 2000000
set_option maxRecDepth 100000
attribute [local irreducible] W OpsW OpsQ retP
/-- The first k bytes of s, and what stood there behind them. -/
def mix (k : Nat) (s o : Sec) : Sec := ⟨s.val.take k ++ o.val.drop k, by have := s.2; have := o.2; simp; omega⟩
theorem mix_64 (s o : Sec) : mix 64 s o = s := by
  apply Subtype.ext
  have h1 := s.2; have h2 := o.2
  show s.val.take 64 ++ o.val.drop 64 = s.val
  rw [List.take_of_length_le (by omega), List.drop_eq_nil_of_le (by omega), List.append_nil]
theorem mix_0 (s o : Sec) : mix 0 s o = o := by
  apply Subtype.ext
  show s.val.take 0 ++ o.val.drop 0 = o.val
  simp
/-- What lasts when of the i-th write k i bytes landed. -/
def landL (k : Nat → Nat) (L : List Sec) (T : List (Nat × Sec)) : Nat → List Sec
  | 0 => L
  | i + 1 => match T[i]? with
    | some x => (landL k L T i).set x.1 (mix (k i) x.2 ((landL k L T i).getD x.1 Sec.zero))
    | none => landL k L T i
theorem landL_s {k : Nat → Nat} {L : List Sec} {T : List (Nat × Sec)} {i : Nat} (hi : i < T.length) : landL k L T (i + 1) = (landL k L T i).set T[i].1 (mix (k i) T[i].2 ((landL k L T i).getD T[i].1 Sec.zero)) := by
  rw [landL, List.getElem?_eq_getElem hi]
theorem landL_len (k : Nat → Nat) (L : List Sec) (T : List (Nat × Sec)) : ∀ i, (landL k L T i).length = L.length
  | 0 => rfl
  | i + 1 => by
    rw [landL]
    split
    · rw [List.length_set, landL_len k L T i]
    · exact landL_len k L T i

end Go.Proofs.Ytcbbodjcgjbfaaa.B
