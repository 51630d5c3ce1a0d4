/-
  A disk: Sync, Crash.
-/
import Derived.Test.YtcbbodjcgjbfaaaDisk4
namespace Go.Proofs.Ytcbbodjcgjbfaaa.B
open Go
set_option linter.unusedVariables false
set_option maxHeartbeats 2000000
set_option maxRecDepth 100000
attribute [local irreducible] W OpsW OpsQ retP
theorem landL_64 (L : List Sec) (T : List (Nat × Sec)) : ∀ i, i ≤ T.length → landL (fun _ => 64) L T i = seen L (T.take i)
  | 0, _ => by simp [landL, seen]
  | i + 1, h => by rw [landL_s (by omega), landL_64 L T i (by omega), mix_64, take_snoc (by omega), seen_snoc]

/-- What becomes of the i-th write in a crash. -/
def fate (ps : List UInt8) (i : Nat) : Nat :=
  let p := (ps.getD (i % ps.length) 0).toNat
  if p % 3 = 0 then 0 else if p % 3 = 1 then 64 else p % 64
theorem fate_le (ps : List UInt8) (i : Nat) : fate ps i ≤ 64 := by
  unfold fate; simp only; split
  · omega
  · split <;> omega


/-- What picks are, where none were given. -/
def picks (ps : List UInt8) : List UInt8 := if ps = [] then [0] else ps
end Go.Proofs.Ytcbbodjcgjbfaaa.B
