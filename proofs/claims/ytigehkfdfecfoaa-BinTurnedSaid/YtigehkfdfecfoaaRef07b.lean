/-
  The document's blobs: Read.
-/
import Derived.Test.YtigehkfdfecfoaaRef07
namespace Go.Proofs.Ytigehkfdfecfoaa.B
open Go
set_option linter.unusedVariables false
set_option maxHeartbeats 2000000
set_option maxRecDepth 100000
attribute [local irreducible] W OpsW OpsQ retP
theorem bytesAt_get {M : List Sec} {a len i : Nat} {s : Sec} (hi : i < len) (hs : M[a + i / 64]? = some s) : (bytesAt M a len)[i]? = s.val[i % 64]? := by
  unfold bytesAt
  rw [List.getElem?_take, if_pos hi]
  have h := flatS_get (M.drop a) (i / 64) (i % 64) s (by rw [List.getElem?_drop]; exact hs) (Nat.mod_lt _ (by decide))
  rwa [show 64 * (i / 64) + i % 64 = i by omega] at h
end Go.Proofs.Ytigehkfdfecfoaa.B
