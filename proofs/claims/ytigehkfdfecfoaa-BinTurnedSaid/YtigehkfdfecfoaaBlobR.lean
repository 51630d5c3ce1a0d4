/-
  BlobReads: the document's example; the walk.
-/
import Derived.Test.YtigehkfdfecfoaaRef07b
import Derived.Test.YtigehkfdfecfoaaMSha
import Derived.Test.YtigehkfdfecfoaaMPack
namespace Go.Proofs.Ytigehkfdfecfoaa.B
open Go
set_option linter.unusedVariables false
set_option maxHeartbeats 2000000
set_option maxRecDepth 100000
attribute [local irreducible] W OpsW OpsQ retP
theorem rdB_put {M : List Sec} {a : Nat} {bs : List UInt8} (hl : bs.length ≤ 65536) (h1 : a < M.length) (h : a + sectorsN bs.length ≤ M.length) : rdB (putAt M a (laidL bs)) (ofR (a : Int) bs) = some bs := by
  have e : bytesAt (putAt M a (laidL bs)) a bs.length = bs := bytesAt_put h
  unfold rdB
  have e1 : (ofR (a : Int) bs).at_.toNat = a := by unfold ofR; simp
  have e2 : (ofR (a : Int) bs).len.toNat = bs.length := by unfold ofR; simp
  rw [e1, e2, e, if_pos]
  refine ⟨⟨⟨?_, ?_⟩, ?_, ?_, ?_⟩, rfl⟩
  · show (0 : Int) ≤ (bs.length : Int); omega
  · show (bs.length : Int) ≤ 65536; omega
  · show (0 : Int) ≤ (a : Int); omega
  · show (a : Int) < _; rw [putAt_len (by rw [laidL_len]; exact h)]; omega
  · show ((sectorsN (ofR (a : Int) bs).len.toNat : Nat) : Int) ≤ _ - (a : Int)
    rw [e2, putAt_len (by rw [laidL_len]; exact h)]; omega
end Go.Proofs.Ytigehkfdfecfoaa.B
