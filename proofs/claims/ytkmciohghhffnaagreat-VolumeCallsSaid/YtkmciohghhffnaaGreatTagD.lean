/-
  Digests of rows for a use, as rows of cells.
-/
import Derived.Test.YtkmciohghhffnaaGreatMTag
namespace Go.Proofs.YtkmciohghhffnaaGreat.B
open Go
set_option linter.unusedVariables false
set_option maxHeartbeats 2000000
set_option maxRecDepth 100000
attribute [local irreducible] W OpsW OpsQ retP
theorem sh_TagD (w : World) (v : Value) (use : UInt8) (pss : List (List UInt8)) (hv : SlR w v 1 (RowB w) pss) (hl : (tagB use pss).length ≤ 1000000) :
    Ret Tryz.prog 37 [c8 use, v].toArray w fun r w' => r = .agg (dgR (tagD use pss)).toArray ∧ Keep All w w' := sh_Tagged w v use pss hv hl
theorem rf_TagD (w : World) (v : Value) (use : UInt8) (pss : List (List UInt8)) (hv : SlR w v 1 (RowB w) pss) (hl : (tagB use pss).length ≤ 1000000) :
    Ret Tryz.prog 38 [c8 use, v].toArray w fun r w' => r = .agg (dgR (tagD use pss)).toArray ∧ Keep All w w' := rf_Tagged w v use pss hv hl
end Go.Proofs.YtkmciohghhffnaaGreat.B
