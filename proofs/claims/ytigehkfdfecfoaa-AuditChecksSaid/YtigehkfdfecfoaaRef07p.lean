/-
  The document's Refs are put. (The same text as in Ref14: never import both.)
-/
import Derived.Test.YtigehkfdfecfoaaMRef
namespace Go.Proofs.Ytigehkfdfecfoaa.B
open Go
set_option linter.unusedVariables false
set_option maxHeartbeats 2000000
set_option maxRecDepth 100000
attribute [local irreducible] W OpsW OpsQ retP
end Go.Proofs.Ytigehkfdfecfoaa.B
