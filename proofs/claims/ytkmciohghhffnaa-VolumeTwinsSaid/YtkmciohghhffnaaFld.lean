/-
  A field of a struct that is a value.
-/
import Derived.Test.YtkmciohghhffnaaMBase
namespace Go.Proofs.Ytkmciohghhffnaa.B
open Go
set_option linter.unusedVariables false
set_option maxHeartbeats 2000000
set_option maxRecDepth 100000
attribute [local irreducible] W OpsW OpsQ retP
section
variable {P : Program} {F : Fr} {w : World} {dst : Option Tmp} {ty : TypeId} {pos : String} {after : Array Edge} {g : Option (Nat × Bool)}
theorem r_fieldA {x : Operand} {t : TypeId} {f : Nat} {fs : Array Field} {fd : Field} {d : TypeDesc} {z : Option Value} {sz by_ : Nat} {cs : List Value} (ds : List Value) (hx : ev F x = .agg cs.toArray) (ht : P.underlying t = some (.struct fs))
    (hf : fs[f]? = some fd) (hfd : P.underlying fd.type = some d) (hd : aggD d = true) (hi : tinfo P fd.type = some (z, sz, by_)) (he : (cs.drop fd.offset).take sz = ds) :
    Run1 P F ⟨dst, .field t x f, ty, pos, after, g⟩ w (.agg ds.toArray) w := by
  subst he
  unfold Run1; simp [execOp, hx, Instr.field, run_underlying ht, hf, asAgg, part, run_isAgg hfd, hd, run_sizeOf_t hi]
theorem r_field1 {x : Operand} {t : TypeId} {f : Nat} {fs : Array Field} {fd : Field} {d : TypeDesc} {cs : List Value} {v : Value} (hx : ev F x = .agg cs.toArray) (ht : P.underlying t = some (.struct fs))
    (hf : fs[f]? = some fd) (hfd : P.underlying fd.type = some d) (hd : aggD d = false) (he : cs[fd.offset]? = some v) :
    Run1 P F ⟨dst, .field t x f, ty, pos, after, g⟩ w v w := by
  unfold Run1; simp [execOp, hx, Instr.field, run_underlying ht, hf, asAgg, part, run_isAgg hfd, hd, he]
end
end Go.Proofs.Ytkmciohghhffnaa.B
