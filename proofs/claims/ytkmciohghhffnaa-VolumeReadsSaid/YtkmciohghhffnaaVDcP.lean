/-
  volume.Decode, told by parts.
-/
import Derived.Test.YtkmciohghhffnaaVDcd
namespace Go.Proofs.Ytkmciohghhffnaa.B
open Go
set_option linter.unusedVariables false
set_option maxHeartbeats 2000000
set_option maxRecDepth 100000
attribute [local irreducible] W OpsW OpsQ retP
section
variable {P : Program} {F : Fr} {w : World} {dst : Option Tmp} {ty : TypeId} {pos : String} {after : Array Edge} {g : Option (Nat × Bool)}
theorem r_notNilV {x : Operand} {t t' : TypeId} {e : TypeId} {a : Option Addr} (hx : ev F x = .pointer a) (ht : P.underlying t = some (.pointer e)) :
    Run1 P F ⟨dst, .binOp .neq t x (.const (.pointer none)) t', ty, pos, after, g⟩ w (.bool (!a.isNone)) w := by
  have h1 : (Op.equal t (.pointer a) (.pointer none)).run P w = .ok a.isNone w := by
    unfold Op.equal
    rw [show Op.maxDepth = 9999 + 1 from rfl, Op.equalIn]
    cases a <;> simp [run_underlying ht]
  have hy : ev F (.const (.pointer none)) = .pointer none := rfl
  (try unfold Run1); simp [execOp, hx, hy, eqGuard, binOp, h1]
end
def DecP (w : World) (xs : List UInt8) (p : Option Addr) (e : Int) (w' : World) : Prop :=
  (setR12 xs = none ∧ p = none ∧ e = 3 ∧ Keep All w w') ∨ ∃ mb bm l', setR12 xs = some (abs l') ∧ p = some ⟨mb, 0, none⟩ ∧ e = 0 ∧ MSv w w' mb bm l'
theorem DecP.k {w w' : World} {xs : List UInt8} {p : Option Addr} {e : Int} (h : DecP w xs p e w') : Keep All w w' := by
  rcases h with ⟨_, _, _, h⟩ | ⟨_, _, _, _, _, _, h⟩
  · exact h
  · exact h.k
theorem vl_DecodeP (w : World) (v : Value) (xs : List UInt8) (hx : By w v xs) (hl : xs.length ≤ 2 ^ 40) : Ret Try.prog 28 [v].toArray w fun r w' => ∃ p e, r = .tuple #[.pointer p, .int .i64 e] ∧ DecP w xs p e w' := by
  refine Calls.mono (vl_Decode w v xs hx hl) ?_
  rintro e w' ⟨r, rfl, hh⟩
  refine ⟨r, rfl, ?_⟩
  rcases hh with ⟨h1, rfl, h2⟩ | ⟨mb, bm, l', h1, rfl, h2⟩
  · exact ⟨none, 3, rfl, .inl ⟨h1, rfl, rfl, h2⟩⟩
  · exact ⟨some _, 0, rfl, .inr ⟨mb, bm, l', h1, rfl, rfl, h2⟩⟩
end Go.Proofs.Ytkmciohghhffnaa.B
