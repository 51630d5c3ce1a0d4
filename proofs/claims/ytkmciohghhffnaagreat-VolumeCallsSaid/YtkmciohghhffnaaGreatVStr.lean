/-
  Strings, names.
-/
import Derived.Test.YtkmciohghhffnaaGreatMSha
import Derived.Test.YtkmciohghhffnaaGreatMapG
namespace Go.Proofs.YtkmciohghhffnaaGreat.B
open Go
set_option linter.unusedVariables false
set_option maxHeartbeats 2000000
set_option maxRecDepth 100000
attribute [local irreducible] W OpsW OpsQ retP
theorem baGet {bs : List UInt8} {i : Nat} {b : UInt8} (h : bs[i]? = some b) : (⟨bs.toArray⟩ : ByteArray)[i]? = some b := by
  obtain ⟨hi, he⟩ := List.getElem?_eq_some_iff.1 h
  have hs : i < (⟨bs.toArray⟩ : ByteArray).size := by show i < bs.toArray.size; simpa using hi
  rw [getElem?_pos (⟨bs.toArray⟩ : ByteArray) i hs]
  exact congrArg some he
section
variable {P : Program} {F : Fr} {w : World} {dst : Option Tmp} {ty : TypeId} {pos : String} {after : Array Edge} {g : Option (Nat × Bool)}
theorem r_indexStr {x y : Operand} {t : TypeId} {s : ByteArray} {b : UInt8} {k : IntKind} {i : Int} (hx : ev F x = .string s) (hy : ev F y = .int k i) (ht : P.underlying t = some .string) (h0 : 0 ≤ i) (hv : s[i.toNat]? = some b) :
    Run1 P F ⟨dst, .index t x y, ty, pos, after, g⟩ w (c8 b) w := by
  unfold Run1; simp [execOp, hx, hy, Instr.index, asIntOf, run_underlying ht, h0, hv, c8]
theorem r_neqStr {t t' : TypeId} {x y : Operand} {a b : List UInt8} (hx : ev F x = .string ⟨a.toArray⟩) (hy : ev F y = .string ⟨b.toArray⟩) : Run1 P F ⟨dst, .binOp .neq t x y t', ty, pos, after, g⟩ w (.bool (!decide (a = b))) w := by
  unfold Run1; simp [execOp, hx, hy, eqGuard, binOp, Op.stringOp]
  rw [Bool.eq_iff_iff]; simp
end
theorem baSize (bs : List UInt8) : (⟨bs.toArray⟩ : ByteArray).size = bs.length := by show bs.toArray.size = _; simp
def namedB (bs : List UInt8) : Prop := (∀ x ∈ bs, ¬ (x.toNat ≤ 32 ∨ 126 < x.toNat)) ∧ bs ≠ [] ∧ bs.length ≤ 20
instance (bs : List UInt8) : Decidable (namedB bs) := inferInstanceAs (Decidable (_ ∧ _))
def strA (bs : List UInt8) : Value := .string ⟨bs.toArray⟩
theorem strA_inj {a b : List UInt8} (h : strA a = strA b) : a = b := by
  have h : Value.string (ByteArray.mk a.toArray) = Value.string (ByteArray.mk b.toArray) := h
  injection h with h; injection h with h
  have := congrArg Array.toList h
  simpa using this
theorem keyOk_strA {P : Program} {kt : TypeId} (hd : P.underlying kt = some .string) : KeyOk P kt strA := keyOk_plain hd (fun _ => trivial) (fun a b e => strA_inj e) (fun a => by
  show Instr.sameBits (9999 + 1) (.string _) (.string _) = true
  unfold Instr.sameBits; exact (MapKept.bytes_beq _ _).2 rfl)

end Go.Proofs.YtkmciohghhffnaaGreat.B
