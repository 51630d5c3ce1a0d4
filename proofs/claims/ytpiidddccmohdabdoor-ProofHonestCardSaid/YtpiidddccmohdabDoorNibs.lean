/-
  The nibbles of a key.
-/
import Derived.Test.YtpiidddccmohdabDoorMBase
namespace Go.Proofs.YtpiidddccmohdabDoor.B
open Go
set_option linter.unusedVariables false
set_option maxHeartbeats 2000000
set_option maxRecDepth 100000
attribute [local irreducible] W OpsW OpsQ retP
def hiN (b : UInt8) : UInt8 := (b.toNat / 16).toUInt8
def loN (b : UInt8) : UInt8 := (b.toNat % 16).toUInt8
theorem toU8_lt {x : Nat} (h : x < 256) : x.toUInt8.toNat = x := by
  have : x.toUInt8.toNat = x % 256 := by simp [Nat.toUInt8]
  omega
theorem hiN_nat (b : UInt8) : (hiN b).toNat = b.toNat / 16 := toU8_lt (by have := b.toNat_lt; omega)
theorem loN_nat (b : UInt8) : (loN b).toNat = b.toNat % 16 := toU8_lt (by omega)
/-- The nibbles of a key. -/
def nibs (l : List UInt8) : List UInt8 := l.flatMap fun b => [hiN b, loN b]
theorem nibs_len (l : List UInt8) : (nibs l).length = 2 * l.length := by
  induction l with
  | nil => rfl
  | cons x l ih => unfold nibs at *; rw [List.flatMap_cons, List.length_append, ih, List.length_cons]; simp only [List.length_cons, List.length_nil]; omega
theorem nibs_snoc (l : List UInt8) (x : UInt8) : nibs (l ++ [x]) = nibs l ++ [hiN x, loN x] := by unfold nibs; rw [List.flatMap_append]; rfl
theorem nibs_hi : ∀ (l : List UInt8) (i : Nat), (nibs l)[2 * i]? = (l[i]?).map hiN
  | [], i => by simp [nibs]
  | x :: l, 0 => rfl
  | x :: l, i + 1 => by
    have h := nibs_hi l i
    have e : nibs (x :: l) = hiN x :: loN x :: nibs l := rfl
    rw [e, show 2 * (i + 1) = 2 * i + 1 + 1 by omega]
    simpa using h
theorem nibs_lo : ∀ (l : List UInt8) (i : Nat), (nibs l)[2 * i + 1]? = (l[i]?).map loN
  | [], i => by simp [nibs]
  | x :: l, 0 => rfl
  | x :: l, i + 1 => by
    have h := nibs_lo l i
    have e : nibs (x :: l) = hiN x :: loN x :: nibs l := rfl
    rw [e, show 2 * (i + 1) + 1 = 2 * i + 1 + 1 + 1 by omega]
    simpa using h
theorem nibs_16 : ∀ (l : List UInt8) (x : UInt8), x ∈ nibs l → x.toNat < 16 := fun l x h => by
  unfold nibs at h
  obtain ⟨b, _, hb⟩ := List.mem_flatMap.1 h
  rcases List.mem_cons.1 hb with rfl | hb
  · rw [hiN_nat]; have := b.toNat_lt; omega
  · obtain rfl := List.mem_singleton.1 hb; rw [loN_nat]; omega
end Go.Proofs.YtpiidddccmohdabDoor.B
