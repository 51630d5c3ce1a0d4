/-
  A literal slice of rows.
-/
import Derived.Test.YtkmciohghhffnaaGrid
namespace Go.Proofs.Ytkmciohghhffnaa.B
open Go
set_option linter.unusedVariables false
section
variable {α : Type} {row : α → List Value} {sz : Nat}
theorem fill_rows (hrow : ∀ x, (row x).length = sz) : ∀ (xs : List α) (i : Nat) (pre zs : List Value), pre.length = i * sz → zs.length = xs.length * sz →
    fillV (fun i => some (i * sz, sz)) (pre ++ zs) ((xs.zipIdx i).map fun p => (p.2, .agg (row p.1).toArray)) = some (pre ++ rows row xs)
  | [], i, pre, zs, hp, hz => by
    obtain rfl : zs = [] := List.length_eq_zero_iff.1 (by simpa using hz)
    simp [fillV, rows]
  | x :: xs, i, pre, zs, hp, hz => by
    have hx := hrow x
    rw [List.length_cons, Nat.succ_mul] at hz
    have ih := fill_rows hrow xs (i + 1) (pre ++ row x) (zs.drop sz) (by rw [List.length_append, hx, hp, Nat.succ_mul]) (by rw [List.length_drop]; omega)
    rw [List.zipIdx_cons, List.map_cons]
    unfold fillV
    simp only
    rw [if_pos ⟨by simp [Value.cells, hx], by rw [List.length_append]; omega⟩]
    have e : splice (pre ++ zs) (i * sz) (Value.cells (.agg (row x).toArray)).toList = (pre ++ row x) ++ zs.drop sz := by
      unfold splice
      simp only [Value.cells]
      rw [← hp, List.take_left, hx, ← List.drop_drop, List.drop_left]
    rw [e, ih, rows_cons, List.append_assoc]
section
variable {P : Program} {w : World}
theorem run_buildSliceR {t e : TypeId} {z : Value} {by_ : Nat} (hrow : ∀ x, (row x).length = sz) (xs : List α) (ht : P.underlying t = some (.slice e)) (hi : tinfo P e = some (some z, sz, by_)) (h0 : 0 < sz) (h1 : 0 < xs.length) (h24 : xs.length * sz ≤ 2 ^ 24) :
    (Instr.buildSlice t xs.length ((xs.zipIdx.map fun p => (p.2, Value.agg (row p.1).toArray)).toArray)).run P w = .ok (.slice (some ⟨w.heap.size, 0, none⟩) xs.length xs.length) (w.alloc (.cells (rows row xs).toArray e)) := by
  have hf : ∀ arr : Array Value, arr.size = xs.length * sz → Instr.fill (fun i => some (i * sz, sz)) arr (xs.zipIdx.map fun p => (p.2, Value.agg (row p.1).toArray)) = some (rows row xs).toArray := fun arr ha => by
    have h := fill_eq _ _ _ (fill_rows hrow xs 0 [] arr.toList (by simp) (by simpa using ha))
    simpa using h
  have hne : ¬ xs.length * sz = 0 := by have := Nat.mul_pos h1 h0; omega
  simp only [Instr.buildSlice, Sem.run_bind, run_underlying ht, Result.andThen, run_sizeOf_t hi]
  rw [if_neg (by omega), if_neg hne]
  simp only [Sem.run_bind, Sem.run_pure, run_zero_t hi, Result.andThen]
  rw [hf _ (by simp)]
  simp [newRow]
variable {f0 : Bool} {c0 : Ctx} {F : Fr} {n : Nat} {ops : Array Oper} {K : Fr → World → Prop} {rest : List Oper} {dst : Option Tmp} {ty : TypeId} {pos : String} {after : Array Edge} {g : Option (Nat × Bool)}
theorem o_bsR {t e : TypeId} {z : Value} {by_ len : Nat} {parts : List (Nat × Operand)} (row : α → List Value) (hrow : ∀ x, (row x).length = sz) (xs : List α) (ht : P.underlying t = some (.slice e)) (hi : tinfo P e = some (some z, sz, by_)) (h0 : Nat.blt 0 sz = true) (h1 : Nat.blt 0 xs.length = true) (h24 : Nat.ble (xs.length * sz) (2 ^ 24) = true)
    (hlen : len = xs.length) (hp : (parts.map fun p => (p.1, ev F p.2)) = xs.zipIdx.map fun p => (p.2, Value.agg (row p.1).toArray)) (hg : wantedF ops F ⟨dst, .buildSlice t len parts.toArray, ty, pos, after, g⟩ = true)
    (h : ∀ w' b, b = w.heap.size → Blk w' b (rows row xs) e → Keep All w w' → w'.heap.size = b + 1 → OpsW f0 c0 P n ops rest (updo n F dst (.slice (some ⟨b, 0, none⟩) len len)) w' K) : OpsW f0 c0 P n ops (⟨dst, .buildSlice t len parts.toArray, ty, pos, after, g⟩ :: rest) F w K := by
  subst hlen
  exact o_bs _ ht hi (by rw [hp]; exact run_buildSliceR hrow xs ht hi (Nat.le_of_ble_eq_true h0) (Nat.le_of_ble_eq_true h1) (Nat.le_of_ble_eq_true h24)) hg h
end
end
end Go.Proofs.Ytkmciohghhffnaa.B
