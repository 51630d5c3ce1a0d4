/-
  slices.Grow of nothing; slices.Concat of bytes.
-/
import Derived.Test.YtpiidddccmohdaaDoorRowsK
import Derived.Lib.AppendZeros
namespace Go.Proofs.YtpiidddccmohdaaDoor.B
open Go
set_option linter.unusedVariables false
set_option maxHeartbeats 2000000
set_option maxRecDepth 100000
attribute [local irreducible] W OpsW OpsQ retP
section
variable {f0 : Bool} {c0 : Ctx} {P : Program} {n : Nat} {ops : Array Oper} {F : Fr} {w : World} {K : Fr → World → Prop} {rest : List Oper} {dst : Option Tmp} {ty : TypeId} {pos : String} {after : Array Edge} {g : Option (Nat × Bool)}
/-- append of zeros to nothing: 'append(nil, make([]T, k)...)'. -/
theorem o_zeros {s x : Operand} {t tn e : TypeId} {z : Value} {by_ : Nat} {kn : IntKind} {k : Nat}
    (hs : ev F s = .slice none 0 0) (hx : ev F x = .int .i64 k) (ht : P.underlying t = some (.slice e)) (htn : P.underlying tn = some (.int kn)) (hi : tinfo P e = some (some z, 1, by_)) (hz : one z = true) (h0 : 0 < k) (h63 : k ≤ maxLen) (hby : k * by_ ≤ 281474976710656)
    (hg : wantedF ops F ⟨dst, .call ⟨.builtin .append, #[s, x], #[t, tn]⟩, ty, pos, after, g⟩ = true)
    (h : ∀ w' b c l, b = w.heap.size → Blk w' b l e → l.length = c → k ≤ c → c ≤ maxLen → Keep All w w' → w'.heap.size = b + 1 → OpsW f0 c0 P n ops rest (updo n F dst (.slice (some ⟨b, 0, none⟩) k c)) w' K) :
    OpsW f0 c0 P n ops (⟨dst, .call ⟨.builtin .append, #[s, x], #[t, tn]⟩, ty, pos, after, g⟩ :: rest) F w K := by
  obtain ⟨i, hi1, hi2, hi3, hi4⟩ := tinfo_info hi
  have hr := Lib.run_append_nil_zeros (P := P) w t tn ty e i z .i64 kn ht htn hi1 hi2 k h0 (by omega) (by unfold maxLen at h63; omega) (by rw [hi4]; exact hby)
  have hge := grownCap_ge w k 0 e
  have hle := grownCap_le_maxLen w k 0 e (by first | exact h63 | (unfold maxLen at h63; omega))
  have hzs : z.cells.size = 1 := by rw [cells_one hz]; rfl
  refine op_run0 (v := .slice (some ⟨w.heap.size, 0, none⟩) k (grownCap w k 0 e)) ?_ hg (h (w.drew.alloc (.cells (Builtin.zeroCells z.cells k ++ Builtin.zeroCells z.cells (grownCap w k 0 e - k)) e)) w.heap.size (grownCap w k 0 e) (Builtin.zeroCells z.cells k ++ Builtin.zeroCells z.cells (grownCap w k 0 e - k)).toList rfl ?_ ?_ hge hle ((Keep.drawn w).trans (Keep.alloc w.drew _)) ?_)
  · (try unfold Run1); simp [execOp, resolve, invoke, builtin, hs, hx, hr]
  · show _ = _
    rw [Array.toArray_toList]
    exact heap_alloc_new w.drew _
  · simp only [Array.length_toList, Array.size_append, size_zeroCells, hzs]; omega
  · exact size_alloc w.drew _
end
/-- Rows, each with the values in it. -/
def Groups (w : World) (gs : List (Value × List Value)) : Prop := ∀ x ∈ gs, Sl w x.1 x.2.length 1 x.2 ∧ x.2.all one = true
theorem Groups.k {w w' : World} {gs : List (Value × List Value)} (h : Groups w gs) (hk : Keep All w w') : Groups w' gs := fun x hx => ⟨(h x hx).1.keepE hk fun _ _ => trivial, (h x hx).2⟩
def flatG (gs : List (Value × List Value)) : List Value := gs.flatMap (·.2)
theorem flatG_s {gs : List (Value × List Value)} {k : Nat} {x : Value × List Value} (h : gs[k]? = some x) : flatG (gs.take (k + 1)) = flatG (gs.take k) ++ x.2 := by
  obtain ⟨h1, h2⟩ := List.getElem?_eq_some_iff.1 h
  unfold flatG; rw [List.take_succ_eq_append_getElem h1, List.flatMap_append, h2]; simp
theorem flatG_le (gs : List (Value × List Value)) (k : Nat) : (flatG (gs.take k)).length ≤ (flatG gs).length := by
  conv => rhs; rw [← List.take_append_drop k gs]
  unfold flatG; rw [List.flatMap_append, List.length_append]; omega
theorem flatG_by : ∀ (gs : List (Value × List UInt8)), flatG (gs.map fun x => (x.1, x.2.map c8)) = (gs.flatMap (·.2)).map c8
  | [] => rfl
  | x :: l => by
    have h := flatG_by l
    unfold flatG at h ⊢
    rw [List.map_cons, List.flatMap_cons, List.flatMap_cons, List.map_append, h]
end Go.Proofs.YtpiidddccmohdaaDoor.B
