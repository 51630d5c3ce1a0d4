/-
  Rows of cells: a slice of structs or arrays is its rows, one behind the other. Functions as values; arrays as values.
-/
import Derived.Test.YtkmciohghhffnaaOfRow
namespace Go.Proofs.Ytkmciohghhffnaa.B
open Go
set_option linter.unusedVariables false
section
variable {f0 : Bool} {c0 : Ctx} {P : Program} {n : Nat} {ops : Array Oper} {F : Fr} {w : World} {K : Fr → World → Prop} {rest : List Oper} {dst : Option Tmp} {ty : TypeId} {pos : String} {after : Array Edge} {g : Option (Nat × Bool)}
theorem r_makeFunc {fn : Fn} {xs ys : List Operand} : Run1 P F ⟨dst, .makeFunc fn xs.toArray ys.toArray, ty, pos, after, g⟩ w (.func fn (xs.map (ev F)).toArray (ys.map (ev F)).toArray) w := by
  unfold Run1; simp [execOp, Instr.makeFunc]
/-- An element of an array as a value, one cell each. -/
theorem r_index1 {x y : Operand} {t e : TypeId} {m : Nat} {z : Value} {by_ : Nat} {k : IntKind} {i : Int} {cs : List Value} {v : Value} {d : TypeDesc} (hx : ev F x = .agg cs.toArray) (hy : ev F y = .int k i) (ht : P.underlying t = some (.array m e)) (he : P.underlying e = some d) (hd : aggD d = false)
    (hi : tinfo P e = some (some z, 1, by_)) (h0 : 0 ≤ i) (h1 : i < m) (hv : cs[i.toNat]? = some v) : Run1 P F ⟨dst, .index t x y, ty, pos, after, g⟩ w v w := by
  unfold Run1; simp [execOp, hx, hy, Instr.index, asIntOf, run_underlying ht, h0, h1, run_sizeOf_t hi, part, run_isAgg he, hd, hv]
theorem made_rep {z : Value} {u : Value} {k c : Nat} (hz : z.cells = (List.replicate k u).toArray) (hk : 0 < k) : madeCells z.cells (c * k) = (List.replicate (c * k) u).toArray := by
  rw [hz]
  apply Array.ext
  · simp [size_madeCells]
  · intro i h1 h2
    have : i % k < k := Nat.mod_lt _ hk
    simp [madeCells, this]
/-- make of elements of k like cells. -/
theorem o_makeN {x y : Operand} {t e : TypeId} {z u : Value} {by_ k : Nat} {kl kc : IntKind} {l c : Nat} (hx : ev F x = .int kl l) (hy : ev F y = .int kc c) (ht : P.underlying t = some (.slice e)) (hi : tinfo P e = some (some z, k, by_)) (hz : z.cells = (List.replicate k u).toArray) (hk : Nat.blt 0 k = true)
    (hlc : l ≤ c) (hby : by_ * c ≤ 281474976710656) (h63 : c ≤ 9223372036854775807) (hg : wantedF ops F ⟨dst, .makeSlice t x y, ty, pos, after, g⟩ = true)
    (h : ∀ w' b, b = w.heap.size → Blk w' b (List.replicate (c * k) u) e → Keep All w w' → w'.heap.size = b + 1 → OpsW f0 c0 P n ops rest (updo n F dst (.slice (some ⟨b, 0, none⟩) l c)) w' K) : OpsW f0 c0 P n ops (⟨dst, .makeSlice t x y, ty, pos, after, g⟩ :: rest) F w K := by
  obtain ⟨i, hi1, hi2, hi3, hi4⟩ := tinfo_info hi
  have hb' : (i.bytes : Int) * (c : Int) ≤ 281474976710656 := by
    have h : ((i.bytes * c : Nat) : Int) ≤ 281474976710656 := by rw [hi4]; omega
    rwa [Int.natCast_mul] at h
  have hr := run_make (P := P) w t e i z ht hi1 hi2 kl kc l c (by omega) (by omega) hb' (by omega)
  simp only [Int.toNat_natCast] at hr
  rw [hi3, made_rep hz (Nat.le_of_ble_eq_true hk)] at hr
  refine op_run0 (v := .slice (some ⟨w.heap.size, 0, none⟩) l c) (w' := w.alloc (.cells (List.replicate (c * k) u).toArray e)) ?_ hg (h _ _ rfl (heap_alloc_new w _) (Keep.alloc w _) (size_alloc w _))
  unfold Run1
  simp only [execOp, hx, hy, Sem.run_bind, hr, Result.andThen_ok]
  rfl
end
section
variable {P : Program} {fn : Func} {S : Value → World → Prop} {w : World}
/-- Two results that lie in memory: an array or struct, and one cell. -/
theorem retAC {F : Fr} {t u : Tmp} {ty ty2 : TypeId} {d d2 : TypeDesc} {a a2 : Addr} {z : Option Value} {by_ : Nat} (cs : List Value) (v2 : Value) (h : fn.results = #[.cell t ty, .cell u ty2]) (ha : F t = .pointer (some a)) (ha2 : F u = .pointer (some a2)) (ht : P.underlying ty = some d) (hd : aggD d = true) (ht2 : P.underlying ty2 = some d2) (hd2 : aggD d2 = false)
    (hi : tinfo P ty = some (z, cs.length, by_)) (hc : ∀ (j : Nat) (v : Value), cs[j]? = some v → w.cell? (a.add j) = some v) (hv2 : w.cell? a2 = some v2) (hS : S (.tuple #[.agg cs.toArray, v2]) w) : retP P fn S .ret F w :=
  ⟨_, fun tmps htm => by
    have h1 : tmps.getD t undef = .pointer (some a) := by rw [htm, ha]
    have h2 : tmps.getD u undef = .pointer (some a2) := by rw [htm, ha2]
    simp only [Array.getD_eq_getD_getElem?] at h1 h2
    simp [results, h, h1, h2, asAddr, loadVar, run_isAgg ht, hd, run_isAgg ht2, hd2, run_sizeOf_t hi, run_loadCells_list w a cs hc, hv2], hS⟩
end
theorem retCC {P : Program} {fn : Func} {S : Value → World → Prop} {w : World} {F : Fr} {t u : Tmp} {ty ty2 : TypeId} {d d2 : TypeDesc} {a a2 : Addr} {z z2 : Option Value} {by_ by2 : Nat} (cs cs2 : List Value) (h : fn.results = #[.cell t ty, .cell u ty2]) (ha : F t = .pointer (some a)) (ha2 : F u = .pointer (some a2)) (ht : P.underlying ty = some d) (hd : aggD d = true) (ht2 : P.underlying ty2 = some d2) (hd2 : aggD d2 = true)
    (hi : tinfo P ty = some (z, cs.length, by_)) (hi2 : tinfo P ty2 = some (z2, cs2.length, by2)) (hc : ∀ (j : Nat) (v : Value), cs[j]? = some v → w.cell? (a.add j) = some v) (hc2 : ∀ (j : Nat) (v : Value), cs2[j]? = some v → w.cell? (a2.add j) = some v) (hS : S (.tuple #[.agg cs.toArray, .agg cs2.toArray]) w) : retP P fn S .ret F w :=
  ⟨_, fun tmps htm => by
    have h1 : tmps.getD t undef = .pointer (some a) := by rw [htm, ha]
    have h2 : tmps.getD u undef = .pointer (some a2) := by rw [htm, ha2]
    simp only [Array.getD_eq_getD_getElem?] at h1 h2
    simp [results, h, h1, h2, asAddr, loadVar, run_isAgg ht, hd, run_isAgg ht2, hd2, run_sizeOf_t hi, run_sizeOf_t hi2, run_loadCells_list w a cs hc, run_loadCells_list w a2 cs2 hc2], hS⟩
/-! ### Rows -/
section
variable {α : Type} (row : α → List Value)
def rows (l : List α) : List Value := l.flatMap row
variable {row} {sz : Nat}
theorem rows_nil : rows row [] = [] := rfl
theorem rows_cons (x : α) (l : List α) : rows row (x :: l) = row x ++ rows row l := rfl
theorem rows_app (l m : List α) : rows row (l ++ m) = rows row l ++ rows row m := by simp [rows]
theorem rows_len (h : ∀ x, (row x).length = sz) : ∀ l : List α, (rows row l).length = l.length * sz
  | [] => by simp [rows]
  | x :: l => by rw [rows_cons, List.length_append, h, rows_len h l, List.length_cons, Nat.add_mul]; omega
theorem rows_drop (h : ∀ x, (row x).length = sz) : ∀ (l : List α) (i : Nat), (rows row l).drop (i * sz) = rows row (l.drop i)
  | [], i => by simp [rows]
  | x :: l, 0 => by simp
  | x :: l, i + 1 => by
    rw [rows_cons, List.drop_succ_cons, ← rows_drop h l i, Nat.add_mul, Nat.one_mul, Nat.add_comm, ← h x, ← List.drop_drop, List.drop_left']
    rfl
theorem rows_take (h : ∀ x, (row x).length = sz) : ∀ (l : List α) (i : Nat), (rows row l).take (i * sz) = rows row (l.take i)
  | [], i => by simp [rows]
  | x :: l, 0 => by simp [rows]
  | x :: l, i + 1 => by
    rw [rows_cons, List.take_succ_cons, rows_cons, ← rows_take h l i, Nat.add_mul, Nat.one_mul, Nat.add_comm, List.take_append, h x, List.take_of_length_le (by rw [h x]; omega), Nat.add_sub_cancel_left]
theorem rows_get (h : ∀ x, (row x).length = sz) {l : List α} {i j : Nat} (hi : i < l.length) (hj : j < sz) : (rows row l)[i * sz + j]? = (row l[i])[j]? := by
  have h1 := rows_drop h l i
  rw [List.drop_eq_getElem_cons hi, rows_cons] at h1
  have h2 := congrArg (fun x : List Value => x[j]?) h1
  simp only [List.getElem?_drop] at h2
  rw [h2, List.getElem?_append_left (by rw [h]; exact hj)]
theorem rows_set (h : ∀ x, (row x).length = sz) {l : List α} {i : Nat} (hi : i < l.length) (y : α) : splice (rows row l) (i * sz) (row y) = rows row (l.set i y) := by
  unfold splice
  rw [rows_take h, h y, show i * sz + sz = (i + 1) * sz by rw [Nat.add_mul, Nat.one_mul], rows_drop h, List.set_eq_take_append_cons_drop, if_pos hi, rows_app, rows_cons, List.append_assoc]
theorem rows_one (h : ∀ x, (row x).all one = true) : ∀ l : List α, (rows row l).all one = true
  | [] => rfl
  | x :: l => by rw [rows_cons, List.all_append, h x, rows_one h l]; rfl
/-- Where row i lies. -/
theorem rows_at (h : ∀ x, (row x).length = sz) {w : World} {a : Option Addr} {c : Nat} {l : List α} {i : Nat} (hs : Sl w (.slice a l.length c) l.length sz (rows row l)) (hi : i < l.length) (h0 : 0 < sz) :
    ∃ b off, a = some ⟨b, off, none⟩ ∧ ∀ (j : Nat) (v : Value), (row l[i])[j]? = some v → w.cell? ⟨b, off + i * sz + j, none⟩ = some v := by
  obtain ⟨b, off, c', e, _, _, hc⟩ := hs.at (Nat.mul_pos (by omega) h0)
  injection e with e1 e2 e3
  refine ⟨b, off, e1, fun j v hv => ?_⟩
  have hj : j < sz := by have := (List.getElem?_eq_some_iff.1 hv).1; rw [h] at this; exact this
  have := hc (i * sz + j) v (by rw [rows_get h hi hj]; exact hv)
  rw [Nat.add_assoc]; exact this
theorem rows_at' (h : ∀ x, (row x).length = sz) {w : World} {a : Option Addr} {c : Nat} {l : List α} {i : Nat} (hs : Sl w (.slice a l.length c) l.length sz (rows row l)) (hi : i < l.length) (h0 : 0 < sz) :
    ∃ b off, a = some ⟨b, off, none⟩ ∧ ∀ (j : Nat) (v : Value), (row l[i])[j]? = some v → w.cell? ((⟨b, off + i * sz, none⟩ : Addr).add j) = some v := by
  obtain ⟨b, off, e, hc⟩ := rows_at h hs hi h0
  exact ⟨b, off, e, fun j v hv => by rw [Addr.add_lit]; exact hc j v hv⟩
/-- The beginning of a row is written anew. -/
theorem rows_part (h : ∀ x, (row x).length = sz) {l : List α} {i : Nat} (hi : i < l.length) (y : α) (cs : List Value) (hc : cs.length ≤ sz) (hy : row y = cs ++ (row l[i]).drop cs.length) : splice (rows row l) (i * sz) cs = rows row (l.set i y) := by
  rw [List.set_eq_take_append_cons_drop, if_pos hi, rows_app, rows_cons, hy, ← rows_take h, ← rows_drop h]
  unfold splice
  have h1 := rows_drop h l i
  rw [List.drop_eq_getElem_cons hi, rows_cons] at h1
  have h2 : (rows row l).drop (i * sz + cs.length) = (row l[i]).drop cs.length ++ (rows row l).drop ((i + 1) * sz) := by
    rw [← List.drop_drop, h1, List.drop_append_of_le_length (by rw [h]; exact hc), rows_drop h]
  rw [h2, List.append_assoc, List.append_assoc]
end
theorem splice_app {xs ex cs : List Value} {off : Nat} (h : off + cs.length ≤ xs.length) : splice (xs ++ ex) off cs = splice xs off cs ++ ex := by
  unfold splice
  rw [List.take_append_of_le_length (by omega), List.drop_append_of_le_length h]; simp only [List.append_assoc]
/-- A slice of one's own with something in it: its block, and what holds when the block is written anew. -/
theorem Own.open {w : World} {e sz : Nat} {v : Value} {n : Nat} {xs : List Value} (h : Own w e sz v n xs) (h0 : 0 < n) :
    ∃ g c ex, v = .slice (some ⟨g, 0, none⟩) n c ∧ n ≤ c ∧ c ≤ maxLen ∧ Blk w g (xs ++ ex) e ∧ ∀ w' xs', Blk w' g (xs' ++ ex) e → xs'.length = xs.length → Own w' e sz v n xs' := by
  obtain ⟨hl, h2⟩ := h
  rcases h2 with ⟨_, h1⟩ | ⟨g, cap, cur, rfl, hg0, hg, h2, h3, h4, h5⟩
  · omega
  · have e1 : xs ++ cur.toList.drop (n * sz) = cur.toList := by rw [← h5]; exact List.take_append_drop _ _
    refine ⟨g, cap, cur.toList.drop (n * sz), rfl, h2, h3, ?_, fun w' xs' hb hx => ?_⟩
    · unfold Blk; rw [e1]; exact hg
    · refine ⟨hx.trans hl, .inr ⟨g, cap, (xs' ++ cur.toList.drop (n * sz)).toArray, rfl, Nat.zero_le _, hb, h2, h3, ?_, ?_⟩⟩
      · have := congrArg List.length e1
        simp only [List.length_append, Array.length_toList] at this
        simp only [List.size_toArray, List.length_append, hx]
        rw [← h4]; exact this
      · show (xs' ++ _).take (n * sz) = xs'
        rw [List.take_append_of_le_length (by rw [hx, hl]; exact Nat.le_refl _), List.take_of_length_le (by rw [hx, hl]; exact Nat.le_refl _)]
end Go.Proofs.Ytkmciohghhffnaa.B
