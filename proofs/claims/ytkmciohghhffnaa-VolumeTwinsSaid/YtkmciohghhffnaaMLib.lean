/-
  Texts merged (mtpl.py): Ty64 OfRow Grid Range Gate Mono Dig BsR.
-/
import Derived.Test.YtkmciohghhffnaaMBase
/-! What the seat's table of types tells of uint64. -/
namespace Go.Proofs.Ytkmciohghhffnaa.B
open Go
theorem ti_u64 : tinfo Try.prog 73 = some (some (.int .u64 0), 1, 8) := by kernel_rfl
def c64 (n : Nat) : Value := .int .u64 (n : Int)
theorem one_c64 (n : Nat) : one (c64 n) = true := rfl
theorem all_c64 (ws : List Nat) : (ws.map c64).all one = true := by simp [one_c64]
end Go.Proofs.Ytkmciohghhffnaa.B
/-! Slices of rows (structs) of one's own: a literal of one, a beginning of one. -/
namespace Go.Proofs.Ytkmciohghhffnaa.B
open Go
set_option linter.unusedVariables false
theorem fill_one {cs : List Value} {arr : Array Value} (ha : arr.size = cs.length) : Instr.fill (fun i => some (i * cs.length, cs.length)) arr [(0, .agg cs.toArray)] = some cs.toArray := by
  have h := fill_eq (place := fun i => some (i * cs.length, cs.length)) [(0, .agg cs.toArray)] arr.toList cs (by
    show (if _ ∧ _ then _ else _) = _
    rw [if_pos ⟨by simp [Value.cells], by simp [ha]⟩, Nat.zero_mul, splice_all (by simp [Value.cells, ha])]
    simp [fillV, Value.cells])
  simpa using h
section
variable {f0 : Bool} {c0 : Ctx} {P : Program} {n : Nat} {ops : Array Oper} {F : Fr} {w : World} {K : Fr → World → Prop} {rest : List Oper} {dst : Option Tmp} {ty : TypeId} {pos : String} {after : Array Edge} {g : Option (Nat × Bool)}
/-- A literal slice of one row. -/
theorem o_bsA1 {t e : TypeId} {x : Operand} {z : Value} {by_ : Nat} (cs : List Value) (hx : ev F x = .agg cs.toArray) (ht : P.underlying t = some (.slice e)) (hi : tinfo P e = some (some z, cs.length, by_)) (h0 : Nat.blt 0 cs.length = true) (h24 : cs.length ≤ 2 ^ 24)
    (hg : wantedF ops F ⟨dst, .buildSlice t 1 #[(0, x)], ty, pos, after, g⟩ = true)
    (h : ∀ w' b, b = w.heap.size → Blk w' b cs e → Keep All w w' → w'.heap.size = b + 1 → OpsW f0 c0 P n ops rest (updo n F dst (.slice (some ⟨b, 0, none⟩) 1 1)) w' K) : OpsW f0 c0 P n ops (⟨dst, .buildSlice t 1 #[(0, x)], ty, pos, after, g⟩ :: rest) F w K := by
  refine op_run0 (v := .slice (some ⟨w.heap.size, 0, none⟩) 1 1) (w' := w.alloc (.cells cs.toArray e)) ?_ hg (h _ _ rfl (heap_alloc_new w _) (Keep.alloc w _) (size_alloc w _))
  have h0' : cs.length ≠ 0 := by have := Nat.le_of_ble_eq_true h0; omega
  have hf : ∀ arr : Array Value, arr.size = cs.length → Instr.fill (fun i => some (i * cs.length, cs.length)) arr [(0, .agg cs.toArray)] = some cs.toArray := fun arr ha => fill_one ha
  have hc : cs ≠ [] := fun e => h0' (by rw [e]; rfl)
  (try unfold Run1); simp [execOp, hx, Instr.buildSlice, run_underlying ht, run_sizeOf_t hi, run_zero_t hi, newRow, hc, Nat.not_lt.2 h24, hf]
end
/-- A beginning of a slice of one's own. -/
theorem Own.take {w : World} {e sz : Nat} {a : Option Addr} {n c : Nat} {xs : List Value} (h : Own w e sz (.slice a n c) n xs) (m : Nat) (hm : m ≤ n) : Own w e sz (.slice a m c) m (xs.take (m * sz)) := by
  have hl := h.1
  refine ⟨by rw [List.length_take, hl]; exact Nat.min_eq_left (Nat.mul_le_mul_right _ hm), ?_⟩
  rcases h.2 with ⟨hv, hn⟩ | ⟨g, cap, cur, hv, hg, hh, h1, h2, h3, h4⟩
  · injection hv with e1 e2 e3
    subst e1; subst e3
    obtain rfl : m = 0 := by omega
    exact .inl ⟨rfl, rfl⟩
  · injection hv with e1 e2 e3
    subst e1; subst e3
    refine .inr ⟨g, c, cur, rfl, hg, hh, by omega, h2, h3, ?_⟩
    rw [← h4, List.take_take, Nat.min_eq_left]
    exact Nat.mul_le_mul_right sz hm
theorem r_sliceS_lohimx {P : Program} {F : Fr} {w : World} {dst : Option Tmp} {ty : TypeId} {pos : String} {after : Array Edge} {g : Option (Nat × Bool)} {x lo hi mx : Operand} {t e : TypeId} {a : Option Addr} {n c : Nat} {k k' k'' : IntKind} {i j m : Int} {z : Option Value} {sz by_ : Nat} (hx : ev F x = .slice a n c) (hlo : ev F lo = .int k i) (hhi : ev F hi = .int k' j) (hmx : ev F mx = .int k'' m)
    (ht : P.underlying t = some (.slice e)) (hi' : tinfo P e = some (z, sz, by_)) (h0 : 0 ≤ i) (h1 : i ≤ j) (h2 : j ≤ m) (h3 : m ≤ c) :
    Run1 P F ⟨dst, .slice t x (some lo) (some hi) (some mx), ty, pos, after, g⟩ w (subSl a sz i.toNat j.toNat m.toNat) w := by
  have hj0 : 0 ≤ j := by omega
  have hm0 : 0 ≤ m := by omega
  have hij : i ≤ (j.toNat : Int) := by omega
  have hjm : j ≤ (m.toNat : Int) := by omega
  (try unfold Run1); simp [execOp, hx, hlo, hmx, hhi, Instr.sliceAt, Instr.slice, run_underlying ht, Instr.sliceBounds, run_sizeOf_t hi', run_bound hm0 h3, run_bound hj0 hjm, run_bound h0 hij, subSl]
theorem subSl_0 (g o sz i c : Nat) : subSl (some ⟨g, o, none⟩) sz 0 i c = .slice (some ⟨g, o, none⟩) i c := by
  unfold subSl
  by_cases h : c = 0
  · rw [if_pos h]; simp
  · rw [if_neg h, Option.map_some, Addr.add_lit]; simp
/-- A part of a slice that is read. -/
theorem Sl.sub {w : World} {a : Option Addr} {n c sz l h m : Nat} {cs : List Value} (hs : Sl w (.slice a n c) n sz cs) (h1 : l ≤ h) (h2 : h ≤ n) (h3 : h ≤ m) (h4 : m ≤ c) : Sl w (subSl a sz l h m) (h - l) sz ((cs.take (h * sz)).drop (l * sz)) := by
  obtain ⟨a', c', e, h5, h6, h7, h8, h9⟩ := hs
  injection e with e1 e2 e3
  subst e1; subst e3
  have hl : ((cs.take (h * sz)).drop (l * sz)).length = (h - l) * sz := by
    rw [List.length_drop, List.length_take, h7, Nat.sub_mul, Nat.min_eq_left (Nat.mul_le_mul_right sz h2)]
  have hmul := Nat.mul_le_mul_right sz h1
  have hmul2 := Nat.mul_le_mul_right sz h2
  refine ⟨_, _, rfl, by omega, by omega, hl, ?_, ?_⟩
  · intro he
    cases a with
    | none => have := h8 rfl; omega
    | some x => split at he <;> cases he
  · intro x hx i u hu
    have hi := (List.getElem?_eq_some_iff.1 hu).1
    rw [hl] at hi
    rw [List.getElem?_drop, List.getElem?_take] at hu
    split at hu
    · rename_i hlt
      cases a with
      | none => split at hx <;> cases hx
      | some y =>
        have hne : m ≠ l := by
          intro e
          have : h - l = 0 := by omega
          rw [this] at hi; omega
        rw [if_neg hne, Option.map_some] at hx
        injection hx with hx
        obtain ⟨k1, k2⟩ := h9 y rfl _ u hu
        obtain ⟨b, off, sp⟩ := y
        simp only at k1
        subst k1
        rw [Addr.add_lit] at hx
        subst hx
        refine ⟨rfl, ?_⟩
        rw [← k2]
        simp only [Nat.add_assoc]
    · cases hu
theorem By.sub {w : World} {a : Option Addr} {n c l h m : Nat} {xs : List UInt8} (hb : By w (.slice a n c) xs) (h1 : l ≤ h) (h2 : h ≤ xs.length) (h3 : h ≤ m) (h4 : m ≤ c) : By w (subSl a 1 l h m) ((xs.take h).drop l) := by
  obtain ⟨a', c', e, h5, h6, h7, h8, h9⟩ := hb
  cases e
  have hlen : ((xs.take h).drop l).length = h - l := by simp; omega
  show Sl w _ ((xs.take h).drop l).length 1 _
  rw [hlen]
  refine ⟨_, _, rfl, by omega, by omega, by simp; omega, ?_, ?_⟩
  · intro e
    have : a = none := by
      split at e
      · exact e
      · simpa using e
    have := h8 this
    omega
  · intro x hx i u hu
    rw [List.getElem?_map, List.getElem?_drop, List.getElem?_take] at hu
    split at hu
    · rename_i hlt
      have hne : m ≠ l := by omega
      rw [if_neg hne] at hx
      obtain ⟨y, rfl, rfl⟩ := Option.map_eq_some_iff.1 hx
      obtain ⟨h10, h11⟩ := h9 y rfl (l + i) u (by rw [List.getElem?_map]; exact hu)
      obtain ⟨yb, yo, ys⟩ := y
      simp only at h10; subst h10
      simp only [Addr.add_lit]
      refine ⟨trivial, ?_⟩
      rw [← h11]; simp only [Nat.mul_one]; congr 2; omega
    · cases hu
/-- A block of bytes, read whole. -/
theorem By.of_cells {w : World} {b c : Nat} {bs : List UInt8} (h : ∀ (j : Nat) (v : Value), (bs.map c8)[j]? = some v → w.cell? ⟨b, j, none⟩ = some v) (hc : bs.length ≤ c) (hm : c ≤ maxLen) : By w (.slice (some ⟨b, 0, none⟩) bs.length c) bs :=
  ⟨_, c, rfl, hc, hm, by simp, (fun e => by cases e), fun x hx i u hu => by injection hx with hx; subst hx; exact ⟨rfl, (by rw [Nat.zero_add]; exact h i u hu)⟩⟩
/-- Bytes in the midst of a block. -/
theorem By.of_at {w : World} {b off c : Nat} {bs : List UInt8} (h : ∀ (j : Nat) (v : Value), (bs.map c8)[j]? = some v → w.cell? ⟨b, off + j, none⟩ = some v) (hc : bs.length ≤ c) (hm : c ≤ maxLen) : By w (.slice (some ⟨b, off, none⟩) bs.length c) bs :=
  ⟨_, c, rfl, hc, hm, by simp, (fun e => by cases e), fun x hx i u hu => by injection hx with hx; subst hx; exact ⟨rfl, h i u hu⟩⟩
theorem splice_copy (cs : List Value) (m : Nat) (z : Value) (h : cs.length ≤ m) : splice (List.replicate m z) 0 cs = cs ++ List.replicate (m - cs.length) z := by
  unfold splice; simp
/-- An array or struct that lies in memory, and a value. -/
theorem retAT {P : Program} {fn : Func} {S : Value → World → Prop} {w : World} {F : Fr} {t u : Tmp} {ty : TypeId} {d : TypeDesc} {a : Addr} {z : Option Value} {by_ : Nat} (cs : List Value) (v2 : Value) (h : fn.results = #[.cell t ty, .tmp u]) (ha : F t = .pointer (some a)) (hv2 : F u = v2) (ht : P.underlying ty = some d) (hd : aggD d = true)
    (hi : tinfo P ty = some (z, cs.length, by_)) (hc : ∀ (j : Nat) (v : Value), cs[j]? = some v → w.cell? (a.add j) = some v) (hS : S (.tuple #[.agg cs.toArray, v2]) w) : retP P fn S .ret F w :=
  ⟨_, fun tmps htm => by
    have h1 : tmps.getD t undef = .pointer (some a) := by rw [htm, ha]
    have h2 : tmps.getD u undef = v2 := by rw [htm, hv2]
    simp only [Array.getD_eq_getD_getElem?] at h1 h2
    simp [results, h, h1, h2, asAddr, loadVar, run_isAgg ht, hd, run_sizeOf_t hi, run_loadCells_list w a cs hc], hS⟩
/-- Two cells. -/
theorem row2 {w : World} {b off : Nat} {u v : Value} (h0 : w.cell? ⟨b, off, none⟩ = some u) (h1 : w.cell? ⟨b, off + 1, none⟩ = some v) : ∀ (j : Nat) (x : Value), [u, v][j]? = some x → w.cell? ((⟨b, off, none⟩ : Addr).add j) = some x := by
  intro j x hj
  rw [Addr.add_lit]
  match j, hj with
  | 0, hj => injection hj with hj; subst hj; exact h0
  | 1, hj => injection hj with hj; subst hj; exact h1
end Go.Proofs.Ytkmciohghhffnaa.B
/-! Rows of cells: a slice of structs or arrays is its rows, one behind the other. Functions as values; arrays as values. -/
namespace Go.Proofs.Ytkmciohghhffnaa.B
open Go
set_option linter.unusedVariables false
section
variable {f0 : Bool} {c0 : Ctx} {P : Program} {n : Nat} {ops : Array Oper} {F : Fr} {w : World} {K : Fr → World → Prop} {rest : List Oper} {dst : Option Tmp} {ty : TypeId} {pos : String} {after : Array Edge} {g : Option (Nat × Bool)}
theorem r_makeFunc {fn : Fn} {xs ys : List Operand} : Run1 P F ⟨dst, .makeFunc fn xs.toArray ys.toArray, ty, pos, after, g⟩ w (.func fn (xs.map (ev F)).toArray (ys.map (ev F)).toArray) w := by
  unfold Run1; simp [execOp, Instr.makeFunc]
/-- An element of an array aa_ a value, one cell each. -/
theorem r_index1 {x y : Operand} {t e : TypeId} {m : Nat} {z : Value} {by_ : Nat} {k : IntKind} {i : Int} {cs : List Value} {v : Value} {d : TypeDesc} (hx : ev F x = .agg cs.toArray) (hy : ev F y = .int k i) (ht : P.underlying t = some (.array m e)) (he : P.underlying e = some d) (hd : aggD d = false)
    (hi : tinfo P e = some (some z, 1, by_)) (h0 : 0 ≤ i) (h1 : i < m) (hv : cs[i.toNat]? = some v) : Run1 P F ⟨dst, .index t x y, ty, pos, after, g⟩ w v w := by
  unfold Run1; simp [execOp, hx, hy, Instr.index, asIntOf, run_underlying ht, h0, h1, run_sizeOf_t hi, part, run_isAgg he, hd, hv]
theorem made_rep {z : Value} {u : Value} {k c : Nat} (hz : z.cells = (List.replicate k u).toArray) (hk : 0 < k) : madeCells z.cells (c * k) = (List.replicate (c * k) u).toArray := by
  rw [hz]
  apply Array.ext
  · simp [size_madeCells]
  · intro i h1 h2
    have : i % k < k := Nat.mod_lt _ hk
    simp [madeCells, this]
/-- make of elements of k like cells. -/
theorem o_makeN {x y : Operand} {t e : TypeId} {z u : Value} {by_ k : Nat} {kl kc : IntKind} {l c : Nat} (hx : ev F x = .int kl l) (hy : ev F y = .int kc c) (ht : P.underlying t = some (.slice e)) (hi : tinfo P e = some (some z, k, by_)) (hz : z.cells = (List.replicate k u).toArray) (hk : Nat.blt 0 k = true)
    (hlc : l ≤ c) (hby : by_ * c ≤ 281474976710656) (h63 : c ≤ 9223372036854775807) (hg : wantedF ops F ⟨dst, .makeSlice t x y, ty, pos, after, g⟩ = true)
    (h : ∀ w' b, b = w.heap.size → Blk w' b (List.replicate (c * k) u) e → Keep All w w' → w'.heap.size = b + 1 → OpsW f0 c0 P n ops rest (updo n F dst (.slice (some ⟨b, 0, none⟩) l c)) w' K) : OpsW f0 c0 P n ops (⟨dst, .makeSlice t x y, ty, pos, after, g⟩ :: rest) F w K := by
  obtain ⟨i, hi1, hi2, hi3, hi4⟩ := tinfo_info hi
  have hb' : (i.bytes : Int) * (c : Int) ≤ 281474976710656 := by
    have h : ((i.bytes * c : Nat) : Int) ≤ 281474976710656 := by rw [hi4]; omega
    rwa [Int.natCast_mul] at h
  have hr := run_make (P := P) w t e i z ht hi1 hi2 kl kc l c (by omega) (by omega) hb' (by omega)
  simp only [Int.toNat_natCast] at hr
  rw [hi3, made_rep hz (Nat.le_of_ble_eq_true hk)] at hr
  refine op_run0 (v := .slice (some ⟨w.heap.size, 0, none⟩) l c) (w' := w.alloc (.cells (List.replicate (c * k) u).toArray e)) ?_ hg (h _ _ rfl (heap_alloc_new w _) (Keep.alloc w _) (size_alloc w _))
  unfold Run1
  simp only [execOp, hx, hy, Sem.run_bind, hr, Result.andThen_ok]
  rfl
end
section
variable {P : Program} {fn : Func} {S : Value → World → Prop} {w : World}
/-- Two results that lie in memory: an array or struct, and one cell. -/
theorem retAC {F : Fr} {t u : Tmp} {ty ty2 : TypeId} {d d2 : TypeDesc} {a a2 : Addr} {z : Option Value} {by_ : Nat} (cs : List Value) (v2 : Value) (h : fn.results = #[.cell t ty, .cell u ty2]) (ha : F t = .pointer (some a)) (ha2 : F u = .pointer (some a2)) (ht : P.underlying ty = some d) (hd : aggD d = true) (ht2 : P.underlying ty2 = some d2) (hd2 : aggD d2 = false)
    (hi : tinfo P ty = some (z, cs.length, by_)) (hc : ∀ (j : Nat) (v : Value), cs[j]? = some v → w.cell? (a.add j) = some v) (hv2 : w.cell? a2 = some v2) (hS : S (.tuple #[.agg cs.toArray, v2]) w) : retP P fn S .ret F w :=
  ⟨_, fun tmps htm => by
    have h1 : tmps.getD t undef = .pointer (some a) := by rw [htm, ha]
    have h2 : tmps.getD u undef = .pointer (some a2) := by rw [htm, ha2]
    simp only [Array.getD_eq_getD_getElem?] at h1 h2
    simp [results, h, h1, h2, asAddr, loadVar, run_isAgg ht, hd, run_isAgg ht2, hd2, run_sizeOf_t hi, run_loadCells_list w a cs hc, hv2], hS⟩
end
theorem retCC {P : Program} {fn : Func} {S : Value → World → Prop} {w : World} {F : Fr} {t u : Tmp} {ty ty2 : TypeId} {d d2 : TypeDesc} {a a2 : Addr} {z z2 : Option Value} {by_ by2 : Nat} (cs cs2 : List Value) (h : fn.results = #[.cell t ty, .cell u ty2]) (ha : F t = .pointer (some a)) (ha2 : F u = .pointer (some a2)) (ht : P.underlying ty = some d) (hd : aggD d = true) (ht2 : P.underlying ty2 = some d2) (hd2 : aggD d2 = true)
    (hi : tinfo P ty = some (z, cs.length, by_)) (hi2 : tinfo P ty2 = some (z2, cs2.length, by2)) (hc : ∀ (j : Nat) (v : Value), cs[j]? = some v → w.cell? (a.add j) = some v) (hc2 : ∀ (j : Nat) (v : Value), cs2[j]? = some v → w.cell? (a2.add j) = some v) (hS : S (.tuple #[.agg cs.toArray, .agg cs2.toArray]) w) : retP P fn S .ret F w :=
  ⟨_, fun tmps htm => by
    have h1 : tmps.getD t undef = .pointer (some a) := by rw [htm, ha]
    have h2 : tmps.getD u undef = .pointer (some a2) := by rw [htm, ha2]
    simp only [Array.getD_eq_getD_getElem?] at h1 h2
    simp [results, h, h1, h2, asAddr, loadVar, run_isAgg ht, hd, run_isAgg ht2, hd2, run_sizeOf_t hi, run_sizeOf_t hi2, run_loadCells_list w a cs hc, run_loadCells_list w a2 cs2 hc2], hS⟩
/-! ### Rows -/
section
variable {α : Type} (row : α → List Value)
def rows (l : List α) : List Value := l.flatMap row
variable {row} {sz : Nat}
theorem rows_nil : rows row [] = [] := rfl
theorem rows_cons (x : α) (l : List α) : rows row (x :: l) = row x ++ rows row l := rfl
theorem rows_app (l m : List α) : rows row (l ++ m) = rows row l ++ rows row m := by simp [rows]
theorem rows_len (h : ∀ x, (row x).length = sz) : ∀ l : List α, (rows row l).length = l.length * sz
  | [] => by simp [rows]
  | x :: l => by rw [rows_cons, List.length_append, h, rows_len h l, List.length_cons, Nat.add_mul]; omega
theorem rows_drop (h : ∀ x, (row x).length = sz) : ∀ (l : List α) (i : Nat), (rows row l).drop (i * sz) = rows row (l.drop i)
  | [], i => by simp [rows]
  | x :: l, 0 => by simp
  | x :: l, i + 1 => by
    rw [rows_cons, List.drop_succ_cons, ← rows_drop h l i, Nat.add_mul, Nat.one_mul, Nat.add_comm, ← h x, ← List.drop_drop, List.drop_left']
    rfl
theorem rows_take (h : ∀ x, (row x).length = sz) : ∀ (l : List α) (i : Nat), (rows row l).take (i * sz) = rows row (l.take i)
  | [], i => by simp [rows]
  | x :: l, 0 => by simp [rows]
  | x :: l, i + 1 => by
    rw [rows_cons, List.take_succ_cons, rows_cons, ← rows_take h l i, Nat.add_mul, Nat.one_mul, Nat.add_comm, List.take_append, h x, List.take_of_length_le (by rw [h x]; omega), Nat.add_sub_cancel_left]
theorem rows_get (h : ∀ x, (row x).length = sz) {l : List α} {i j : Nat} (hi : i < l.length) (hj : j < sz) : (rows row l)[i * sz + j]? = (row l[i])[j]? := by
  have h1 := rows_drop h l i
  rw [List.drop_eq_getElem_cons hi, rows_cons] at h1
  have h2 := congrArg (fun x : List Value => x[j]?) h1
  simp only [List.getElem?_drop] at h2
  rw [h2, List.getElem?_append_left (by rw [h]; exact hj)]
theorem rows_set (h : ∀ x, (row x).length = sz) {l : List α} {i : Nat} (hi : i < l.length) (y : α) : splice (rows row l) (i * sz) (row y) = rows row (l.set i y) := by
  unfold splice
  rw [rows_take h, h y, show i * sz + sz = (i + 1) * sz by rw [Nat.add_mul, Nat.one_mul], rows_drop h, List.set_eq_take_append_cons_drop, if_pos hi, rows_app, rows_cons, List.append_assoc]
theorem rows_one (h : ∀ x, (row x).all one = true) : ∀ l : List α, (rows row l).all one = true
  | [] => rfl
  | x :: l => by rw [rows_cons, List.all_append, h x, rows_one h l]; rfl
/-- Where row i lies. -/
theorem rows_at (h : ∀ x, (row x).length = sz) {w : World} {a : Option Addr} {c : Nat} {l : List α} {i : Nat} (hs : Sl w (.slice a l.length c) l.length sz (rows row l)) (hi : i < l.length) (h0 : 0 < sz) :
    ∃ b off, a = some ⟨b, off, none⟩ ∧ ∀ (j : Nat) (v : Value), (row l[i])[j]? = some v → w.cell? ⟨b, off + i * sz + j, none⟩ = some v := by
  obtain ⟨b, off, c', e, _, _, hc⟩ := hs.at (Nat.mul_pos (by omega) h0)
  injection e with e1 e2 e3
  refine ⟨b, off, e1, fun j v hv => ?_⟩
  have hj : j < sz := by have := (List.getElem?_eq_some_iff.1 hv).1; rw [h] at this; exact this
  have := hc (i * sz + j) v (by rw [rows_get h hi hj]; exact hv)
  rw [Nat.add_assoc]; exact this
theorem rows_at' (h : ∀ x, (row x).length = sz) {w : World} {a : Option Addr} {c : Nat} {l : List α} {i : Nat} (hs : Sl w (.slice a l.length c) l.length sz (rows row l)) (hi : i < l.length) (h0 : 0 < sz) :
    ∃ b off, a = some ⟨b, off, none⟩ ∧ ∀ (j : Nat) (v : Value), (row l[i])[j]? = some v → w.cell? ((⟨b, off + i * sz, none⟩ : Addr).add j) = some v := by
  obtain ⟨b, off, e, hc⟩ := rows_at h hs hi h0
  exact ⟨b, off, e, fun j v hv => by rw [Addr.add_lit]; exact hc j v hv⟩
/-- The beginning of a row is written anew. -/
theorem rows_part (h : ∀ x, (row x).length = sz) {l : List α} {i : Nat} (hi : i < l.length) (y : α) (cs : List Value) (hc : cs.length ≤ sz) (hy : row y = cs ++ (row l[i]).drop cs.length) : splice (rows row l) (i * sz) cs = rows row (l.set i y) := by
  rw [List.set_eq_take_append_cons_drop, if_pos hi, rows_app, rows_cons, hy, ← rows_take h, ← rows_drop h]
  unfold splice
  have h1 := rows_drop h l i
  rw [List.drop_eq_getElem_cons hi, rows_cons] at h1
  have h2 : (rows row l).drop (i * sz + cs.length) = (row l[i]).drop cs.length ++ (rows row l).drop ((i + 1) * sz) := by
    rw [← List.drop_drop, h1, List.drop_append_of_le_length (by rw [h]; exact hc), rows_drop h]
  rw [h2, List.append_assoc, List.append_assoc]
end
theorem splice_app {xs ex cs : List Value} {off : Nat} (h : off + cs.length ≤ xs.length) : splice (xs ++ ex) off cs = splice xs off cs ++ ex := by
  unfold splice
  rw [List.take_append_of_le_length (by omega), List.drop_append_of_le_length h]; simp only [List.append_assoc]
/-- A slice of one's own with something in it: its block, and what holds when the block is written anew. -/
theorem Own.open {w : World} {e sz : Nat} {v : Value} {n : Nat} {xs : List Value} (h : Own w e sz v n xs) (h0 : 0 < n) :
    ∃ g c ex, v = .slice (some ⟨g, 0, none⟩) n c ∧ n ≤ c ∧ c ≤ maxLen ∧ Blk w g (xs ++ ex) e ∧ ∀ w' xs', Blk w' g (xs' ++ ex) e → xs'.length = xs.length → Own w' e sz v n xs' := by
  obtain ⟨hl, h2⟩ := h
  rcases h2 with ⟨_, h1⟩ | ⟨g, cap, cur, rfl, hg0, hg, h2, h3, h4, h5⟩
  · omega
  · have e1 : xs ++ cur.toList.drop (n * sz) = cur.toList := by rw [← h5]; exact List.take_append_drop _ _
    refine ⟨g, cap, cur.toList.drop (n * sz), rfl, h2, h3, ?_, fun w' xs' hb hx => ?_⟩
    · unfold Blk; rw [e1]; exact hg
    · refine ⟨hx.trans hl, .inr ⟨g, cap, (xs' ++ cur.toList.drop (n * sz)).toArray, rfl, Nat.zero_le _, hb, h2, h3, ?_, ?_⟩⟩
      · have := congrArg List.length e1
        simp only [List.length_append, Array.length_toList] at this
        simp only [List.size_toArray, List.length_append, hx]
        rw [← h4]; exact this
      · show (xs' ++ _).take (n * sz) = xs'
        rw [List.take_append_of_le_length (by rw [hx, hl]; exact Nat.le_refl _), List.take_of_length_le (by rw [hx, hl]; exact Nat.le_refl _)]
end Go.Proofs.Ytkmciohghhffnaa.B
/-! Ranges over functions: what an iterator promises, how a round is walked, and what stands behind the loop. -/
namespace Go.Proofs.Ytkmciohghhffnaa.B
open Go Go.RowKit
set_option linter.unusedVariables false
def mark (D : Nat) : Deferred := { target := .collected D, args := #[] }
@[reducible] def Ctx.inRound (l : Nat) : Ctx := ⟨some l, [], fun _ _ => False⟩
@[reducible] def Ctx.marked (D : Nat) : Ctx := ⟨none, [mark D], fun _ _ => False⟩
/-- A call of yield: it tells whether to go on. -/
abbrev YieldsB (P : Program) (l : Nat) (args : Array Value) (w : World) (R : Bool → World → Prop) : Prop :=
  YieldAt Fence.wide 0 P l args w (fun e w' => ∃ b, e = .returned (.bool b) ∧ R b w')
section
variable {c0 : Ctx} {P : Program} {n : Nat} {ops : Array Oper} {F : Fr} {w : World} {K : Fr → World → Prop} {rest : List Oper} {dst : Option Tmp} {ty : TypeId} {pos : String} {after : Array Edge} {g : Option (Nat × Bool)}
theorem op_yield {f : Operand} {l : Nat} {xs : List Operand} {ts : Array TypeId} {R : Bool → World → Prop}
    (hf : ev F f = .func (.yield l) #[] #[])
    (hg : wantedF ops F ⟨dst, .call ⟨.value f, xs.toArray, ts⟩, ty, pos, after, g⟩ = true)
    (h : YieldsB P l (xs.map (ev F)).toArray w R)
    (hk : ∀ b w', R b w' → OpsW true c0 P n ops rest (updo n F dst (.bool b)) w' K) : OpsW true c0 P n ops (⟨dst, .call ⟨.value f, xs.toArray, ts⟩, ty, pos, after, g⟩ :: rest) F w K := by
  obtain ⟨fn, tmps, assign, body, hy, hR⟩ := h
  have hrun : (execOp (ev F) ⟨dst, .call ⟨.value f, xs.toArray, ts⟩, ty, pos, after, g⟩).run P w = .ok (.round l fn tmps assign body) w := by
    simp only [execOp, resolve, hf, Deferred.ofValue, invoke, List.map_toArray, bind, Sem.bind, pure]
    simpa using hy
  refine op_next hrun (fun d e => by cases e) hg ?_ (fun a Q hs hkk e => by cases e)
  intro a Q hs hkk _
  refine ⟨fun e => (by cases e), ?_⟩
  refine RoundIn.mono (show RoundIn c0.fence _ P l fn tmps assign body w _ from hR) ?_
  rintro e w' ⟨b, rfl, hb⟩
  exact hk b w' hb (a.put dst (.bool b)) Q (hs.put dst (.bool b)) hkk
end
/-- What an iterator promises: at most N rounds, in round k it hands over what E tells. -/
def SeqW (P : Program) (gf : FuncId) (lb : Array Value) (N : Nat) (E : Nat → Array Value → World → Prop) (R : World → Prop) : Prop :=
  ∀ (l : Nat) (J : Nat → World → Prop) (Jx : World → Prop) (w : World),
    (∀ k w, J k w → R w) → (∀ k w w', J k w → Keep All w w' → J k w') → (∀ w w', Jx w → Keep All w w' → Jx w') →
    (∀ k args w, J k w → k < N → E k args w → YieldsB P l args w fun b w' => (b = true → J (k + 1) w') ∧ (b = false → Jx w')) →
    J 0 w → Ret P gf (#[.func (.yield l) #[] #[]] ++ lb) w fun _ w' => J N w' ∨ Jx w'
/-- The frame in which a round begins. -/
def bindF (n : Nat) : Fr → List (Nat × Value) → Fr
  | F, [] => F
  | F, (t, v) :: l => bindF n (upd n F t v) l
theorem bindF_sim {c0 : Ctx} {n : Nat} : ∀ (l : List (Nat × Value)) (F : Fr) (a : Act), Sim c0 n a F → Sim c0 n { tmps := l.foldl (fun t x => t.setIfInBounds x.1 x.2) a.tmps, defers := a.defers } (bindF n F l)
  | [], F, a, h => h
  | (t, v) :: l, F, a, h => bindF_sim l (upd n F t v) (a.put (some t) v) (h.put (some t) v)
section
variable {P : Program} {n : Nat} {fn : Func} {S : Value → World → Prop}
/-- A return behind a range over a function: the mark is taken up. -/
@[reducible] def retM (P : Program) (fn : Func) (S : Value → World → Prop) (D : Nat) : Exit → Fr → World → Prop
  | .ret, F, w => w.heap[D]? = some (.deferred (some [])) ∧ retP P fn S .ret F (w.putObj D (.deferred none))
  | _, _, _ => False
def retAlt (P : Program) (fn : Func) (S : Value → World → Prop) : Act → World → Prop := fun a w =>
  ∃ D, a.defers = [mark D] ∧ w.heap[D]? = some (.deferred (some [])) ∧ ∃ v, (results fn a.tmps).run P (w.putObj D (.deferred none)) = .ok v (w.putObj D (.deferred none)) ∧ S v (w.putObj D (.deferred none))
abbrev Ctx.outer (P : Program) (fn : Func) (S : Value → World → Prop) : Ctx := ⟨none, [], retAlt P fn S⟩
theorem enterM {f : FuncId} {w : World} {c : Code} {args : List Value} (hf : P.funcs[f]? = some fn) (hb : fn.body = some c) (hn : fn.ntmps = n) (hle : args.length ≤ n) (h : W (Ctx.outer P fn S) P n c (args0 args) w (retP P fn S)) : Ret P f args.toArray w S := by
  refine (callsIn_wide (n := 0)).1 (callsIn_of_wp_marks hf hb trivial ?_)
  have hsim : Sim (Ctx.outer P fn S) n { tmps := args.toArray ++ Array.replicate (fn.ntmps - args.toArray.size) undef, defers := [] } (args0 args) := by
    refine ⟨rfl, by simp [hn]; omega, fun t => ?_⟩
    rw [← args0_eq]
    simp only [Array.getD_eq_getD_getElem?, List.getD_eq_getElem?_getD, Array.getElem?_append, List.getElem?_toArray, List.size_toArray]
    by_cases ht : t < args.length
    · simp [ht]
    · rw [if_neg ht, List.getElem?_eq_none (by omega), Array.getElem?_replicate]
      split <;> rfl
  refine wpIn_mono (h _ hsim) ?_
  rintro e a' w' (⟨F', hs, hq⟩ | ⟨rfl, D, hd, hD, v, hr, hS⟩)
  · have hds : a'.defers = [] := hs.defers
    cases e with
    | normal => obtain ⟨v, hr, hS⟩ := hq; show LeavesInM _ _ _ _ _ _ a'.defers _ _; rw [hds]; exact ⟨v, hr _ hs.val, v, rfl, hS⟩
    | ret => obtain ⟨v, hr, hS⟩ := hq; show LeavesInM _ _ _ _ _ _ a'.defers _ _; rw [hds]; exact ⟨v, hr _ hs.val, v, rfl, hS⟩
    | exit id => exact hq.elim
    | goto l => exact hq.elim
    | panic c => exact hq.elim
    | outgrown => exact hq.elim
  · show LeavesInM _ _ _ _ _ _ a'.defers _ _
    rw [hd]
    exact ⟨by simp, .inl ⟨D, _, rfl, run_takeDeferred hD, v, hr, v, rfl, hS⟩⟩
end
/-- How a round may be left. -/
@[reducible] def roundQ (I : World → Prop) (Ix : Exit → World → Prop) (D : Nat) (w : World) : Exit → Fr → World → Prop
  | .normal, _, w' => Keep (fun b => b = D ∨ b = D + 1) w w' ∧ I w'
  | .ret, _, w' => Keep (fun b => b = D ∨ b = D + 1) w w' ∧ Ix .ret w'
  | .exit j, _, w' => Keep (fun b => b = D ∨ b = D + 1) w w' ∧ Ix (.exit j) w'
  | _, _, _ => False
theorem Keep.putObj (w : World) (r : Nat) (o : Obj) : Keep (· ≠ r) w (w.putObj r o) := ⟨rfl, rfl, rfl, by simp, fun k _ hk => World.putObj_heap_other hk⟩
/-- A first part that may leave a mark behind, and the second part. -/
def W2 (c0 : Ctx) (P : Program) (n : Nat) (x y : Code) (F : Fr) (w : World) (Q : Exit → Fr → World → Prop) : Prop :=
  ∀ a, Sim c0 n a F → x.wpIn c0.fence 0 P (Exit.then (y.wpIn c0.fence 0 P (Post c0 n Q)) (Post c0 n Q)) a w
theorem W_seq2 {c0 : Ctx} {P : Program} {n : Nat} {x y : Code} {F : Fr} {w : World} {Q : Exit → Fr → World → Prop} (h : W2 c0 P n x y F w Q) : W c0 P n (.seq x y) F w Q := fun a ha => wpIn_seq (h a ha)
theorem W2_seq {c0 : Ctx} {P : Program} {n : Nat} {x b y : Code} {F : Fr} {w : World} {Q : Exit → Fr → World → Prop} (h : W c0 P n x F w (thenW (fun F w => W2 c0 P n b y F w Q) Q)) : W2 c0 P n (.seq x b) y F w Q := by
  intro a ha
  refine wpIn_seq (wpIn_mono (h a ha) ?_)
  rintro e a' w' (⟨F', hs, hQ⟩ | ⟨rfl, hr⟩)
  · cases e with
    | normal => exact hQ a' hs
    | exit id => exact .inl ⟨F', hs, hQ⟩
    | goto l => exact .inl ⟨F', hs, hQ⟩
    | ret => exact .inl ⟨F', hs, hQ⟩
    | panic c => exact .inl ⟨F', hs, hQ⟩
    | outgrown => exact .inl ⟨F', hs, hQ⟩
  · exact .inr ⟨rfl, hr⟩
theorem W_range {P : Program} {n : Nat} {F : Fr} {w : World} {fn : Func} {S : Value → World → Prop} {Q : Exit → Fr → World → Prop} {g : Operand} {ps : Array Tmp} {assign body y : Code} {id : Nat} {gf : FuncId} {lb : Array Value} {N : Nat} {E : Nat → Array Value → World → Prop} {R : World → Prop}
    (hg : ev F g = .func (.func gf) #[] lb) (hgf : isFn P gf = true) (hseq : SeqW P gf lb N E R) (hE : ∀ k args w, E k args w → args.size = ps.size)
    (I : Nat → World → Prop) (Ix : Exit → World → Prop)
    (hIR : ∀ k w, I k w → R w) (hI : ∀ k w1 w2, I k w1 → Keep (· ≠ w.heap.size + 1) w1 w2 → I k w2) (hIx : ∀ e w1 w2, Ix e w1 → Keep (· ≠ w.heap.size + 1) w1 w2 → Ix e w2)
    (h0 : ∀ w', Keep All w w' → w'.heap.size = w.heap.size + 2 → I 0 w')
    (hbody : ∀ k args w1, I k w1 → k < N → E k args w1 → w.heap.size + 2 ≤ w1.heap.size →
      W (Ctx.inRound (w.heap.size + 1)) P n assign (bindF n F (ps.toList.zip args.toList)) w1 (thenW (fun F1 w2 => Keep (fun b => b = w.heap.size ∨ b = w.heap.size + 1) w1 w2 ∧
        ∀ w3, Keep (· ≠ w.heap.size + 1) w2 w3 → w3.heap.size = w2.heap.size → W (Ctx.inRound (w.heap.size + 1)) P n body F1 w3 (roundQ (I (k + 1)) Ix w.heap.size w3)) (fun _ _ _ => False)))
    (hdone : ∀ w1, (I N w1 ∨ Ix (.exit id) w1) → w1.heap[w.heap.size]? = some (.deferred (some [])) → W (Ctx.marked w.heap.size) P n y F w1 (retM P fn S w.heap.size))
    (hret : ∀ w1, Ix .ret w1 → w1.heap[w.heap.size]? = some (.deferred (some [])) → retP P fn S .ret F (w1.putObj w.heap.size (.deferred none)))
    (hother : ∀ j w1, Ix (.exit j) w1 → j = id) :
    W2 (Ctx.outer P fn S) P n (.block id (.rangeFunc g ps assign body)) y F w Q := by
  intro a ha
  have ha' : Sim (Ctx.outer P fn S) n a F := ha
  have hdef : a.defers = [] := ha.defers
  refine wpIn_block ?_
  have hbeh : ∀ w1, (I N w1 ∨ Ix (.exit id) w1) → w1.heap[w.heap.size]? = some (.deferred (some [])) → y.wpIn Fence.wide 0 P (Post (Ctx.outer P fn S) n Q) { a with defers := mark w.heap.size :: a.defers } w1 := fun w1 h1 h2 => by
    have hs1 : Sim (Ctx.marked w.heap.size) n { a with defers := mark w.heap.size :: a.defers } F := ⟨by simp [hdef], ha.size, ha.val⟩
    refine wpIn_mono (hdone w1 h1 h2 _ hs1) ?_
    rintro e a' w' (⟨F', hs, hq⟩ | ⟨_, hq⟩)
    · cases e with
      | ret =>
        obtain ⟨hD, v, hr, hS⟩ := hq
        exact .inr ⟨rfl, w.heap.size, hs.defers, hD, v, hr _ hs.val, hS⟩
      | normal => exact hq.elim
      | exit id => exact hq.elim
      | goto l => exact hq.elim
      | panic c => exact hq.elim
      | outgrown => exact hq.elim
    · exact hq.elim
  refine wpIn_rangeFunc fun f _ => ?_
  obtain ⟨rec, hrec⟩ : ∃ rec : LoopState → Option Code → Loop, rec = fun s p => { state := s, pending := p, fn := f, tmps := a.tmps, params := ps, assign, body, defers := w.heap.size } := ⟨_, rfl⟩
  obtain ⟨W1, hW1⟩ : ∃ W1, (w.alloc (.deferred (some []))).alloc (.loop (rec .ready none)) = W1 := ⟨_, rfl⟩
  have hL1 : W1.heap[w.heap.size + 1]? = some (.loop (rec .ready none)) := by
    rw [← hW1]; have h := World.alloc_heap_new (w.alloc (.deferred (some []))) (.loop (rec .ready none)); rwa [World.size_alloc] at h
  have hD1 : W1.heap[w.heap.size]? = some (.deferred (some [])) := by
    rw [← hW1]; exact (Below.heap_alloc _ _ _ (by rw [World.size_alloc]; omega)).trans (World.alloc_heap_new w _)
  have hk1 : Keep All w W1 := by rw [← hW1]; exact (Keep.alloc w _).trans (Keep.alloc _ _)
  have hs1 : W1.heap.size = w.heap.size + 2 := by rw [← hW1, World.size_alloc, World.size_alloc]
  have hge : a.eval g = .func (.func gf) #[] lb := by rw [ha'.eval]; exact hg
  have eg : ∀ args w, (callFunc gf args).run P w = .ok (.enter gf args) w := fun args w => run_callFunc hgf args w
  refine ⟨w.heap.size + 1, [mark w.heap.size], W1, { target := .fn (.func gf) lb, args := #[.func (.yield (w.heap.size + 1)) #[] #[]] }, W1, gf,
    #[.func (.yield (w.heap.size + 1)) #[] #[]] ++ lb, W1, ?_, ?_, fun _ _ => trivial, ?_, fun e => (by cases e), ?_⟩
  · rw [← hW1, hrec]; exact run_enterLoop_outer _ _ _ _ _
  · simp only [resolve, hge]
    simp [go_sem, Deferred.ofValue]
  · simp [invoke, go_sem, eg]
  refine callsIn_wide.2 (Calls.mono (hseq (w.heap.size + 1)
      (fun k W => I k W ∧ w.heap.size + 2 ≤ W.heap.size ∧ W.heap[w.heap.size + 1]? = some (.loop (rec .ready none)) ∧ W.heap[w.heap.size]? = some (.deferred (some [])))
      (fun W => ∃ e c, ((e = Exit.ret ∧ c = Code.ret) ∨ ∃ j, e = Exit.exit j ∧ c = Code.exit j) ∧ Ix e W ∧ W.heap[w.heap.size + 1]? = some (.loop (rec .done (some c))) ∧ W.heap[w.heap.size]? = some (.deferred (some [])))
      W1 (fun k W h => hIR k W h.1)
      (fun k W W' h hk => ⟨hI k W W' h.1 (hk.mono fun _ _ _ => trivial), Nat.le_trans h.2.1 hk.size, hk.get h.2.2.1 trivial, hk.get h.2.2.2 trivial⟩)
      (fun W W' ⟨e, c, hc, h1, h2, h3⟩ hk => ⟨e, c, hc, hIx e W W' h1 (hk.mono fun _ _ _ => trivial), hk.get h2 trivial, hk.get h3 trivial⟩)
      ?_ ⟨h0 W1 hk1 hs1, by omega, hL1, hD1⟩) ?_)
  · -- one round
    rintro k args W ⟨hi, hsz, hl, hD⟩ hkN hEk
    have hlt : w.heap.size + 1 < W.heap.size := by omega
    have hy := run_yield (P := P) (args := args) hl (by rw [hrec]; exact hE k args W hEk)
    rw [hrec] at hy
    refine ⟨f, _, assign, body, hy, roundIn_of_wpIn trivial ?_⟩
    have hb := hbody k args W hi hkN hEk hsz
    have hsim : Sim (Ctx.inRound (w.heap.size + 1)) n { tmps := (ps.zip args).foldl (fun t x => t.setIfInBounds x.1 x.2) a.tmps, defers := [] } (bindF n F (ps.toList.zip args.toList)) := by
      have h := bindF_sim (c0 := Ctx.inRound (w.heap.size + 1)) (ps.toList.zip args.toList) F { a with defers := [] } ⟨rfl, ha.size, ha.val⟩
      rw [← Array.foldl_toList, Array.toList_zip]; exact h
    refine wpIn_mono (hb _ hsim) ?_
    rintro e a1 W2 (⟨F1, hs2, hq⟩ | ⟨_, hq⟩)
    · cases e with
      | normal =>
        obtain ⟨hk2, hq⟩ := hq
        have hl2 := hk2.get hl (.inr rfl)
        have hD2 := hk2.get hD (.inl rfl)
        refine ⟨_, run_beginRound hl2 (by rw [hrec]), ?_⟩
        have hl3 : (W2.putObj (w.heap.size + 1) (.loop { rec .ready none with state := .busy })).heap[w.heap.size + 1]? = some (.loop { rec .ready none with state := .busy }) := World.putObj_heap_same (lt_of_get hl2)
        have hD3 : (W2.putObj (w.heap.size + 1) (.loop { rec .ready none with state := .busy })).heap[w.heap.size]? = some (.deferred (some [])) := (World.putObj_heap_other (by omega)).trans hD2
        refine wpIn_mono (hq _ (Keep.putObj W2 _ _) (by simp) a1 hs2) ?_
        have fin : ∀ (jump : Option Code) (W3 : World), Keep (fun b => b = w.heap.size ∨ b = w.heap.size + 1) (W2.putObj (w.heap.size + 1) (.loop { rec .ready none with state := .busy })) W3 →
            (Instr.endRound (w.heap.size + 1) jump).run P W3 = .ok (.bool jump.isNone) (W3.putObj (w.heap.size + 1) (.loop (rec (if jump.isNone then .ready else .done) jump))) ∧
            (W3.putObj (w.heap.size + 1) (.loop (rec (if jump.isNone then .ready else .done) jump))).heap[w.heap.size + 1]? = some (.loop (rec (if jump.isNone then .ready else .done) jump)) ∧
            (W3.putObj (w.heap.size + 1) (.loop (rec (if jump.isNone then .ready else .done) jump))).heap[w.heap.size]? = some (.deferred (some [])) ∧ w.heap.size + 2 ≤ W3.heap.size := fun jump W3 hk3 => by
          have hl4 := hk3.get hl3 (.inr rfl)
          have h := run_endRound (P := P) jump hl4
          rw [hrec] at h ⊢
          exact ⟨h, World.putObj_heap_same (lt_of_get hl4), (World.putObj_heap_other (by omega)).trans (hk3.get hD3 (.inl rfl)), by have := lt_of_get hl4; omega⟩
        rintro e a3 W3 (⟨F3, hs3, hp⟩ | ⟨_, hp⟩)
        · cases e with
          | normal =>
            obtain ⟨hk3, hi3⟩ := hp
            obtain ⟨hr, hl4, hD4, hz4⟩ := fin none W3 hk3
            exact ⟨_, _, hr, true, rfl, fun _ => ⟨hI _ _ _ hi3 (Keep.putObj _ _ _), by simpa using hz4, hl4, hD4⟩, fun e => by cases e⟩
          | ret =>
            obtain ⟨hk3, hi3⟩ := hp
            obtain ⟨hr, hl4, hD4, hz4⟩ := fin (some .ret) W3 hk3
            exact ⟨_, _, hr, false, rfl, (fun e => by cases e), fun _ => ⟨_, _, .inl ⟨rfl, rfl⟩, hIx _ _ _ hi3 (Keep.putObj _ _ _), hl4, hD4⟩⟩
          | exit j =>
            obtain ⟨hk3, hi3⟩ := hp
            obtain ⟨hr, hl4, hD4, hz4⟩ := fin (some (.exit j)) W3 hk3
            exact ⟨_, _, hr, false, rfl, (fun e => by cases e), fun _ => ⟨_, _, .inr ⟨j, rfl, rfl⟩, hIx _ _ _ hi3 (Keep.putObj _ _ _), hl4, hD4⟩⟩
          | goto t => exact hp.elim
          | panic ch => exact hp.elim
          | outgrown => exact hp.elim
        · exact hp.elim
      | ret => exact hq.elim
      | exit j => exact hq.elim
      | goto t => exact hq.elim
      | panic ch => exact hq.elim
      | outgrown => exact hq.elim
    · exact hq.elim
  · -- behind the iterator
    subst hrec
    rintro e W2 ⟨v, rfl, hv⟩
    have hmk : ∀ x : List Deferred, [mark w.heap.size] ++ x = mark w.heap.size :: x := fun _ => rfl
    rcases hv with ⟨hi, hz, hl, hD⟩ | ⟨e, c, hc, hi, hl, hD⟩
    · refine ⟨none, _, run_endLoop (P := P) hl (by simp), ?_⟩
      exact wpIn_mono (hbeh _ (.inl (hI _ _ _ hi (Keep.putObj _ _ _))) ((World.putObj_heap_other (by omega)).trans hD)) (fun _ _ _ h => h)
    · refine ⟨some c, _, run_endLoop (P := P) hl (by simp), ?_⟩
      have hD' := (World.putObj_heap_other (w := W2) (o := .loop { state := .exhausted, pending := some c, fn := f, tmps := a.tmps, params := ps, assign, body, defers := w.heap.size }) (show w.heap.size ≠ w.heap.size + 1 by omega)).trans hD
      rcases hc with ⟨rfl, rfl⟩ | ⟨j, rfl, rfl⟩
      · refine wpIn_ret ?_
        obtain ⟨v, hr, hS⟩ := hret _ (hIx _ _ _ hi (Keep.putObj _ _ _)) hD'
        refine .inr ⟨rfl, w.heap.size, ?_, hD', v, hr _ ha.val, hS⟩
        simp [hdef]
      · obtain rfl := hother _ _ hi
        refine wpIn_exit ?_
        simp only [Exit.inBlock, if_true]
        exact hbeh _ (.inr (hIx _ _ _ hi (Keep.putObj _ _ _))) hD'
end Go.Proofs.Ytkmciohghhffnaa.B
/-! A region that draws its order, whose last steps write what earlier ones read: up to the gate (an operation that waits for all that read) something holds; behind it nothing is asked. -/
namespace Go.Proofs.Ytkmciohghhffnaa.B
open Go
set_option linter.unusedVariables false
structure ClosedL (md : Region.Mode) (ops : Array Oper) (listed : Array Bool) : Prop where
  size : listed.size = ops.size
  closed : ∀ j oj, ops[j]? = some oj → listed.getD j false = true → ∀ e ∈ oj.after, Region.binds md e = true → listed.getD e.on false = true
/-- Operation t waits for i, be it through others. -/
def waitsN (md : Region.Mode) (ops : Array Oper) : Nat → Nat → Nat → Bool
  | 0, _, _ => false
  | f + 1, t, i => match ops[t]? with
    | some o => o.after.toList.any fun e => Region.binds md e && (Nat.beq e.on i || waitsN md ops f e.on i)
    | none => false
section
variable {P : Program} {md : Region.Mode} {ops : Array Oper} {Q : Exit → Act → World → Prop} {S : World → Prop} {t : Nat}
theorem ClosedL.start : ClosedL md ops (Array.replicate ops.size false) :=
  ⟨by simp, fun j oj _ h => by rw [getD_replicate_false] at h; cases h⟩
theorem ClosedL.set {listed : Array Bool} {i : Nat} (inv : ClosedL md ops listed) (hi : i ∈ Region.ready md ops listed) : ClosedL md ops (listed.setIfInBounds i true) := by
  obtain ⟨_, oi, hoi, hall⟩ := mem_ready.1 hi
  refine ⟨by simp [inv.size], fun j oj hj hl e he hb => ?_⟩
  by_cases hij : i = j
  · subst hij
    have : oj = oi := Option.some.inj (hj.symm.trans hoi)
    subst this
    exact getD_set_true (hall e he hb)
  · rw [getD_set_ne false hij] at hl
    exact getD_set_true (inv.closed j oj hj hl e he hb)
theorem ClosedL.gate {listed : Array Bool} {i : Nat} (inv : ClosedL md ops listed) (hi : listed.getD i true = false) : ∀ f t, waitsN md ops f t i = true → listed.getD t true = false
  | 0, _, h => by cases h
  | f + 1, t, h => by
    unfold waitsN at h
    split at h
    · rename_i ot hot
      obtain ⟨e, he, hb⟩ := List.any_eq_true.1 h
      simp only [Bool.and_eq_true, Bool.or_eq_true] at hb
      have ht : t < listed.size := by rw [inv.size]; exact (Array.getElem?_eq_some_iff.1 hot).1
      cases hc : listed.getD t false with
      | false => exact getD_in ht hc
      | true =>
        have h1 := inv.closed t ot hot hc e (by simpa using he) hb.1
        rcases hb.2 with h2 | h2
        · rw [Nat.eq_of_beq_eq_true h2, getD_both hi] at h1; cases h1
        · have h3 := ClosedL.gate inv hi f e.on h2
          rw [getD_both h3] at h1; cases h1
    · cases h
def wpAnyG (P : Program) (md : Region.Mode) (ops : Array Oper) (Q : Exit → Act → World → Prop) (t : Nat) (S : World → Prop) : Nat → Array Bool → Act → World → Prop
  | 0, listed, a, w => Region.ready md ops listed = [] ∧ Q .normal a w
  | fuel + 1, listed, a, w =>
    (Region.ready md ops listed = [] → Q .normal a w) ∧
    ∀ i ∈ Region.ready md ops listed, wpOp P ops Q i (fun a' w' => ((listed.setIfInBounds i true).getD t true = false → S w') ∧ wpAnyG P md ops Q t S fuel (listed.setIfInBounds i true) a' w') a w
theorem wpAny_of_gate : ∀ (fuel : Nat) (listed : Array Bool) (a : Act) (w : World), wpAnyG P md ops Q t S fuel listed a w → wpAny P md ops Q fuel listed a w
  | 0, _, _, _, h => h
  | fuel + 1, _, _, _, h => ⟨h.1, fun i hi => wpOp_mono (fun a' w' h' => wpAny_of_gate fuel _ a' w' h'.2) (h.2 i hi)⟩
theorem wpAnyG_first {i : Nat} {oi : Oper} {v : Value} (hi : ops[i]? = some oi) (hsel : ∀ (j : Nat) (o : Oper) cs b, ops[j]? = some o → o.op ≠ .select cs b)
    (hQ : ∀ c a w, Q (.panic c) (a.put oi.dst v) w → Q (.panic c) a w) (hw : waitsN md ops ops.size t i = true) (hti : i ≠ t) :
    ∀ (fuel : Nat) (listed : Array Bool) (a : Act) (w : World), ClosedL md ops listed →
      (∀ j oj, ops[j]? = some oj → j ≠ i → listed.getD j true = false → (∀ e ∈ oj.after, Region.binds md e = true → e.on ≠ i) → oi.apart ops oj = true) →
      i ∈ Region.ready md ops listed → YieldsIf P ops S oi v a → (listed.getD t true = false → S w) →
      wpAnyG P md ops Q t S fuel (listed.setIfInBounds i true) (a.put oi.dst v) w → wpAnyG P md ops Q t S (fuel + 1) listed a w := by
  intro fuel
  induction fuel with
  | zero =>
    intro listed a w inv _ hr hy hS H
    refine ⟨fun h => (by rw [h] at hr; cases hr), fun j hj => ?_⟩
    by_cases hji : j = i
    · subst hji
      have h := hS (inv.gate (mem_ready.1 hr).1 _ t hw)
      exact hy.wpOp hi h ⟨fun _ => h, H⟩
    · have := ready_mono hj hji
      rw [H.1] at this
      cases this
  | succ fuel ih =>
    intro listed a w inv hfree hr hy hS H
    refine ⟨fun h => (by rw [h] at hr; cases hr), fun j hj => ?_⟩
    by_cases hji : j = i
    · subst hji
      have h := hS (inv.gate (mem_ready.1 hr).1 _ t hw)
      exact hy.wpOp hi h ⟨fun _ => h, H⟩
    · have h1 := H.2 j (ready_mono hj hji)
      obtain ⟨hjun, oj, hoj, hall⟩ := mem_ready.1 hj
      have hnot : ∀ e ∈ oj.after, Region.binds md e = true → e.on ≠ i := fun e he hb heq => by
        have h1 := hall e he hb
        have h0 := (mem_ready.1 hr).1
        rw [heq] at h1
        rw [getD_both h0] at h1; cases h1
      have h2 := wpOp_putIf hoj (hfree j oj hoj hji hjun hnot) (fun cs b => hsel i oi cs b hi) (fun cs b => hsel j oj cs b hoj) hQ hy h1
      have hfree' : ∀ k ok, ops[k]? = some ok → k ≠ i → (listed.setIfInBounds j true).getD k true = false →
          (∀ e ∈ ok.after, Region.binds md e = true → e.on ≠ i) → oi.apart ops ok = true := fun k ok hk hki hun hno => by
        refine hfree k ok hk hki ?_ hno
        by_cases hjk : j = k
        · subst hjk; exact hjun
        · rw [getD_set_ne true hjk] at hun; exact hun
      have hS' : ∀ w', (((listed.setIfInBounds i true).setIfInBounds j true).getD t true = false → S w') → ((listed.setIfInBounds j true).getD t true = false → S w') := fun w' h h3 => by
        refine h ?_
        rw [Array.setIfInBounds_comm _ _ (Ne.symm hji), getD_set_ne true hti]; exact h3
      refine wpOp_mono (fun a' w' h3 => ⟨hS' w' h3.2.1, ih (listed.setIfInBounds j true) a' w' (inv.set hj) hfree' (ready_mono hr (Ne.symm hji)) h3.1 (hS' w' h3.2.1) ?_⟩) h2
      rw [Array.setIfInBounds_comm _ _ hji]
      exact h3.2.2
/-- What hangs on no world may be taken first, also if the gate does not wait for it. -/
theorem wpAnyG_pure {i : Nat} {oi : Oper} {v : Value} (hi : ops[i]? = some oi) (hsel : ∀ (j : Nat) (o : Oper) cs b, ops[j]? = some o → o.op ≠ .select cs b)
    (hQ : ∀ c a w, Q (.panic c) (a.put oi.dst v) w → Q (.panic c) a w) (hti : i ≠ t) :
    ∀ (fuel : Nat) (listed : Array Bool) (a : Act) (w : World), ClosedL md ops listed →
      (∀ j oj, ops[j]? = some oj → j ≠ i → listed.getD j true = false → (∀ e ∈ oj.after, Region.binds md e = true → e.on ≠ i) → oi.apart ops oj = true) →
      i ∈ Region.ready md ops listed → YieldsIf P ops (fun _ => True) oi v a → (listed.getD t true = false → S w) →
      wpAnyG P md ops Q t S fuel (listed.setIfInBounds i true) (a.put oi.dst v) w → wpAnyG P md ops Q t S (fuel + 1) listed a w := by
  intro fuel
  induction fuel with
  | zero =>
    intro listed a w inv _ hr hy hS H
    refine ⟨fun h => (by rw [h] at hr; cases hr), fun j hj => ?_⟩
    by_cases hji : j = i
    · subst hji
      exact hy.wpOp hi trivial ⟨fun h => hS (by rwa [getD_set_ne true hti] at h), H⟩
    · have := ready_mono hj hji
      rw [H.1] at this
      cases this
  | succ fuel ih =>
    intro listed a w inv hfree hr hy hS H
    refine ⟨fun h => (by rw [h] at hr; cases hr), fun j hj => ?_⟩
    by_cases hji : j = i
    · subst hji
      exact hy.wpOp hi trivial ⟨fun h => hS (by rwa [getD_set_ne true hti] at h), H⟩
    · have h1 := H.2 j (ready_mono hj hji)
      obtain ⟨hjun, oj, hoj, hall⟩ := mem_ready.1 hj
      have hnot : ∀ e ∈ oj.after, Region.binds md e = true → e.on ≠ i := fun e he hb heq => by
        have h1 := hall e he hb
        have h0 := (mem_ready.1 hr).1
        rw [heq] at h1
        rw [getD_both h0] at h1; cases h1
      have h2 := wpOp_putIf hoj (hfree j oj hoj hji hjun hnot) (fun cs b => hsel i oi cs b hi) (fun cs b => hsel j oj cs b hoj) hQ hy h1
      have hfree' : ∀ k ok, ops[k]? = some ok → k ≠ i → (listed.setIfInBounds j true).getD k true = false →
          (∀ e ∈ ok.after, Region.binds md e = true → e.on ≠ i) → oi.apart ops ok = true := fun k ok hk hki hun hno => by
        refine hfree k ok hk hki ?_ hno
        by_cases hjk : j = k
        · subst hjk; exact hjun
        · rw [getD_set_ne true hjk] at hun; exact hun
      have hS' : ∀ w', (((listed.setIfInBounds i true).setIfInBounds j true).getD t true = false → S w') → ((listed.setIfInBounds j true).getD t true = false → S w') := fun w' h h3 => by
        refine h ?_
        rw [Array.setIfInBounds_comm _ _ (Ne.symm hji), getD_set_ne true hti]; exact h3
      refine wpOp_mono (fun a' w' h3 => ⟨hS' w' h3.2.1, ih (listed.setIfInBounds j true) a' w' (inv.set hj) hfree' (ready_mono hr (Ne.symm hji)) h3.1 (hS' w' h3.2.1) ?_⟩) h2
      rw [Array.setIfInBounds_comm _ _ hji]
      exact h3.2.2
end
/-- The walk of such a region. -/
def GateW (c0 : Ctx) (P : Program) (n : Nat) (ops : Array Oper) (t : Nat) (S : World → Prop) (fuel : Nat) (listed : Array Bool) (F : Fr) (w : World) (K : Fr → World → Prop) : Prop :=
  ∀ a Q, Sim c0 n a F → ClosedL .any ops listed → (∀ a' F' w', Sim c0 n a' F' → K F' w' → Q Exit.normal a' w') → (∀ c a w, ¬ Q (.panic c) a w) → wpAnyG P .any ops Q t S fuel listed a w
section
variable {c0 : Ctx} {P : Program} {n : Nat} {ops : Array Oper} {t : Nat} {S : World → Prop} {F : Fr} {w : World} {K : Fr → World → Prop} {fuel : Nat} {listed : Array Bool}
theorem W_gate {ds : List Deferred} {alt : Act → World → Prop} {id : Nat} {l : List Oper} {Q : Exit → Fr → World → Prop} (t : Nat) (S : World → Prop) (hm : P.follows .mixedOrders = true) (hS : S { w with drawn := w.drawn + 1 })
    (h : S { w with drawn := w.drawn + 1 } → GateW ⟨none, ds, alt⟩ P n l.toArray t S l.length (Array.replicate l.length false) F { w with drawn := w.drawn + 1 } (fun F' w' => Q .normal F' w')) : W ⟨none, ds, alt⟩ P n (.region id l.toArray true) F w Q := by
  intro a ha
  refine wpIn_wide.2 (wp_region_noPanic (wp_region_any hm (wpAny_of_gate (t := t) (S := S) _ _ _ _ ?_)))
  have h1 := h hS a (NoPanic (Post ⟨none, ds, alt⟩ n Q)) ha (by have := ClosedL.start (md := .any) (ops := l.toArray); simpa using this) (fun a' F' w' hs hK => .inl ⟨F', hs, hK⟩) (fun c a w h => h)
  simpa using h1
theorem gt_done (hr : Region.ready .any ops listed = []) (h : K F w) : GateW c0 P n ops t S fuel listed F w K := fun a Q hs _ hk hp => by
  cases fuel with
  | zero => exact ⟨hr, hk _ _ _ hs h⟩
  | succ f => exact ⟨fun _ => hk _ _ _ hs h, by rw [hr]; simp⟩
theorem gt_take {o : Oper} {v : Value} (i : Nat) (hi : ops[i]? = some o) (hn : Region.noSelect ops = true) (hf : Region.free .any ops listed i = true) (hr : (Region.ready .any ops listed).contains i = true) (hw : (waitsN .any ops ops.size t i && !Nat.beq i t) = true)
    (hg : wantedF ops F o = true) (hy : ∀ w, S w → Run1 P F o w v w) (hS : S w) (h : GateW c0 P n ops t S fuel (listed.setIfInBounds i true) (updo n F o.dst v) w K) : GateW c0 P n ops t S (fuel + 1) listed F w K := by
  intro a Q hs hc hk hp
  simp only [Bool.and_eq_true, Bool.not_eq_true'] at hw
  have hir : i ∈ Region.ready .any ops listed := by simpa using hr
  refine wpAnyG_first hi (Region.noSelect_spec hn) (fun c a w h => (hp _ _ _ h).elim) hw.1 (fun e => by subst e; rw [Nat.beq_refl] at hw; cases hw.2) fuel listed a w hc (Region.free_spec hi hf) hir (.inl ⟨by rw [wanted_eq hs]; exact hg, fun w hw => by rw [hs.eval]; exact (hy w hw : (execOp (ev F) o).run P w = .ok (.value v) w)⟩) (fun _ => hS) ?_
  exact h _ Q (hs.put o.dst v) (hc.set hir) hk hp
section
variable {d s : Tmp} {v : Value} {ty : TypeId} {pos : String} {after : Array Edge} {g : Option (Nat × Bool)}
theorem gt_mvt (i : Nat) (hi : ops[i]? = some ⟨some d, .move (.tmp s), ty, pos, after, g⟩) (hn : Region.noSelect ops = true) (hf : Region.free .any ops listed i = true) (hr : (Region.ready .any ops listed).contains i = true) (hw : (waitsN .any ops ops.size t i && !Nat.beq i t) = true)
    (hg : wantedF ops F ⟨some d, .move (.tmp s), ty, pos, after, g⟩ = true) (hS : S w) (h : GateW c0 P n ops t S fuel (listed.setIfInBounds i true) (updc n F d s) w K) : GateW c0 P n ops t S (fuel + 1) listed F w K :=
  gt_take i hi hn hf hr hw hg (fun _ _ => r_move) hS (by rw [updc_eq] at h; exact h)
theorem gt_ast (i : Nat) (hi : ops[i]? = some ⟨some d, .assign (.tmp s), ty, pos, after, g⟩) (hn : Region.noSelect ops = true) (hf : Region.free .any ops listed i = true) (hr : (Region.ready .any ops listed).contains i = true) (hw : (waitsN .any ops ops.size t i && !Nat.beq i t) = true)
    (hg : wantedF ops F ⟨some d, .assign (.tmp s), ty, pos, after, g⟩ = true) (hS : S w) (h : GateW c0 P n ops t S fuel (listed.setIfInBounds i true) (updc n F d s) w K) : GateW c0 P n ops t S (fuel + 1) listed F w K :=
  gt_take i hi hn hf hr hw hg (fun _ _ => r_assign) hS (by rw [updc_eq] at h; exact h)
theorem gt_run {op : Op} (i : Nat) (hy : ∀ w, S w → Run1 P F ⟨some d, op, ty, pos, after, g⟩ w v w) (hi : ops[i]? = some ⟨some d, op, ty, pos, after, g⟩) (hn : Region.noSelect ops = true) (hf : Region.free .any ops listed i = true) (hr : (Region.ready .any ops listed).contains i = true) (hw : (waitsN .any ops ops.size t i && !Nat.beq i t) = true)
    (hg : wantedF ops F ⟨some d, op, ty, pos, after, g⟩ = true) (hS : S w) (h : GateW c0 P n ops t S fuel (listed.setIfInBounds i true) (upd n F d v) w K) : GateW c0 P n ops t S (fuel + 1) listed F w K :=
  gt_take i hi hn hf hr hw hg hy hS h
end
theorem gp_take {o : Oper} {v : Value} (i : Nat) (hi : ops[i]? = some o) (hn : Region.noSelect ops = true) (hf : Region.free .any ops listed i = true) (hr : (Region.ready .any ops listed).contains i = true) (hw : (!Nat.beq i t) = true)
    (hg : wantedF ops F o = true) (hy : ∀ w, True → Run1 P F o w v w) (hS : S w) (h : GateW c0 P n ops t S fuel (listed.setIfInBounds i true) (updo n F o.dst v) w K) : GateW c0 P n ops t S (fuel + 1) listed F w K := by
  intro a Q hs hc hk hp
  simp only [Bool.not_eq_true'] at hw
  have hir : i ∈ Region.ready .any ops listed := by simpa using hr
  refine wpAnyG_pure hi (Region.noSelect_spec hn) (fun c a w h => (hp _ _ _ h).elim) (fun e => by subst e; rw [Nat.beq_refl] at hw; cases hw) fuel listed a w hc (Region.free_spec hi hf) hir (.inl ⟨by rw [wanted_eq hs]; exact hg, fun w hw => by rw [hs.eval]; exact (hy w hw : (execOp (ev F) o).run P w = .ok (.value v) w)⟩) (fun _ => hS) ?_
  exact h _ Q (hs.put o.dst v) (hc.set hir) hk hp
section
variable {d s : Tmp} {v : Value} {ty : TypeId} {pos : String} {after : Array Edge} {g : Option (Nat × Bool)}
theorem gp_mvt (i : Nat) (hi : ops[i]? = some ⟨some d, .move (.tmp s), ty, pos, after, g⟩) (hn : Region.noSelect ops = true) (hf : Region.free .any ops listed i = true) (hr : (Region.ready .any ops listed).contains i = true) (hw : (!Nat.beq i t) = true)
    (hg : wantedF ops F ⟨some d, .move (.tmp s), ty, pos, after, g⟩ = true) (hS : S w) (h : GateW c0 P n ops t S fuel (listed.setIfInBounds i true) (updc n F d s) w K) : GateW c0 P n ops t S (fuel + 1) listed F w K :=
  gp_take i hi hn hf hr hw hg (fun _ _ => r_move) hS (by rw [updc_eq] at h; exact h)
theorem gp_run {op : Op} (i : Nat) (hy : ∀ w, True → Run1 P F ⟨some d, op, ty, pos, after, g⟩ w v w) (hi : ops[i]? = some ⟨some d, op, ty, pos, after, g⟩) (hn : Region.noSelect ops = true) (hf : Region.free .any ops listed i = true) (hr : (Region.ready .any ops listed).contains i = true) (hw : (!Nat.beq i t) = true)
    (hg : wantedF ops F ⟨some d, op, ty, pos, after, g⟩ = true) (hS : S w) (h : GateW c0 P n ops t S fuel (listed.setIfInBounds i true) (upd n F d v) w K) : GateW c0 P n ops t S (fuel + 1) listed F w K :=
  gp_take i hi hn hf hr hw hg hy hS h
end
/-- Only one may come up, ahead of the gate. -/
theorem gt_one (i : Nat) (hr : Region.ready .any ops listed = [i]) (h : OneW c0 P n ops F w i (fun F' w' => S w' ∧ (S w' → GateW c0 P n ops t S fuel (listed.setIfInBounds i true) F' w' K))) : GateW c0 P n ops t S (fuel + 1) listed F w K := by
  intro a Q hs hc hk hp
  refine ⟨fun h0 => (by rw [hr] at h0; cases h0), fun j hj => ?_⟩
  rw [hr, List.mem_singleton] at hj
  subst hj
  exact h a Q hs hp _ fun a' F' w' hs' ⟨hS', hA⟩ => ⟨fun _ => hS', hA hS' a' Q hs' (hc.set (by rw [hr]; simp)) hk hp⟩
/-- The gate, and what comes behind it. -/
theorem gt_past (i : Nat) (hr : Region.ready .any ops listed = [i]) (hg : (listed.setIfInBounds i true).getD t true = true) (h : OneW c0 P n ops F w i (fun F' w' => GateW c0 P n ops t S fuel (listed.setIfInBounds i true) F' w' K)) : GateW c0 P n ops t S (fuel + 1) listed F w K := by
  intro a Q hs hc hk hp
  refine ⟨fun h0 => (by rw [hr] at h0; cases h0), fun j hj => ?_⟩
  rw [hr, List.mem_singleton] at hj
  subst hj
  exact h a Q hs hp _ fun a' F' w' hs' hA => ⟨fun h => (by rw [hg] at h; cases h), hA a' Q hs' (hc.set (by rw [hr]; simp)) hk hp⟩
end
end Go.Proofs.Ytkmciohghhffnaa.B
/-! A region that draws its order, several of whose operations make memory or call, none of which changes what there was: these come up in whatever order; behind them all, each has left what it leaves. -/
namespace Go.Proofs.Ytkmciohghhffnaa.B
open Go
set_option linter.unusedVariables false
/-- How worlds go on. -/
structure Pre (R : World → World → Prop) : Prop where
  refl : ∀ w, R w w
  trans : ∀ {a b c}, R a b → R b c → R a c
  size : ∀ {a b}, R a b → a.heap.size ≤ b.heap.size
theorem pre_all : Pre (Keep All) := ⟨Keep.refl, Keep.trans, fun h => h.size⟩
/-- What operation k has left: it ran from wa to wb; the blocks between are its own by g. -/
def Fact (R : World → World → Prop) (φ : Nat → Value → World → World → Prop) (w0 : World) (g : Nat → Nat) (k : Nat) (v : Value) (w : World) : Prop :=
  ∃ wa wb, R w0 wa ∧ R wa wb ∧ R wb w ∧ (∀ b, wa.heap.size ≤ b → b < wb.heap.size → g b = k) ∧ φ k v wa wb
def Facts (R : World → World → Prop) (φ : Nat → Value → World → World → Prop) (w0 : World) (g : Nat → Nat) : List Nat → List Value → World → Prop
  | [], vs, _ => vs = []
  | k :: ks, vs, w => ∃ v rest, vs = v :: rest ∧ Fact R φ w0 g k v w ∧ Facts R φ w0 g ks rest w
theorem Facts.of {R : World → World → Prop} {φ : Nat → Value → World → World → Prop} {w0 : World} {g : Nat → Nat} {w : World} {F : Fr} : ∀ {l : List (Nat × Nat)}, (∀ p ∈ l, Fact R φ w0 g p.1 (F p.2) w) → Facts R φ w0 g (l.map (·.1)) ((l.map (·.2)).map F) w
  | [], _ => rfl
  | p :: l, h => ⟨_, _, rfl, h p (List.mem_cons_self ..), Facts.of fun q hq => h q (List.mem_cons_of_mem _ hq)⟩
/-- An operation of the bunch: its number, where it writes, whom it reads, and where these write. -/
structure MS where
  i : Nat
  d : Nat
  need : List (Nat × Nat)
def nodupB : List Nat → Bool
  | [] => true
  | x :: l => !(l.any (Nat.beq x)) && nodupB l
def inB (x : Nat) (l : List Nat) : Bool := l.any (Nat.beq x)
theorem inB_iff {x : Nat} {l : List Nat} : inB x l = true ↔ x ∈ l := by
  unfold inB; rw [List.any_eq_true]
  exact ⟨fun ⟨y, hy, h⟩ => Nat.eq_of_beq_eq_true h ▸ hy, fun h => ⟨x, h, Nat.beq_refl x⟩⟩
def monoB (ops : Array Oper) (listed : Array Bool) (n : Nat) (sp : List MS) : Bool :=
  nodupB (sp.map (·.i)) && nodupB (sp.map (·.d)) && Nat.beq listed.size ops.size &&
  sp.all (fun s => Nat.blt s.d n && !(listed.getD s.i true) && (match ops[s.i]? with
    | some o => (match o.dst with | some d => Nat.beq d s.d | none => false) && o.after.toList.all (fun e => !Region.binds .any e || listed.getD e.on false || (inB e.on (sp.map (·.i)) && Nat.blt e.on s.i))
    | none => false) &&
    s.need.all (fun p => waitsN .any ops ops.size s.i p.1 && sp.any (fun t => Nat.beq t.i p.1 && Nat.beq t.d p.2))) &&
  (List.range ops.size).all (fun k => (match ops[k]? with
    | some o => (listed.getD k true && o.after.toList.all (fun e => !Region.binds .any e || listed.getD e.on false)) || (!(listed.getD k true) && (inB k (sp.map (·.i)) || sp.all (fun s => waitsN .any ops ops.size k s.i)))
    | none => false))
section
variable {c0 : Ctx} {P : Program} {n : Nat} {ops : Array Oper} {S : World → Prop} {F : Fr} {w : World} {K : Fr → World → Prop} {fuel : Nat} {listed : Array Bool}
def MSteps (R : World → World → Prop) (c0 : Ctx) (P : Program) (n : Nat) (ops : Array Oper) (F : Fr) (w : World) (φ : Nat → Value → World → World → Prop) (ds : List Nat) : List MS → Prop
  | [] => True
  | s :: r => (∀ J vs g w1, R w w1 → Facts R φ w g (s.need.map (·.1)) vs w1 → OneW c0 P n ops (headF F ds J (s.need.map (·.2)) vs) w1 s.i (fun F' w2 => R w1 w2 ∧ φ s.i (F' s.d) w1 w2)) ∧ MSteps R c0 P n ops F w φ ds r
theorem MSteps.get {R : World → World → Prop} {φ : Nat → Value → World → World → Prop} {ds : List Nat} {s : MS} : ∀ {l : List MS}, MSteps R c0 P n ops F w φ ds l → s ∈ l → ∀ J vs g w1, R w w1 → Facts R φ w g (s.need.map (·.1)) vs w1 → OneW c0 P n ops (headF F ds J (s.need.map (·.2)) vs) w1 s.i (fun F' w2 => R w1 w2 ∧ φ s.i (F' s.d) w1 w2)
  | x :: l, h, hs => by
    rcases List.mem_cons.1 hs with rfl | hs
    · exact h.1
    · exact MSteps.get h.2 hs
theorem wpOp_put {i : Nat} {o : Oper} {Q : Exit → Act → World → Prop} {K : Act → World → Prop} {a : Act} {w : World} (hi : ops[i]? = some o) (h : wpOp P ops Q i (fun a' w' => (∃ v, a'.tmps = (a.put o.dst v).tmps) → K a' w') a w) : wpOp P ops Q i K a w := by
  have pd : ∀ (d : Deferred) (u : Value), (Act.put { a with defers := d :: a.defers } o.dst u).tmps = (a.put o.dst u).tmps := fun d u => by cases o.dst <;> rfl
  unfold wpOp at *
  simp only [hi] at *
  split
  · rename_i hw
    simp only [hw, if_true] at h
    refine h.imp (fun h => ?_) id
    unfold Oper.wp at *
    generalize (execOp a.eval o).run P w = r at *
    cases r with
    | ok nx w' =>
      cases nx <;> simp only [Oper.upon] at h ⊢
      case value u => exact h ⟨_, rfl⟩
      case skip => exact h ⟨_, rfl⟩
      case defer => exact h ⟨_, pd _ _⟩
      case enter f args =>
        refine Calls.mono h fun e w'' he => ?_
        cases e with
        | returned u => exact he ⟨_, rfl⟩
        | panicked c => exact he
        | outgrown => exact he
      case row row args => exact Rows.mono h fun u w'' he => he ⟨_, rfl⟩
    | halt x w' =>
      cases x <;> simp only [Oper.upon] at h ⊢ <;> exact h
  · rename_i hw
    simp only [hw] at h
    exact h ⟨_, rfl⟩
theorem nodup_of {l : List Nat} (h : nodupB l = true) : l.Nodup := by
  induction l with
  | nil => exact List.nodup_nil
  | cons x l ih =>
    unfold nodupB at h
    simp only [Bool.and_eq_true, Bool.not_eq_true'] at h
    refine List.nodup_cons.2 ⟨fun hm => ?_, ih h.2⟩
    have := inB_iff.2 hm
    unfold inB at this
    rw [this] at h; cases h.1
theorem count_set {l : List Nat} {p q : Nat → Bool} {j : Nat} (hn : l.Nodup) (hj : j ∈ l) (hp : p j = true) (hq : q j = false) (h : ∀ k, k ≠ j → q k = p k) : l.countP p = l.countP q + 1 := by
  induction l with
  | nil => cases hj
  | cons x l ih =>
    obtain ⟨hx, hn⟩ := List.nodup_cons.1 hn
    rw [List.countP_cons, List.countP_cons]
    rcases List.mem_cons.1 hj with rfl | hj
    · have e : l.countP p = l.countP q := List.countP_congr fun k hk => by rw [h k (fun e => hx (e ▸ hk))]
      rw [e, if_pos hp, if_neg (by rw [hq]; simp)]
    · rw [ih hn hj, h x (fun e => hx (e ▸ hj))]; omega
theorem nodup_map_inj {α : Type} {f : α → Nat} : ∀ {l : List α}, (l.map f).Nodup → ∀ {a b : α}, a ∈ l → b ∈ l → f a = f b → a = b
  | x :: l, hn, a, b, ha, hb, he => by
    rw [List.map_cons] at hn
    obtain ⟨hx, hn'⟩ := List.nodup_cons.1 hn
    clear hn
    rcases List.mem_cons.1 ha with rfl | ha'
    · rcases List.mem_cons.1 hb with rfl | hb
      · rfl
      · exact (hx (by rw [he]; exact List.mem_map_of_mem hb)).elim
    · rcases List.mem_cons.1 hb with rfl | hb
      · exact (hx (by rw [← he]; exact List.mem_map_of_mem ha')).elim
      · exact nodup_map_inj hn' ha' hb he
theorem waits_done {L : Array Bool} {f j i : Nat} {o : Oper} (inv : ClosedL .any ops L) (ho : ops[j]? = some o) (hr : ∀ e ∈ o.after, Region.binds .any e = true → L.getD e.on false = true) (hw : waitsN .any ops f j i = true) : L.getD i true = true := by
  cases hi : L.getD i true with
  | true => rfl
  | false =>
    exfalso
    cases f with
    | zero => cases hw
    | succ f =>
      unfold waitsN at hw
      rw [ho] at hw
      obtain ⟨e, he, hb⟩ := List.any_eq_true.1 hw
      simp only [Bool.and_eq_true, Bool.or_eq_true] at hb
      have h1 := hr e (by simpa using he) hb.1
      rcases hb.2 with h2 | h2
      · rw [Nat.eq_of_beq_eq_true h2, getD_both hi] at h1; cases h1
      · have h3 := ClosedL.gate inv hi f e.on h2
        rw [getD_both h3] at h1; cases h1
theorem any_monoR (R : World → World → Prop) (hR : Pre R) (sp : List MS) (φ : Nat → Value → World → World → Prop) (fuel' : Nat) (hf : Nat.beq fuel (fuel' + sp.length) = true) (hB : monoB ops listed n sp = true) (hS : ∀ w', R w w' → S w')
    (hstep : MSteps R c0 P n ops F w φ (sp.map (·.d)) sp)
    (hend : ∀ J vs g w1, R w w1 → Facts R φ w g (sp.map (·.i)) vs w1 → AnyW c0 P n ops S fuel' ((sp.map (·.i)).foldl (fun l i => l.setIfInBounds i true) listed) (headF F (sp.map (·.d)) J (sp.map (·.d)) vs) w1 K) : AnyW c0 P n ops S fuel listed F w K := by
  obtain rfl := Nat.eq_of_beq_eq_true hf
  intro a0 Q hs0 hk hp
  unfold monoB at hB
  simp only [Bool.and_eq_true, List.all_eq_true, Bool.not_eq_true', List.mem_range] at hB
  obtain ⟨⟨⟨⟨hn1, hn2⟩, hsz⟩, hsp⟩, hall⟩ := hB
  have hn1 := nodup_of hn1
  have hn2 := nodup_of hn2
  have hsz := Nat.eq_of_beq_eq_true hsz
  -- the bunch's operations
  have hop : ∀ s ∈ sp, s.d < n ∧ listed.getD s.i true = false ∧ (∃ o, ops[s.i]? = some o ∧ o.dst = some s.d ∧ ∀ e ∈ o.after, Region.binds .any e = true → listed.getD e.on false = true ∨ (e.on ∈ sp.map (·.i) ∧ e.on < s.i)) ∧ ∀ p ∈ s.need, waitsN .any ops ops.size s.i p.1 = true ∧ ∃ t ∈ sp, t.i = p.1 ∧ t.d = p.2 := by
    intro s h
    obtain ⟨⟨⟨h1, h2⟩, h3⟩, h4⟩ := hsp s h
    refine ⟨Nat.le_of_ble_eq_true h1, h2, ?_, fun p hp => ?_⟩
    · split at h3
      · rename_i o ho
        simp only [Bool.and_eq_true, List.all_eq_true] at h3
        refine ⟨o, ho, ?_, fun e he hb => ?_⟩
        · have := h3.1
          split at this
          · rename_i d hd; rw [hd, Nat.eq_of_beq_eq_true this]
          · cases this
        · have := h3.2 e (by simpa using he)
          rw [hb] at this
          simp only [Bool.not_true, Bool.false_or, Bool.or_eq_true, Bool.and_eq_true] at this
          exact this.imp id fun ⟨h5, h6⟩ => ⟨inB_iff.1 h5, Nat.le_of_ble_eq_true h6⟩
      · cases h3
    · obtain ⟨h5, h6⟩ := h4 p hp
      obtain ⟨t, ht, h7⟩ := List.any_eq_true.1 h6
      simp only [Bool.and_eq_true] at h7
      exact ⟨h5, t, ht, Nat.eq_of_beq_eq_true h7.1, Nat.eq_of_beq_eq_true h7.2⟩
  have hcl : ClosedL .any ops listed := by
    refine ⟨hsz, fun j oj hj hl e he hb => ?_⟩
    have hjl : j < ops.size := (Array.getElem?_eq_some_iff.1 hj).1
    have := hall j hjl
    rw [hj] at this
    simp only [Bool.or_eq_true, Bool.and_eq_true, Bool.not_eq_true', List.all_eq_true] at this
    rcases this with h1 | h1
    · have := h1.2 e (by simpa using he); rw [hb] at this; simpa using this
    · rw [getD_both h1.1] at hl; cases hl
  have hothers : ∀ j, j < ops.size → listed.getD j true = false → j ∉ sp.map (·.i) → ∀ s ∈ sp, waitsN .any ops ops.size j s.i = true := by
    intro j hjl hj hni s hs
    have := hall j hjl
    obtain ⟨o, ho⟩ : ∃ o, ops[j]? = some o := ⟨_, Array.getElem?_eq_getElem hjl⟩
    rw [ho] at this
    simp only [Bool.or_eq_true, Bool.and_eq_true, Bool.not_eq_true', List.all_eq_true] at this
    rcases this with h1 | h1
    · rw [hj] at h1; cases h1.1
    · rcases h1.2 with h2 | h2
      · exact absurd (inB_iff.1 h2) hni
      · exact h2 s hs
  -- from any state on
  have main : ∀ (r : Nat) (L : Array Bool) (a : Act) (Fc : Fr) (w1 : World) (g : Nat → Nat), Sim c0 n a Fc → R w w1 → offM (sp.map (·.d)) F Fc → ClosedL .any ops L → (∀ k, k ∉ sp.map (·.i) → L[k]? = listed[k]?) →
      (∀ s ∈ sp, L.getD s.i true = true → Fact R φ w g s.i (Fc s.d) w1) → (sp.map (·.i)).countP (fun i => !(L.getD i true)) = r → wpAnyH P .any ops Q S (fuel' + r) L a w1 := by
    intro r
    induction r with
    | zero =>
      intro L a Fc w1 g hs hk1 hoff hcL hLe hfa hr
      have hlisted : ∀ s ∈ sp, L.getD s.i true = true := fun s hs => by
        have := List.countP_eq_zero.1 hr s.i (List.mem_map_of_mem hs)
        simpa using this
      have hget : ∀ (l : List Nat) (A : Array Bool) (k : Nat), (l.foldl (fun l i => l.setIfInBounds i true) A)[k]? = if k ∈ l then (A[k]?).map (fun _ => true) else A[k]? := by
        intro l
        induction l with
        | nil => intro A k; simp
        | cons x l ih =>
          intro A k
          rw [List.foldl_cons, ih, Array.getElem?_setIfInBounds]
          by_cases h1 : k ∈ l
          · by_cases h2 : x = k
            · subst h2; simp [h1]
              by_cases h3 : x < A.size
              · simp [h3]
              · simp [h3]
            · simp [h1, h2]
          · by_cases h2 : x = k
            · subst h2; simp [h1]
              by_cases h3 : x < A.size
              · simp [h3]
              · simp [h3]
            · have h2' : ¬ k = x := fun e => h2 e.symm
              simp [h1, h2, h2']
      have hL : L = (sp.map (·.i)).foldl (fun l i => l.setIfInBounds i true) listed := by
        apply Array.ext'
        apply List.ext_getElem?
        intro k
        rw [Array.getElem?_toList, Array.getElem?_toList, hget]
        by_cases hm : k ∈ sp.map (·.i)
        · rw [if_pos hm]
          obtain ⟨s, hs, rfl⟩ := List.mem_map.1 hm
          obtain ⟨_, h1, ⟨o, ho, _⟩, _⟩ := hop s hs
          have hlt : s.i < ops.size := (Array.getElem?_eq_some_iff.1 ho).1
          have h2 := hlisted s hs
          rw [Array.getD_eq_getD_getElem?, Array.getElem?_eq_getElem (by rw [hcL.size]; exact hlt)] at h2
          rw [Array.getElem?_eq_getElem (by rw [hcL.size]; exact hlt), Array.getElem?_eq_getElem (by rw [hsz]; exact hlt)]
          simpa using h2
        · rw [if_neg hm]; exact hLe k hm
      have hfr := headF_self F Fc (sp.map (·.d)) (sp.map (·.d)) hoff
      have hF : Facts R φ w g (sp.map (·.i)) ((sp.map (·.d)).map Fc) w1 := by
        have := Facts.of (R := R) (φ := φ) (w0 := w) (g := g) (w := w1) (F := Fc) (l := sp.map fun s => (s.i, s.d)) (fun p hp => by
          obtain ⟨s, hs, rfl⟩ := List.mem_map.1 hp
          exact hfa s hs (hlisted s hs))
        simpa [List.map_map, Function.comp_def] using this
      have h := hend Fc ((sp.map (·.d)).map Fc) g w1 hk1 hF
      rw [← hfr, ← hL] at h
      exact h a Q hs hk hp
    | succ r ih =>
      intro L a Fc w1 g hs hk1 hoff hcL hLe hfa hr
      have hgetE : ∀ k d, k ∉ sp.map (·.i) → L.getD k d = listed.getD k d := fun k d hk => by
        rw [Array.getD_eq_getD_getElem?, Array.getD_eq_getD_getElem?, hLe k hk]
      have hdep : ∀ s ∈ sp, ∀ k, listed.getD k false = true → L.getD k false = true := by
        intro s hs k hk
        by_cases hm : k ∈ sp.map (·.i)
        · obtain ⟨t, ht, rfl⟩ := List.mem_map.1 hm
          have := (hop t ht).2.1
          rw [getD_both this] at hk; cases hk
        · rw [hgetE k false hm]; exact hk
      refine ⟨fun h => ?_, fun j hj => ?_⟩
      · -- the least that has not come up
        exfalso
        have hex : ∃ i, i ∈ sp.map (·.i) ∧ L.getD i true = false := by
          have hpos : 0 < (sp.map (·.i)).countP (fun i => !(L.getD i true)) := by omega
          obtain ⟨i, hi, h2⟩ := List.countP_pos_iff.1 hpos
          exact ⟨i, hi, by simpa using h2⟩
        have hmin : ∀ m i, i ≤ m → i ∈ sp.map (·.i) → L.getD i true = false → False := by
          intro m
          induction m with
          | zero =>
            intro i him hi hL
            obtain rfl : i = 0 := by omega
            obtain ⟨s, hss, hse⟩ := List.mem_map.1 hi
            obtain ⟨_, _, ⟨o, ho, _, hdp⟩, _⟩ := hop s hss
            have : (0 : Nat) ∈ Region.ready .any ops L := mem_ready.2 ⟨hL, o, hse ▸ ho, fun e he hb => by
              rcases hdp e he hb with h1 | ⟨_, h1⟩
              · exact hdep s hss _ h1
              · omega⟩
            rw [h] at this; cases this
          | succ m ihm =>
            intro i him hi hL
            obtain ⟨s, hss, hse⟩ := List.mem_map.1 hi
            obtain ⟨_, _, ⟨o, ho, _, hdp⟩, _⟩ := hop s hss
            have : i ∈ Region.ready .any ops L := mem_ready.2 ⟨hL, o, hse ▸ ho, fun e he hb => by
              rcases hdp e he hb with h1 | ⟨h0, h1⟩
              · exact hdep s hss _ h1
              · cases hc : L.getD e.on false with
                | true => rfl
                | false =>
                  have hlt : e.on < L.size := by
                    obtain ⟨t, ht, hte⟩ := List.mem_map.1 h0
                    obtain ⟨_, _, ⟨o', ho', _⟩, _⟩ := hop t ht
                    rw [hcL.size, ← hte]; exact (Array.getElem?_eq_some_iff.1 ho').1
                  exact (ihm e.on (by omega) h0 (getD_in hlt hc)).elim⟩
            rw [h] at this; cases this
        obtain ⟨i, h1, h2⟩ := hex
        exact hmin i i (Nat.le_refl _) h1 h2
      · obtain ⟨hju, oj, hoj, hjr⟩ := mem_ready.1 hj
        have hjl : j < ops.size := (Array.getElem?_eq_some_iff.1 hoj).1
        have hjm : j ∈ sp.map (·.i) := by
          apply Decidable.byContradiction
          intro hm
          have hju' : listed.getD j true = false := by rw [← hgetE j true hm]; exact hju
          have hpos : 0 < (sp.map (·.i)).countP (fun i => !(L.getD i true)) := by omega
          obtain ⟨i, hi, h2⟩ := List.countP_pos_iff.1 hpos
          obtain ⟨s, hss, rfl⟩ := List.mem_map.1 hi
          have := waits_done hcL hoj hjr (hothers j hjl hju' hm s hss)
          rw [this] at h2; cases h2
        obtain ⟨s, hss, rfl⟩ := List.mem_map.1 hjm
        obtain ⟨hdn, _, ⟨o, ho, hod, _⟩, hneed⟩ := hop s hss
        obtain rfl : oj = o := by rw [hoj] at ho; exact Option.some.inj ho
        have hF : Facts R φ w g (s.need.map (·.1)) ((s.need.map (·.2)).map Fc) w1 := Facts.of fun p hp => by
          obtain ⟨h1, t, ht, h2, h3⟩ := hneed p hp
          have := hfa t ht (h2 ▸ waits_done hcL hoj hjr h1)
          rwa [h2, h3] at this
        have h1 := hstep.get hss Fc ((s.need.map (·.2)).map Fc) g w1 hk1 hF
        rw [← headF_self F Fc (sp.map (·.d)) (s.need.map (·.2)) hoff] at h1
        refine wpOp_put hoj (h1 a Q hs hp _ ?_)
        rintro a' F' w2 hs' ⟨hk2, hφ⟩ ⟨v, hv⟩
        have hF' : ∀ t, t ≠ s.d → F' t = Fc t := fun t ht => by
          rw [← hs'.val t, hv, hod]
          have := (hs.put (some s.d) v).val t
          rw [this]
          show cond _ _ _ = _
          rw [beq_ne ht]; rfl
        refine ⟨hS _ (hR.trans hk1 hk2), ih (L.setIfInBounds s.i true) a' F' w2 (fun b => if b < w1.heap.size then g b else s.i) hs' (hR.trans hk1 hk2) ?_ (hcL.set hj) ?_ ?_ ?_⟩
        · intro t ht
          rw [hF' t (fun e => ?_)]
          · exact hoff t ht
          · subst e
            have : memB (sp.map (·.d)) s.d = true := (memB_iff _ _).2 (List.mem_map_of_mem hss)
            rw [this] at ht; cases ht
        · intro k hk
          rw [Array.getElem?_setIfInBounds_ne (fun e => hk (by rw [← e]; exact List.mem_map_of_mem hss))]
          exact hLe k hk
        · intro t ht hLt
          by_cases hts : t.i = s.i
          · have hts' : t.d = s.d := by
              have := nodup_map_inj hn1 ht hss hts
              rw [this]
            refine ⟨w1, w2, hk1, hk2, hR.refl _, fun b h1 h2 => ?_, ?_⟩
            · show (if b < w1.heap.size then g b else s.i) = t.i
              rw [if_neg (by omega), hts]
            · rw [hts, hts']; exact hφ
          · rw [getD_set_ne true (fun e => hts e.symm)] at hLt
            have hne : t.d ≠ s.d := fun e => hts (by rw [nodup_map_inj hn2 ht hss e])
            rw [hF' t.d hne]
            obtain ⟨wa, wb, h1, h2, h3, h4, h5⟩ := hfa t ht hLt
            refine ⟨wa, wb, h1, h2, hR.trans h3 hk2, fun b hb1 hb2 => ?_, h5⟩
            show (if b < w1.heap.size then g b else s.i) = t.i
            rw [if_pos (by have := hR.size h3; omega)]
            exact h4 b hb1 hb2
        · have := count_set (p := fun i => !(L.getD i true)) (q := fun i => !((L.setIfInBounds s.i true).getD i true)) hn1 (List.mem_map_of_mem hss) (by rw [hju]; rfl) (by
            have : s.i < L.size := by rw [hcL.size]; exact hjl
            simp [this]) (fun k hk => by rw [getD_set_ne true (fun e => hk e.symm)])
          omega
  refine main sp.length listed a0 F w (fun _ => 0) hs0 (hR.refl _) (offM_refl _ _) hcl (fun _ _ => rfl) (fun s hs h => ?_) ?_
  · rw [(hop s hs).2.1] at h; cases h
  · rw [List.countP_eq_length.2, List.length_map]
    intro i hi
    obtain ⟨s, hs, rfl⟩ := List.mem_map.1 hi
    rw [(hop s hs).2.1]; rfl
theorem any_mono (sp : List MS) (φ : Nat → Value → World → World → Prop) (fuel' : Nat) (hf : Nat.beq fuel (fuel' + sp.length) = true) (hB : monoB ops listed n sp = true) (hS : ∀ w', Keep All w w' → S w')
    (hstep : MSteps (Keep All) c0 P n ops F w φ (sp.map (·.d)) sp)
    (hend : ∀ J vs g w1, Keep All w w1 → Facts (Keep All) φ w g (sp.map (·.i)) vs w1 → AnyW c0 P n ops S fuel' ((sp.map (·.i)).foldl (fun l i => l.setIfInBounds i true) listed) (headF F (sp.map (·.d)) J (sp.map (·.d)) vs) w1 K) : AnyW c0 P n ops S fuel listed F w K :=
  any_monoR (Keep All) pre_all sp φ fuel' hf hB hS hstep hend
end
/-- A row, whatever marks it bears. -/
def RowM (w : World) (b : Nat) (cs : List Value) (e : TypeId) : Prop := ∃ fz, w.heap[b]? = some (.cells cs.toArray e fz)
theorem Blk.rowM {w : World} {b : Nat} {cs : List Value} {e : TypeId} (h : Blk w b cs e) : RowM w b cs e := ⟨_, h⟩
theorem RowM.cell {w : World} {b : Nat} {cs : List Value} {e : TypeId} (h : RowM w b cs e) {j : Nat} {v : Value} (hj : cs[j]? = some v) : w.cell? ⟨b, j, none⟩ = some v := by
  obtain ⟨fz, h⟩ := h
  rw [cell_of_row w b j cs.toArray e fz h]; simpa using hj
/-- What there was below B stays; rows stay, but for marks. -/
structure KeepM (B : Nat) (w w' : World) : Prop where
  base : Keep (· < B) w w'
  rows : ∀ b cs e, RowM w b cs e → RowM w' b cs e
theorem KeepM.of {B : Nat} {w w' : World} (h : Keep All w w') : KeepM B w w' := ⟨h.all, fun b cs e ⟨fz, hb⟩ => ⟨fz, h.get hb trivial⟩⟩
theorem pre_m (B : Nat) : Pre (KeepM B) := ⟨fun w => ⟨Keep.refl _, fun _ _ _ h => h⟩, fun h k => ⟨h.base.trans k.base, fun b cs e hb => k.rows b cs e (h.rows b cs e hb)⟩, fun h => h.base.size⟩
theorem KeepM.all {w w' : World} (h : KeepM w.heap.size w w') : Keep All w w' := h.base.mono fun k hk _ => hk
/-- The low bits of any int. -/
theorem and_mask (a : Int) (M : Nat) (hM : M < 2 ^ 63) : ∃ m : Nat, m ≤ M ∧ bitw .and .i64 a (M : Int) = (m : Int) := by
  have hb : (BitVec.ofInt IntKind.i64.bits (M : Int)).toNat = M := bv_u _ _ (Nat.lt_trans hM (by decide))
  have h : (BitVec.ofInt IntKind.i64.bits a &&& BitVec.ofInt IntKind.i64.bits (M : Int)).toNat ≤ M := by
    rw [BitVec.toNat_and, hb]
    exact Nat.and_le_right
  refine ⟨_, h, ?_⟩
  show IntKind.i64.wrap ((BitVec.ofInt IntKind.i64.bits a &&& BitVec.ofInt IntKind.i64.bits (M : Int)).toNat : Int) = _
  rw [wrap_i64 (by omega) (by omega)]
end Go.Proofs.Ytkmciohghhffnaa.B
/-! Digests. -/
namespace Go.Proofs.Ytkmciohghhffnaa.B
open Go
set_option linter.unusedVariables false
/-- A digest. -/
abbrev Dig := {l : List UInt8 // l.length = 32}
def Dig.zero : Dig := ⟨List.replicate 32 0, by simp⟩
/-- A digest's cells. -/
def dgR (d : Dig) : List Value := d.val.map c8
theorem dgR_len (d : Dig) : (dgR d).length = 32 := by unfold dgR; rw [List.length_map, d.2]
theorem dgR_one (d : Dig) : (dgR d).all one = true := all_c8 _
set_option maxRecDepth 20000 in
theorem okC_dgR (d : Dig) : okC Try.prog 2 41 (dgR d) := okC_bytes (by kernel_rfl) (by kernel_rfl) (show tinfo Try.prog 5 = some (some (.int .u8 0), 1, 1) from by kernel_rfl) d.val d.2
theorem dgR_inj {a b : Dig} : dgR a = dgR b ↔ a = b := ⟨fun h => Subtype.ext (c8_inj.1 h), fun h => by rw [h]⟩
end Go.Proofs.Ytkmciohghhffnaa.B
/-! A literal slice of rows. -/
namespace Go.Proofs.Ytkmciohghhffnaa.B
open Go
set_option linter.unusedVariables false
section
variable {α : Type} {row : α → List Value} {sz : Nat}
theorem fill_rows (hrow : ∀ x, (row x).length = sz) : ∀ (xs : List α) (i : Nat) (pre zs : List Value), pre.length = i * sz → zs.length = xs.length * sz →
    fillV (fun i => some (i * sz, sz)) (pre ++ zs) ((xs.zipIdx i).map fun p => (p.2, .agg (row p.1).toArray)) = some (pre ++ rows row xs)
  | [], i, pre, zs, hp, hz => by
    obtain rfl : zs = [] := List.length_eq_zero_iff.1 (by simpa using hz)
    simp [fillV, rows]
  | x :: xs, i, pre, zs, hp, hz => by
    have hx := hrow x
    rw [List.length_cons, Nat.succ_mul] at hz
    have ih := fill_rows hrow xs (i + 1) (pre ++ row x) (zs.drop sz) (by rw [List.length_append, hx, hp, Nat.succ_mul]) (by rw [List.length_drop]; omega)
    rw [List.zipIdx_cons, List.map_cons]
    unfold fillV
    simp only
    rw [if_pos ⟨by simp [Value.cells, hx], by rw [List.length_append]; omega⟩]
    have e : splice (pre ++ zs) (i * sz) (Value.cells (.agg (row x).toArray)).toList = (pre ++ row x) ++ zs.drop sz := by
      unfold splice
      simp only [Value.cells]
      rw [← hp, List.take_left, hx, ← List.drop_drop, List.drop_left]
    rw [e, ih, rows_cons, List.append_assoc]
section
variable {P : Program} {w : World}
theorem run_buildSliceR {t e : TypeId} {z : Value} {by_ : Nat} (hrow : ∀ x, (row x).length = sz) (xs : List α) (ht : P.underlying t = some (.slice e)) (hi : tinfo P e = some (some z, sz, by_)) (h0 : 0 < sz) (h1 : 0 < xs.length) (h24 : xs.length * sz ≤ 2 ^ 24) :
    (Instr.buildSlice t xs.length ((xs.zipIdx.map fun p => (p.2, Value.agg (row p.1).toArray)).toArray)).run P w = .ok (.slice (some ⟨w.heap.size, 0, none⟩) xs.length xs.length) (w.alloc (.cells (rows row xs).toArray e)) := by
  have hf : ∀ arr : Array Value, arr.size = xs.length * sz → Instr.fill (fun i => some (i * sz, sz)) arr (xs.zipIdx.map fun p => (p.2, Value.agg (row p.1).toArray)) = some (rows row xs).toArray := fun arr ha => by
    have h := fill_eq _ _ _ (fill_rows hrow xs 0 [] arr.toList (by simp) (by simpa using ha))
    simpa using h
  have hne : ¬ xs.length * sz = 0 := by have := Nat.mul_pos h1 h0; omega
  simp only [Instr.buildSlice, Sem.run_bind, run_underlying ht, Result.andThen, run_sizeOf_t hi]
  rw [if_neg (by omega), if_neg hne]
  simp only [Sem.run_bind, Sem.run_pure, run_zero_t hi, Result.andThen]
  rw [hf _ (by simp)]
  simp [newRow]
variable {f0 : Bool} {c0 : Ctx} {F : Fr} {n : Nat} {ops : Array Oper} {K : Fr → World → Prop} {rest : List Oper} {dst : Option Tmp} {ty : TypeId} {pos : String} {after : Array Edge} {g : Option (Nat × Bool)}
theorem o_bsR {t e : TypeId} {z : Value} {by_ len : Nat} {parts : List (Nat × Operand)} (row : α → List Value) (hrow : ∀ x, (row x).length = sz) (xs : List α) (ht : P.underlying t = some (.slice e)) (hi : tinfo P e = some (some z, sz, by_)) (h0 : Nat.blt 0 sz = true) (h1 : Nat.blt 0 xs.length = true) (h24 : Nat.ble (xs.length * sz) (2 ^ 24) = true)
    (hlen : len = xs.length) (hp : (parts.map fun p => (p.1, ev F p.2)) = xs.zipIdx.map fun p => (p.2, Value.agg (row p.1).toArray)) (hg : wantedF ops F ⟨dst, .buildSlice t len parts.toArray, ty, pos, after, g⟩ = true)
    (h : ∀ w' b, b = w.heap.size → Blk w' b (rows row xs) e → Keep All w w' → w'.heap.size = b + 1 → OpsW f0 c0 P n ops rest (updo n F dst (.slice (some ⟨b, 0, none⟩) len len)) w' K) : OpsW f0 c0 P n ops (⟨dst, .buildSlice t len parts.toArray, ty, pos, after, g⟩ :: rest) F w K := by
  subst hlen
  exact o_bs _ ht hi (by rw [hp]; exact run_buildSliceR hrow xs ht hi (Nat.le_of_ble_eq_true h0) (Nat.le_of_ble_eq_true h1) (Nat.le_of_ble_eq_true h24)) hg h
end
end
end Go.Proofs.Ytkmciohghhffnaa.B
