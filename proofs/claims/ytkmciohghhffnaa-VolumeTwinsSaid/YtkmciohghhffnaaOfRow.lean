/-
  Slices of rows (structs) of one's own: a literal of one, a beginning of one.
-/
import Derived.Test.YtkmciohghhffnaaBuild
namespace Go.Proofs.Ytkmciohghhffnaa.B
open Go
set_option linter.unusedVariables false
theorem fill_one {cs : List Value} {arr : Array Value} (ha : arr.size = cs.length) : Instr.fill (fun i => some (i * cs.length, cs.length)) arr [(0, .agg cs.toArray)] = some cs.toArray := by
  have h := fill_eq (place := fun i => some (i * cs.length, cs.length)) [(0, .agg cs.toArray)] arr.toList cs (by
    show (if _ ∧ _ then _ else _) = _
    rw [if_pos ⟨by simp [Value.cells], by simp [ha]⟩, Nat.zero_mul, splice_all (by simp [Value.cells, ha])]
    simp [fillV, Value.cells])
  simpa using h
section
variable {f0 : Bool} {c0 : Ctx} {P : Program} {n : Nat} {ops : Array Oper} {F : Fr} {w : World} {K : Fr → World → Prop} {rest : List Oper} {dst : Option Tmp} {ty : TypeId} {pos : String} {after : Array Edge} {g : Option (Nat × Bool)}
/-- A literal slice of one row. -/
theorem o_bsA1 {t e : TypeId} {x : Operand} {z : Value} {by_ : Nat} (cs : List Value) (hx : ev F x = .agg cs.toArray) (ht : P.underlying t = some (.slice e)) (hi : tinfo P e = some (some z, cs.length, by_)) (h0 : Nat.blt 0 cs.length = true) (h24 : cs.length ≤ 2 ^ 24)
    (hg : wantedF ops F ⟨dst, .buildSlice t 1 #[(0, x)], ty, pos, after, g⟩ = true)
    (h : ∀ w' b, b = w.heap.size → Blk w' b cs e → Keep All w w' → w'.heap.size = b + 1 → OpsW f0 c0 P n ops rest (updo n F dst (.slice (some ⟨b, 0, none⟩) 1 1)) w' K) : OpsW f0 c0 P n ops (⟨dst, .buildSlice t 1 #[(0, x)], ty, pos, after, g⟩ :: rest) F w K := by
  refine op_run0 (v := .slice (some ⟨w.heap.size, 0, none⟩) 1 1) (w' := w.alloc (.cells cs.toArray e)) ?_ hg (h _ _ rfl (heap_alloc_new w _) (Keep.alloc w _) (size_alloc w _))
  have h0' : cs.length ≠ 0 := by have := Nat.le_of_ble_eq_true h0; omega
  have hf : ∀ arr : Array Value, arr.size = cs.length → Instr.fill (fun i => some (i * cs.length, cs.length)) arr [(0, .agg cs.toArray)] = some cs.toArray := fun arr ha => fill_one ha
  have hc : cs ≠ [] := fun e => h0' (by rw [e]; rfl)
  (try unfold Run1); simp [execOp, hx, Instr.buildSlice, run_underlying ht, run_sizeOf_t hi, run_zero_t hi, newRow, hc, Nat.not_lt.2 h24, hf]
end
/-- A beginning of a slice of one's own. -/
theorem Own.take {w : World} {e sz : Nat} {a : Option Addr} {n c : Nat} {xs : List Value} (h : Own w e sz (.slice a n c) n xs) (m : Nat) (hm : m ≤ n) : Own w e sz (.slice a m c) m (xs.take (m * sz)) := by
  have hl := h.1
  refine ⟨by rw [List.length_take, hl]; exact Nat.min_eq_left (Nat.mul_le_mul_right _ hm), ?_⟩
  rcases h.2 with ⟨hv, hn⟩ | ⟨g, cap, cur, hv, hg, hh, h1, h2, h3, h4⟩
  · injection hv with e1 e2 e3
    subst e1; subst e3
    obtain rfl : m = 0 := by omega
    exact .inl ⟨rfl, rfl⟩
  · injection hv with e1 e2 e3
    subst e1; subst e3
    refine .inr ⟨g, c, cur, rfl, hg, hh, by omega, h2, h3, ?_⟩
    rw [← h4, List.take_take, Nat.min_eq_left]
    exact Nat.mul_le_mul_right sz hm
theorem r_sliceS_lohimx {P : Program} {F : Fr} {w : World} {dst : Option Tmp} {ty : TypeId} {pos : String} {after : Array Edge} {g : Option (Nat × Bool)} {x lo hi mx : Operand} {t e : TypeId} {a : Option Addr} {n c : Nat} {k k' k'' : IntKind} {i j m : Int} {z : Option Value} {sz by_ : Nat} (hx : ev F x = .slice a n c) (hlo : ev F lo = .int k i) (hhi : ev F hi = .int k' j) (hmx : ev F mx = .int k'' m)
    (ht : P.underlying t = some (.slice e)) (hi' : tinfo P e = some (z, sz, by_)) (h0 : 0 ≤ i) (h1 : i ≤ j) (h2 : j ≤ m) (h3 : m ≤ c) :
    Run1 P F ⟨dst, .slice t x (some lo) (some hi) (some mx), ty, pos, after, g⟩ w (subSl a sz i.toNat j.toNat m.toNat) w := by
  have hj0 : 0 ≤ j := by omega
  have hm0 : 0 ≤ m := by omega
  have hij : i ≤ (j.toNat : Int) := by omega
  have hjm : j ≤ (m.toNat : Int) := by omega
  (try unfold Run1); simp [execOp, hx, hlo, hmx, hhi, Instr.sliceAt, Instr.slice, run_underlying ht, Instr.sliceBounds, run_sizeOf_t hi', run_bound hm0 h3, run_bound hj0 hjm, run_bound h0 hij, subSl]
theorem subSl_0 (g o sz i c : Nat) : subSl (some ⟨g, o, none⟩) sz 0 i c = .slice (some ⟨g, o, none⟩) i c := by
  unfold subSl
  by_cases h : c = 0
  · rw [if_pos h]; simp
  · rw [if_neg h, Option.map_some, Addr.add_lit]; simp
/-- A part of a slice that is read. -/
theorem Sl.sub {w : World} {a : Option Addr} {n c sz l h m : Nat} {cs : List Value} (hs : Sl w (.slice a n c) n sz cs) (h1 : l ≤ h) (h2 : h ≤ n) (h3 : h ≤ m) (h4 : m ≤ c) : Sl w (subSl a sz l h m) (h - l) sz ((cs.take (h * sz)).drop (l * sz)) := by
  obtain ⟨a', c', e, h5, h6, h7, h8, h9⟩ := hs
  injection e with e1 e2 e3
  subst e1; subst e3
  have hl : ((cs.take (h * sz)).drop (l * sz)).length = (h - l) * sz := by
    rw [List.length_drop, List.length_take, h7, Nat.sub_mul, Nat.min_eq_left (Nat.mul_le_mul_right sz h2)]
  have hmul := Nat.mul_le_mul_right sz h1
  have hmul2 := Nat.mul_le_mul_right sz h2
  refine ⟨_, _, rfl, by omega, by omega, hl, ?_, ?_⟩
  · intro he
    cases a with
    | none => have := h8 rfl; omega
    | some x => split at he <;> cases he
  · intro x hx i u hu
    have hi := (List.getElem?_eq_some_iff.1 hu).1
    rw [hl] at hi
    rw [List.getElem?_drop, List.getElem?_take] at hu
    split at hu
    · rename_i hlt
      cases a with
      | none => split at hx <;> cases hx
      | some y =>
        have hne : m ≠ l := by
          intro e
          have : h - l = 0 := by omega
          rw [this] at hi; omega
        rw [if_neg hne, Option.map_some] at hx
        injection hx with hx
        obtain ⟨k1, k2⟩ := h9 y rfl _ u hu
        obtain ⟨b, off, sp⟩ := y
        simp only at k1
        subst k1
        rw [Addr.add_lit] at hx
        subst hx
        refine ⟨rfl, ?_⟩
        rw [← k2]
        simp only [Nat.add_assoc]
    · cases hu
theorem By.sub {w : World} {a : Option Addr} {n c l h m : Nat} {xs : List UInt8} (hb : By w (.slice a n c) xs) (h1 : l ≤ h) (h2 : h ≤ xs.length) (h3 : h ≤ m) (h4 : m ≤ c) : By w (subSl a 1 l h m) ((xs.take h).drop l) := by
  obtain ⟨a', c', e, h5, h6, h7, h8, h9⟩ := hb
  cases e
  have hlen : ((xs.take h).drop l).length = h - l := by simp; omega
  show Sl w _ ((xs.take h).drop l).length 1 _
  rw [hlen]
  refine ⟨_, _, rfl, by omega, by omega, by simp; omega, ?_, ?_⟩
  · intro e
    have : a = none := by
      split at e
      · exact e
      · simpa using e
    have := h8 this
    omega
  · intro x hx i u hu
    rw [List.getElem?_map, List.getElem?_drop, List.getElem?_take] at hu
    split at hu
    · rename_i hlt
      have hne : m ≠ l := by omega
      rw [if_neg hne] at hx
      obtain ⟨y, rfl, rfl⟩ := Option.map_eq_some_iff.1 hx
      obtain ⟨h10, h11⟩ := h9 y rfl (l + i) u (by rw [List.getElem?_map]; exact hu)
      obtain ⟨yb, yo, ys⟩ := y
      simp only at h10; subst h10
      simp only [Addr.add_lit]
      refine ⟨trivial, ?_⟩
      rw [← h11]; simp only [Nat.mul_one]; congr 2; omega
    · cases hu
/-- A block of bytes, read whole. -/
theorem By.of_cells {w : World} {b c : Nat} {bs : List UInt8} (h : ∀ (j : Nat) (v : Value), (bs.map c8)[j]? = some v → w.cell? ⟨b, j, none⟩ = some v) (hc : bs.length ≤ c) (hm : c ≤ maxLen) : By w (.slice (some ⟨b, 0, none⟩) bs.length c) bs :=
  ⟨_, c, rfl, hc, hm, by simp, (fun e => by cases e), fun x hx i u hu => by injection hx with hx; subst hx; exact ⟨rfl, (by rw [Nat.zero_add]; exact h i u hu)⟩⟩
/-- Bytes in the midst of a block. -/
theorem By.of_at {w : World} {b off c : Nat} {bs : List UInt8} (h : ∀ (j : Nat) (v : Value), (bs.map c8)[j]? = some v → w.cell? ⟨b, off + j, none⟩ = some v) (hc : bs.length ≤ c) (hm : c ≤ maxLen) : By w (.slice (some ⟨b, off, none⟩) bs.length c) bs :=
  ⟨_, c, rfl, hc, hm, by simp, (fun e => by cases e), fun x hx i u hu => by injection hx with hx; subst hx; exact ⟨rfl, h i u hu⟩⟩
theorem splice_copy (cs : List Value) (m : Nat) (z : Value) (h : cs.length ≤ m) : splice (List.replicate m z) 0 cs = cs ++ List.replicate (m - cs.length) z := by
  unfold splice; simp
/-- An array or struct that lies in memory, and a value. -/
theorem retAT {P : Program} {fn : Func} {S : Value → World → Prop} {w : World} {F : Fr} {t u : Tmp} {ty : TypeId} {d : TypeDesc} {a : Addr} {z : Option Value} {by_ : Nat} (cs : List Value) (v2 : Value) (h : fn.results = #[.cell t ty, .tmp u]) (ha : F t = .pointer (some a)) (hv2 : F u = v2) (ht : P.underlying ty = some d) (hd : aggD d = true)
    (hi : tinfo P ty = some (z, cs.length, by_)) (hc : ∀ (j : Nat) (v : Value), cs[j]? = some v → w.cell? (a.add j) = some v) (hS : S (.tuple #[.agg cs.toArray, v2]) w) : retP P fn S .ret F w :=
  ⟨_, fun tmps htm => by
    have h1 : tmps.getD t undef = .pointer (some a) := by rw [htm, ha]
    have h2 : tmps.getD u undef = v2 := by rw [htm, hv2]
    simp only [Array.getD_eq_getD_getElem?] at h1 h2
    simp [results, h, h1, h2, asAddr, loadVar, run_isAgg ht, hd, run_sizeOf_t hi, run_loadCells_list w a cs hc], hS⟩
/-- Two cells. -/
theorem row2 {w : World} {b off : Nat} {u v : Value} (h0 : w.cell? ⟨b, off, none⟩ = some u) (h1 : w.cell? ⟨b, off + 1, none⟩ = some v) : ∀ (j : Nat) (x : Value), [u, v][j]? = some x → w.cell? ((⟨b, off, none⟩ : Addr).add j) = some x := by
  intro j x hj
  rw [Addr.add_lit]
  match j, hj with
  | 0, hj => injection hj with hj; subst hj; exact h0
  | 1, hj => injection hj with hj; subst hj; exact h1
end Go.Proofs.Ytkmciohghhffnaa.B
