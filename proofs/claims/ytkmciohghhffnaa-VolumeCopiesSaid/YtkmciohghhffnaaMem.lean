/-
  Memory: blocks that are known whole, what a step keeps, slices by their cells; the operations that read and write memory.
-/
import Derived.Test.YtkmciohghhffnaaOps
import Derived.Laws.CopyRow
import Derived.Laws.MakeOwn
import Derived.Laws.Small
namespace Go.Proofs.Ytkmciohghhffnaa.B
open Go
open Go.RowKit (Below)
set_option linter.unusedVariables false

/-! ### Blocks, and what is kept -/
abbrev Blk (w : World) (b : Nat) (l : List Value) (e : TypeId) : Prop := w.heap[b]? = some (.cells l.toArray e (0, 0))
abbrev All : Nat → Prop := fun _ => True
structure Keep (A : Nat → Prop) (w w' : World) : Prop where
  os : w'.os = w.os
  tape : w'.tape = w.tape
  output : w'.output = w.output
  size : w.heap.size ≤ w'.heap.size
  blk : ∀ k, k < w.heap.size → A k → w'.heap[k]? = w.heap[k]?

theorem size_alloc (w : World) (o : Obj) : (w.alloc o).heap.size = w.heap.size + 1 := by
  show (w.heap.push o).size = _
  simp
theorem lt_of_get {w : World} {b : Nat} {o : Obj} (h : w.heap[b]? = some o) : b < w.heap.size := (Array.getElem?_eq_some_iff.1 h).1
theorem Keep.refl {A : Nat → Prop} (w : World) : Keep A w w := ⟨rfl, rfl, rfl, Nat.le_refl _, fun _ _ _ => rfl⟩
theorem Keep.trans {A : Nat → Prop} {a b c : World} (h : Keep A a b) (k : Keep A b c) : Keep A a c :=
  ⟨k.os.trans h.os, k.tape.trans h.tape, k.output.trans h.output, Nat.le_trans h.size k.size, fun i hi hA => (k.blk i (Nat.lt_of_lt_of_le hi h.size) hA).trans (h.blk i hi hA)⟩
theorem Keep.mono {A A' : Nat → Prop} {a b : World} (h : Keep A a b) (hA : ∀ k, k < a.heap.size → A' k → A k) : Keep A' a b :=
  ⟨h.os, h.tape, h.output, h.size, fun i hi hi' => h.blk i hi (hA i hi hi')⟩
theorem Keep.all {A : Nat → Prop} {a b : World} (h : Keep All a b) : Keep A a b := h.mono fun _ _ _ => trivial
theorem Keep.get {A : Nat → Prop} {w w' : World} (h : Keep A w w') {b : Nat} {o : Obj} (hb : w.heap[b]? = some o) (hA : A b) : w'.heap[b]? = some o :=
  (h.blk b (lt_of_get hb) hA).trans hb
theorem Keep.cell {A : Nat → Prop} {w w' : World} (h : Keep A w w') {a : Addr} {v : Value} (hc : w.cell? a = some v) (hA : A a.block) : w'.cell? a = some v :=
  (World.cell?_of_block (h.blk a.block (World.block_lt_of_cell? w a hc) hA)).trans hc
theorem Keep.below {A : Nat → Prop} {B : Nat} {w w' : World} (h : Keep A w w') (hB : B ≤ w.heap.size) (hA : ∀ k, k < B → A k) : Below B w w' :=
  ⟨h.os, h.tape, h.output, h.size, fun k hk => h.blk k (Nat.lt_of_lt_of_le hk hB) (hA k hk)⟩
theorem Keep.of_below {B : Nat} {w w' : World} (h : Below B w w') : Keep (· < B) w w' := ⟨h.os, h.tape, h.output, h.size, fun k _ hk => h.block k hk⟩
theorem Keep.alloc (w : World) (o : Obj) : Keep All w (w.alloc o) := ⟨rfl, rfl, rfl, by simp, fun k hk _ => Below.heap_alloc w o k hk⟩
theorem Keep.drew (w : World) : Keep All w w.drew := ⟨rfl, rfl, rfl, Nat.le_refl _, fun _ _ _ => rfl⟩
theorem Keep.drawn (w : World) : Keep All w { w with drawn := w.drawn + 1 } := ⟨rfl, rfl, rfl, Nat.le_refl _, fun _ _ _ => rfl⟩
theorem Keep.setRow (w : World) (b : Nat) (cs : Array Value) : Keep (· ≠ b) w (w.setRow b cs) := ⟨rfl, rfl, rfl, by simp [World.setRow], fun k _ hk => setRow_other w b k cs hk⟩
theorem Keep.grown {w w' : World} {row : Option Nat} (h : w.grownBy w' row) : Keep (fun k => some k ≠ row) w w' := ⟨h.os, h.tape, h.output, h.size, fun k hk hne => h.block k hk hne⟩
/-- A block that is newer was written. -/
theorem Keep.new {A : Nat → Prop} {w w1 w2 : World} {b : Nat} (h : Keep A w w1) (h2 : Keep (· ≠ b) w1 w2) (hb : w.heap.size ≤ b) : Keep A w w2 := by
  refine ⟨h2.os.trans h.os, h2.tape.trans h.tape, h2.output.trans h.output, Nat.le_trans h.size h2.size, fun k hk hA => ?_⟩
  rw [h2.blk k (Nat.lt_of_lt_of_le hk h.size) (by omega)]
  exact h.blk k hk hA
theorem Blk.cell {w : World} {b : Nat} {l : List Value} {e : TypeId} (h : Blk w b l e) {o : Nat} {v : Value} (hv : l[o]? = some v) : w.cell? ⟨b, o, none⟩ = some v := by
  rw [cell_of_row w b o l.toArray e (0, 0) h]; simpa using hv
theorem Blk.cells {w : World} {b : Nat} {l : List Value} {e : TypeId} (h : Blk w b l e) (off n : Nat) : ∀ (j : Nat) (v : Value), ((l.drop off).take n)[j]? = some v → w.cell? ((⟨b, off, none⟩ : Addr).add j) = some v := by
  intro j v hv
  rw [Addr.add_lit]
  refine h.cell ?_
  rw [List.getElem?_take] at hv
  split at hv
  · simpa [List.getElem?_drop] using hv
  · cases hv
theorem Blk.all {w : World} {b : Nat} {l : List Value} {e : TypeId} (h : Blk w b l e) : ∀ (j : Nat) (v : Value), l[j]? = some v → w.cell? ((⟨b, 0, none⟩ : Addr).add j) = some v := by
  intro j v hv
  rw [Addr.add_lit]
  exact h.cell (by simpa using hv)
/-- The cells from 'off' on. -/
theorem Blk.from {w : World} {b : Nat} {l cs : List Value} {e : TypeId} (h : Blk w b l e) (off : Nat) (hcs : ∀ j, j < cs.length → l[off + j]? = cs[j]?) : ∀ (j : Nat) (v : Value), cs[j]? = some v → w.cell? ((⟨b, off, none⟩ : Addr).add j) = some v := by
  intro j v hv
  rw [Addr.add_lit]
  exact h.cell (by rw [hcs j (List.getElem?_eq_some_iff.1 hv).1]; exact hv)
theorem Blk.lt {w : World} {b : Nat} {l : List Value} {e : TypeId} (h : Blk w b l e) : b < w.heap.size := lt_of_get h
theorem Keep.blk' {A : Nat → Prop} {w w' : World} (h : Keep A w w') {b : Nat} {l : List Value} {e : TypeId} (hb : Blk w b l e) (hA : A b) : Blk w' b l e := h.get hb hA

/-! ### Types -/
def tinfo (P : Program) (t : TypeId) : Option (Option Value × Nat × Nat) := (P.info? t).map fun i => (i.zero, i.size, i.bytes)
section
variable {f0 : Bool} {c0 : Ctx} {P : Program} {t : TypeId} {z : Option Value} {sz by_ : Nat}
theorem tinfo_info (h : tinfo P t = some (z, sz, by_)) : ∃ i, P.info? t = some i ∧ i.zero = z ∧ i.size = sz ∧ i.bytes = by_ := by
  unfold tinfo at h
  cases hi : P.info? t with
  | none => rw [hi] at h; cases h
  | some i =>
    rw [hi] at h
    simp only [Option.map_some, Option.some.injEq, Prod.mk.injEq] at h
    exact ⟨i, rfl, h.1, h.2.1, h.2.2⟩
theorem run_sizeOf_t (h : tinfo P t = some (z, sz, by_)) (w : World) : (sizeOf t).run P w = .ok sz w := by
  obtain ⟨i, hi, _, hs, _⟩ := tinfo_info h
  simp [sizeOf, typeInfo, hi, hs]
theorem run_zero_t {z : Value} (h : tinfo P t = some (some z, sz, by_)) (w : World) : (zeroValue t).run P w = .ok z w := by
  obtain ⟨i, hi, hz, _, _⟩ := tinfo_info h
  simp [zeroValue, typeInfo, hi, hz]
def aggD : TypeDesc → Bool
  | .struct _ => true
  | .array _ _ => true
  | _ => false
theorem run_isAgg {d : TypeDesc} (h : P.underlying t = some d) (w : World) : (isAgg t).run P w = .ok (aggD d) w := by
  unfold isAgg
  simp only [Sem.run_bind, run_underlying h, Result.andThen_ok]
  cases d <;> rfl
end

def one (v : Value) : Bool := match v with
  | .agg _ => false
  | .tuple _ => false
  | _ => true
theorem one_oneCell {v : Value} (h : one v = true) : v.oneCell' = true := by cases v <;> first | rfl | cases h
theorem cells_one {v : Value} (h : one v = true) : v.cells = #[v] := by cases v <;> first | rfl | cases h

section
variable {f0 : Bool} {c0 : Ctx} {P : Program} {F : Fr} {w : World} {dst : Option Tmp} {ty : TypeId} {pos : String} {after : Array Edge} {g : Option (Nat × Bool)}

/-! ### Reading -/
theorem r_load {x : Operand} {t : TypeId} {d : TypeDesc} {a : Addr} {v : Value} (hx : ev F x = .pointer (some a)) (ht : P.underlying t = some d) (hd : aggD d = false) (hc : w.cell? a = some v) :
    Run1 P F ⟨dst, .load t x, ty, pos, after, g⟩ w v w := by
  (try unfold Run1); simp [execOp, hx, Instr.loadAt, Instr.sureAddr, loadVar, run_isAgg ht, hd, hc]
theorem r_loadA {x : Operand} {t : TypeId} {d : TypeDesc} {a : Addr} {z : Option Value} {by_ : Nat} (cs : List Value) (hx : ev F x = .pointer (some a)) (ht : P.underlying t = some d) (hd : aggD d = true)
    (hi : tinfo P t = some (z, cs.length, by_)) (hc : ∀ (j : Nat) (v : Value), cs[j]? = some v → w.cell? (a.add j) = some v) :
    Run1 P F ⟨dst, .load t x, ty, pos, after, g⟩ w (.agg cs.toArray) w := by
  (try unfold Run1); simp [execOp, hx, Instr.loadAt, Instr.sureAddr, loadVar, run_isAgg ht, hd, run_sizeOf_t hi, run_loadCells_list w a cs hc]
theorem r_fieldAddr {x : Operand} {s : TypeId} {f : Nat} {fs : Array Field} {fd : Field} {b off : Nat} {z : Option Value} {sz by_ : Nat} (hx : ev F x = .pointer (some ⟨b, off, none⟩)) (ht : P.underlying s = some (.struct fs))
    (hf : fs[f]? = some fd) (hi : tinfo P fd.type = some (z, sz, by_)) (hsz : Nat.beq sz 0 = false) :
    Run1 P F ⟨dst, .fieldAddr s x f, ty, pos, after, g⟩ w (.pointer (some ⟨b, off + fd.offset, none⟩)) w := by
  have hsz' : sz ≠ 0 := fun e => by subst e; cases hsz
  (try unfold Run1); simp [execOp, hx, Instr.fieldAt, Instr.sureAddr, run_underlying ht, hf, fieldPlace, run_sizeOf_t hi, hsz', Addr.add_lit]
theorem r_idxS {x ix : Operand} {t e : TypeId} {b off n c : Nat} {k : IntKind} {i : Int} {z : Option Value} {sz by_ : Nat} (hx : ev F x = .slice (some ⟨b, off, none⟩) n c) (hix : ev F ix = .int k i)
    (ht : P.underlying t = some (.slice e)) (hi : tinfo P e = some (z, sz, by_)) (h0 : 0 ≤ i) (h1 : i < n) :
    Run1 P F ⟨dst, .indexAddr t x ix, ty, pos, after, g⟩ w (.pointer (some ⟨b, off + i.toNat * sz, none⟩)) w := by
  (try unfold Run1); simp [execOp, hx, hix, Instr.indexAt, asIntOf, run_underlying ht, run_sizeOf_t hi, h0, h1, Addr.add_lit]
theorem r_idxS1 {x ix : Operand} {t e : TypeId} {b off n c : Nat} {k : IntKind} {i : Int} {z : Option Value} {by_ : Nat} (hx : ev F x = .slice (some ⟨b, off, none⟩) n c) (hix : ev F ix = .int k i)
    (ht : P.underlying t = some (.slice e)) (hi : tinfo P e = some (z, 1, by_)) (h0 : 0 ≤ i) (h1 : i < n) :
    Run1 P F ⟨dst, .indexAddr t x ix, ty, pos, after, g⟩ w (.pointer (some ⟨b, off + i.toNat, none⟩)) w := by
  have := r_idxS (dst := dst) (ty := ty) (pos := pos) (after := after) (g := g) (w := w) hx hix ht hi h0 h1
  rwa [Nat.mul_one] at this
theorem r_idxA1 {x ix : Operand} {t e : TypeId} {b off n : Nat} {k : IntKind} {i : Int} {z : Option Value} {by_ : Nat} (hx : ev F x = .pointer (some ⟨b, off, none⟩)) (hix : ev F ix = .int k i)
    (ht : P.underlying t = some (.array n e)) (hi : tinfo P e = some (z, 1, by_)) (h0 : 0 ≤ i) (h1 : i < n) :
    Run1 P F ⟨dst, .indexAddr t x ix, ty, pos, after, g⟩ w (.pointer (some ⟨b, off + i.toNat, none⟩)) w := by
  (try unfold Run1); simp [execOp, hx, hix, Instr.indexAt, Instr.sureAddr, asIntOf, run_underlying ht, run_sizeOf_t hi, h0, h1, Addr.add_lit]
theorem r_idxA {x ix : Operand} {t e : TypeId} {b off n : Nat} {k : IntKind} {i : Int} {z : Option Value} {sz by_ : Nat} (hx : ev F x = .pointer (some ⟨b, off, none⟩)) (hix : ev F ix = .int k i)
    (ht : P.underlying t = some (.array n e)) (hi : tinfo P e = some (z, sz, by_)) (h0 : 0 ≤ i) (h1 : i < n) :
    Run1 P F ⟨dst, .indexAddr t x ix, ty, pos, after, g⟩ w (.pointer (some ⟨b, off + i.toNat * sz, none⟩)) w := by
  (try unfold Run1); simp [execOp, hx, hix, Instr.indexAt, Instr.sureAddr, asIntOf, run_underlying ht, run_sizeOf_t hi, h0, h1, Addr.add_lit]
/-- What 'x[l:h:m]' of a slice at 'a' is. -/
def subSl (a : Option Addr) (sz l h m : Nat) : Value := .slice (if m = l then a else a.map (·.add (l * sz))) (h - l) (m - l)
theorem run_bound {k : IntKind} {i : Int} {y : Nat} {code : BoundsCode} (h0 : 0 ≤ i) (h1 : i ≤ y) : (Instr.sliceBound (.int k i) y code).run P w = .ok i.toNat w := by
  simp [Instr.sliceBound, asIntOf, h0, h1]
theorem r_sliceS {x : Operand} {t e : TypeId} {a : Option Addr} {n c : Nat} {z : Option Value} {sz by_ : Nat} (hx : ev F x = .slice a n c)
    (ht : P.underlying t = some (.slice e)) (hi : tinfo P e = some (z, sz, by_)) :
    Run1 P F ⟨dst, .slice t x none none none, ty, pos, after, g⟩ w (subSl a sz 0 n c) w := by
  (try unfold Run1); simp [execOp, hx, Instr.sliceAt, Instr.slice, run_underlying ht, Instr.sliceBounds, run_sizeOf_t hi, subSl]
theorem r_sliceS_lo {x lo : Operand} {t e : TypeId} {a : Option Addr} {n c : Nat} {k : IntKind} {i : Int} {z : Option Value} {sz by_ : Nat} (hx : ev F x = .slice a n c) (hlo : ev F lo = .int k i)
    (ht : P.underlying t = some (.slice e)) (hi : tinfo P e = some (z, sz, by_)) (h0 : 0 ≤ i) (h1 : i ≤ n) :
    Run1 P F ⟨dst, .slice t x (some lo) none none, ty, pos, after, g⟩ w (subSl a sz i.toNat n c) w := by
  (try unfold Run1); simp [execOp, hx, hlo, Instr.sliceAt, Instr.slice, run_underlying ht, Instr.sliceBounds, run_sizeOf_t hi, run_bound h0 h1, subSl]
theorem r_sliceS_hi {x hi : Operand} {t e : TypeId} {a : Option Addr} {n c : Nat} {k : IntKind} {i : Int} {z : Option Value} {sz by_ : Nat} (hx : ev F x = .slice a n c) (hhi : ev F hi = .int k i)
    (ht : P.underlying t = some (.slice e)) (hi' : tinfo P e = some (z, sz, by_)) (h0 : 0 ≤ i) (h1 : i ≤ c) :
    Run1 P F ⟨dst, .slice t x none (some hi) none, ty, pos, after, g⟩ w (subSl a sz 0 i.toNat c) w := by
  (try unfold Run1); simp [execOp, hx, hhi, Instr.sliceAt, Instr.slice, run_underlying ht, Instr.sliceBounds, run_sizeOf_t hi', run_bound h0 h1, subSl]
theorem r_sliceS_lohi {x lo hi : Operand} {t e : TypeId} {a : Option Addr} {n c : Nat} {k k' : IntKind} {i j : Int} {z : Option Value} {sz by_ : Nat} (hx : ev F x = .slice a n c) (hlo : ev F lo = .int k i) (hhi : ev F hi = .int k' j)
    (ht : P.underlying t = some (.slice e)) (hi' : tinfo P e = some (z, sz, by_)) (h0 : 0 ≤ i) (h1 : i ≤ j) (h2 : j ≤ c) :
    Run1 P F ⟨dst, .slice t x (some lo) (some hi) none, ty, pos, after, g⟩ w (subSl a sz i.toNat j.toNat c) w := by
  have hj0 : 0 ≤ j := by omega
  have hij : i ≤ (j.toNat : Int) := by omega
  (try unfold Run1); simp [execOp, hx, hlo, hhi, Instr.sliceAt, Instr.slice, run_underlying ht, Instr.sliceBounds, run_sizeOf_t hi', run_bound hj0 h2, run_bound h0 hij, subSl]
theorem r_sliceS_himx {x hi mx : Operand} {t e : TypeId} {a : Option Addr} {n c : Nat} {k k' : IntKind} {i j : Int} {z : Option Value} {sz by_ : Nat} (hx : ev F x = .slice a n c) (hhi : ev F hi = .int k i) (hmx : ev F mx = .int k' j)
    (ht : P.underlying t = some (.slice e)) (hi' : tinfo P e = some (z, sz, by_)) (h0 : 0 ≤ i) (h1 : i ≤ j) (h2 : j ≤ c) :
    Run1 P F ⟨dst, .slice t x none (some hi) (some mx), ty, pos, after, g⟩ w (subSl a sz 0 i.toNat j.toNat) w := by
  have hj0 : 0 ≤ j := by omega
  have hij : i ≤ (j.toNat : Int) := by omega
  (try unfold Run1); simp [execOp, hx, hmx, hhi, Instr.sliceAt, Instr.slice, run_underlying ht, Instr.sliceBounds, run_sizeOf_t hi', run_bound hj0 h2, run_bound h0 hij, subSl]
/-- What 'x[l:h]' of an array is. -/
theorem r_sliceA {x : Operand} {t e : TypeId} {b off n : Nat} {z : Option Value} {sz by_ : Nat} (hx : ev F x = .pointer (some ⟨b, off, none⟩))
    (ht : P.underlying t = some (.array n e)) (hi : tinfo P e = some (z, sz, by_)) :
    Run1 P F ⟨dst, .slice t x none none none, ty, pos, after, g⟩ w (.slice (some ⟨b, off, none⟩) n n) w := by
  by_cases hn : n = 0
  · (try unfold Run1); simp [execOp, hx, Instr.sliceAt, Instr.sureAddr, run_underlying ht, Instr.sliceBounds, run_sizeOf_t hi, hn]
  · (try unfold Run1); simp [execOp, hx, Instr.sliceAt, Instr.sureAddr, run_underlying ht, Instr.sliceBounds, run_sizeOf_t hi, Addr.add_lit]
theorem r_sliceA_lo {x lo : Operand} {t e : TypeId} {b off n : Nat} {k : IntKind} {i : Int} {z : Option Value} {sz by_ : Nat} (hx : ev F x = .pointer (some ⟨b, off, none⟩)) (hlo : ev F lo = .int k i)
    (ht : P.underlying t = some (.array n e)) (hi : tinfo P e = some (z, sz, by_)) (h0 : 0 ≤ i) (h1 : i < n) :
    Run1 P F ⟨dst, .slice t x (some lo) none none, ty, pos, after, g⟩ w (.slice (some ⟨b, off + i.toNat * sz, none⟩) (n - i.toNat) (n - i.toNat)) w := by
  have hne : ¬ n = i.toNat := by omega
  have h1' : i ≤ (n : Int) := by omega
  (try unfold Run1); simp [execOp, hx, hlo, Instr.sliceAt, Instr.sureAddr, run_underlying ht, Instr.sliceBounds, run_sizeOf_t hi, run_bound h0 h1', hne, Addr.add_lit]
theorem r_sliceA_hi {x hi : Operand} {t e : TypeId} {b off n : Nat} {k : IntKind} {i : Int} {z : Option Value} {sz by_ : Nat} (hx : ev F x = .pointer (some ⟨b, off, none⟩)) (hhi : ev F hi = .int k i)
    (ht : P.underlying t = some (.array n e)) (hi' : tinfo P e = some (z, sz, by_)) (h0 : 0 ≤ i) (h1 : i ≤ n) :
    Run1 P F ⟨dst, .slice t x none (some hi) none, ty, pos, after, g⟩ w (.slice (some ⟨b, off, none⟩) i.toNat n) w := by
  have hb0 := run_bound (P := P) (w := w) (k := k) (code := .sliceAlen) h0 h1
  by_cases hn : n = 0
  · subst hn; (try unfold Run1); simp [execOp, hx, hhi, Instr.sliceAt, Instr.sureAddr, run_underlying ht, Instr.sliceBounds, run_sizeOf_t hi', hb0]
  · (try unfold Run1); simp [execOp, hx, hhi, Instr.sliceAt, Instr.sureAddr, run_underlying ht, Instr.sliceBounds, run_sizeOf_t hi', run_bound h0 h1, Addr.add_lit]
theorem r_toArr {x : Operand} {t e : TypeId} {a : Option Addr} {n len c : Nat} (hx : ev F x = .slice a len c) (ht : P.underlying t = some (.array n e)) (hl : n ≤ len) :
    Run1 P F ⟨dst, .sliceToArrayPointer t x, ty, pos, after, g⟩ w (.pointer a) w := by
  have hl' : ¬ len < n := by omega
  (try unfold Run1); simp [execOp, hx, Instr.arrayAt, run_underlying ht, hl']
theorem r_min {x y : Operand} {ts : Array TypeId} {k k' : IntKind} {a b : Int} (hx : ev F x = .int k a) (hy : ev F y = .int k' b) :
    Run1 P F ⟨dst, .call ⟨.builtin .min, #[x, y], ts⟩, ty, pos, after, g⟩ w (.int k (if b < a then b else a)) w := by
  (try unfold Run1); simp [execOp, resolve, invoke, builtin, hx, hy, run_min_int2]
theorem r_max {x y : Operand} {ts : Array TypeId} {k k' : IntKind} {a b : Int} (hx : ev F x = .int k a) (hy : ev F y = .int k' b) :
    Run1 P F ⟨dst, .call ⟨.builtin .max, #[x, y], ts⟩, ty, pos, after, g⟩ w (.int k (if b > a then b else a)) w := by
  (try unfold Run1); simp [execOp, resolve, invoke, builtin, hx, hy, run_max_int2]
/-- A slice against nil. -/
theorem r_isNilS {x : Operand} {t t' : TypeId} {e : TypeId} {a : Option Addr} {n c : Nat} (hx : ev F x = .slice a n c) (ht : P.underlying t = some (.slice e)) :
    Run1 P F ⟨dst, .binOp .eql t x (.const (.slice none 0 0)) t', ty, pos, after, g⟩ w (.bool a.isNone) w := by
  have h1 : (Op.equal t (.slice a n c) (.slice none 0 0)).run P w = .ok a.isNone w := by
    unfold Op.equal
    rw [show Op.maxDepth = 9999 + 1 from rfl, Op.equalIn]
    cases a <;> simp [run_underlying ht]
  have hy : ev F (.const (.slice none 0 0)) = .slice none 0 0 := rfl
  (try unfold Run1); simp [execOp, hx, hy, eqGuard, binOp, h1]
end

section
variable {f0 : Bool} {c0 : Ctx} {P : Program} {n : Nat} {ops : Array Oper} {F : Fr} {w : World} {K : Fr → World → Prop} {rest : List Oper} {dst : Option Tmp} {ty : TypeId} {pos : String} {after : Array Edge} {g : Option (Nat × Bool)}

/-! ### Writing -/
theorem o_store {x y : Operand} {t : TypeId} {b off : Nat} {l : List Value} {e : TypeId} {v : Value} {z : Option Value} {by_ : Nat} (hx : ev F x = .pointer (some ⟨b, off, none⟩)) (hy : ev F y = v) (hv : one v = true)
    (hi : tinfo P t = some (z, 1, by_)) (hb : Blk w b l e) (hoff : off < l.length) (hg : wantedF ops F ⟨dst, .store t x y, ty, pos, after, g⟩ = true)
    (h : ∀ w', Blk w' b (l.set off v) e → Keep (· ≠ b) w w' → w'.heap.size = w.heap.size → OpsW f0 c0 P n ops rest (updo n F dst undef) w' K) : OpsW f0 c0 P n ops (⟨dst, .store t x y, ty, pos, after, g⟩ :: rest) F w K := by
  have hst := run_storeCells_at (P := P) b off e [v] 0 l.toArray w hb (by simp; omega) (by simpa using one_oneCell hv)
  have hl : (l.toArray.toList.take (off + 0) ++ [v] ++ l.toArray.toList.drop (off + 0 + [v].length)) = l.set off v := by
    simp [List.set_eq_take_append_cons_drop, hoff]
  rw [hl] at hst
  refine op_runS (w' := w.setRow b (l.set off v).toArray) ?_ hg (h _ (setRow_heap w b _ _ e _ hb) (Keep.setRow w b _) (by simp [World.setRow]))
  (try unfold Run1); simp [execOp, hx, hy, Instr.storeAt, Instr.sureAddr, storeVar, run_sizeOf_t hi, cells_one hv, hst]
def splice (l : List Value) (off : Nat) (cs : List Value) : List Value := l.take off ++ cs ++ l.drop (off + cs.length)
theorem o_storeA {x y : Operand} {t : TypeId} {b off : Nat} {l cs : List Value} {e : TypeId} {z : Option Value} {by_ : Nat} (hx : ev F x = .pointer (some ⟨b, off, none⟩)) (hy : ev F y = .agg cs.toArray) (hv : cs.all one = true)
    (hi : tinfo P t = some (z, cs.length, by_)) (hb : Blk w b l e) (hoff : off + cs.length ≤ l.length) (hg : wantedF ops F ⟨dst, .store t x y, ty, pos, after, g⟩ = true)
    (h : ∀ w', Blk w' b (splice l off cs) e → Keep (· ≠ b) w w' → w'.heap.size = w.heap.size → OpsW f0 c0 P n ops rest (updo n F dst undef) w' K) : OpsW f0 c0 P n ops (⟨dst, .store t x y, ty, pos, after, g⟩ :: rest) F w K := by
  have hst := run_storeCells_at (P := P) b off e cs 0 l.toArray w hb (by simpa using hoff) (fun v hv' => one_oneCell (List.all_eq_true.1 hv v hv'))
  simp only [Nat.add_zero] at hst
  refine op_runS (w' := w.setRow b (splice l off cs).toArray) ?_ hg (h _ (setRow_heap w b _ _ e _ hb) (Keep.setRow w b _) (by simp [World.setRow]))
  (try unfold Run1); simp [execOp, hx, hy, Instr.storeAt, Instr.sureAddr, storeVar, run_sizeOf_t hi, Value.cells, splice, hst]
theorem o_alloc {e : TypeId} {z : Value} {zl : List Value} {sz by_ : Nat} (hi : tinfo P e = some (some z, sz, by_)) (hz : z.cells = zl.toArray) (hg : wantedF ops F ⟨dst, .alloc e, ty, pos, after, g⟩ = true)
    (h : ∀ w' b, b = w.heap.size → Blk w' b zl e → Keep All w w' → w'.heap.size = b + 1 → OpsW f0 c0 P n ops rest (updo n F dst (.pointer (some ⟨b, 0, none⟩))) w' K) : OpsW f0 c0 P n ops (⟨dst, .alloc e, ty, pos, after, g⟩ :: rest) F w K := by
  refine op_run0 (v := .pointer (some ⟨w.heap.size, 0, none⟩)) (w' := w.alloc (.cells z.cells e)) ?_ hg (h _ _ rfl (by unfold Blk; rw [← hz]; exact heap_alloc_new w _) (Keep.alloc w _) (size_alloc w _))
  (try unfold Run1); simp [execOp, Instr.alloc, run_zero_t hi, newVar, newRow]
theorem o_box {e : TypeId} {x : Operand} {v : Value} {cs : List Value} (hx : ev F x = v) (hv : v.cells = cs.toArray) (hg : wantedF ops F ⟨dst, .box e x, ty, pos, after, g⟩ = true)
    (h : ∀ w' b, b = w.heap.size → Blk w' b cs e → Keep All w w' → w'.heap.size = b + 1 → OpsW f0 c0 P n ops rest (updo n F dst (.pointer (some ⟨b, 0, none⟩))) w' K) : OpsW f0 c0 P n ops (⟨dst, .box e x, ty, pos, after, g⟩ :: rest) F w K := by
  refine op_run0 (v := .pointer (some ⟨w.heap.size, 0, none⟩)) (w' := w.alloc (.cells v.cells e)) ?_ hg (h _ _ rfl (by unfold Blk; rw [← hv]; exact heap_alloc_new w _) (Keep.alloc w _) (size_alloc w _))
  (try unfold Run1); simp [execOp, hx, Instr.box, newVar, newRow]
theorem o_bs0 {t e : TypeId} {z : Option Value} {sz by_ : Nat} (ht : P.underlying t = some (.slice e)) (hi : tinfo P e = some (z, sz, by_)) (hg : wantedF ops F ⟨dst, .buildSlice t 0 #[], ty, pos, after, g⟩ = true)
    (h : ∀ w' b, b = w.heap.size → Blk w' b [] e → Keep All w w' → w'.heap.size = b + 1 → OpsW f0 c0 P n ops rest (updo n F dst (.slice (some ⟨b, 0, none⟩) 0 0)) w' K) : OpsW f0 c0 P n ops (⟨dst, .buildSlice t 0 #[], ty, pos, after, g⟩ :: rest) F w K := by
  refine op_run0 (v := .slice (some ⟨w.heap.size, 0, none⟩) 0 0) (w' := w.alloc (.cells #[] e)) ?_ hg (h _ _ rfl (heap_alloc_new w _) (Keep.alloc w _) (size_alloc w _))
  (try unfold Run1); simp [execOp, Instr.buildSlice, run_underlying ht, run_sizeOf_t hi, Instr.fill, newRow, Array.range_zero']
theorem o_bs1 {t e : TypeId} {x : Operand} {v z : Value} {by_ : Nat} (hx : ev F x = v) (hv : one v = true) (ht : P.underlying t = some (.slice e)) (hi : tinfo P e = some (some z, 1, by_)) (hz : one z = true)
    (hg : wantedF ops F ⟨dst, .buildSlice t 1 #[(0, x)], ty, pos, after, g⟩ = true)
    (h : ∀ w' b, b = w.heap.size → Blk w' b [v] e → Keep All w w' → w'.heap.size = b + 1 → OpsW f0 c0 P n ops rest (updo n F dst (.slice (some ⟨b, 0, none⟩) 1 1)) w' K) : OpsW f0 c0 P n ops (⟨dst, .buildSlice t 1 #[(0, x)], ty, pos, after, g⟩ :: rest) F w K := by
  refine op_run0 (v := .slice (some ⟨w.heap.size, 0, none⟩) 1 1) (w' := w.alloc (.cells #[v] e)) ?_ hg (h _ _ rfl (heap_alloc_new w _) (Keep.alloc w _) (size_alloc w _))
  (try unfold Run1); simp [execOp, hx, Instr.buildSlice, run_underlying ht, run_sizeOf_t hi, run_zero_t hi, Instr.fill, newRow, cells_one hv, cells_one hz, Array.range_succ, Array.range_zero']
theorem o_bs2 {t e : TypeId} {x y : Operand} {v u z : Value} {by_ : Nat} (hx : ev F x = v) (hv : one v = true) (hy : ev F y = u) (hu : one u = true) (ht : P.underlying t = some (.slice e)) (hi : tinfo P e = some (some z, 1, by_)) (hz : one z = true)
    (hg : wantedF ops F ⟨dst, .buildSlice t 2 #[(0, x), (1, y)], ty, pos, after, g⟩ = true)
    (h : ∀ w' b, b = w.heap.size → Blk w' b [v, u] e → Keep All w w' → w'.heap.size = b + 1 → OpsW f0 c0 P n ops rest (updo n F dst (.slice (some ⟨b, 0, none⟩) 2 2)) w' K) : OpsW f0 c0 P n ops (⟨dst, .buildSlice t 2 #[(0, x), (1, y)], ty, pos, after, g⟩ :: rest) F w K := by
  refine op_run0 (v := .slice (some ⟨w.heap.size, 0, none⟩) 2 2) (w' := w.alloc (.cells #[v, u] e)) ?_ hg (h _ _ rfl (heap_alloc_new w _) (Keep.alloc w _) (size_alloc w _))
  (try unfold Run1); simp [execOp, hx, hy, Instr.buildSlice, run_underlying ht, run_sizeOf_t hi, run_zero_t hi, Instr.fill, newRow, cells_one hv, cells_one hu, cells_one hz, Array.range_succ, Array.range_zero']
theorem o_bs {t e : TypeId} {len : Nat} {z : Option Value} {sz by_ : Nat} {parts : List (Nat × Operand)} (cs : List Value) (ht : P.underlying t = some (.slice e)) (hi : tinfo P e = some (z, sz, by_))
    (hf : (Instr.buildSlice t len ((parts.map fun p => (p.1, ev F p.2)).toArray)).run P w = .ok (.slice (some ⟨w.heap.size, 0, none⟩) len len) (w.alloc (.cells cs.toArray e)))
    (hg : wantedF ops F ⟨dst, .buildSlice t len parts.toArray, ty, pos, after, g⟩ = true)
    (h : ∀ w' b, b = w.heap.size → Blk w' b cs e → Keep All w w' → w'.heap.size = b + 1 → OpsW f0 c0 P n ops rest (updo n F dst (.slice (some ⟨b, 0, none⟩) len len)) w' K) : OpsW f0 c0 P n ops (⟨dst, .buildSlice t len parts.toArray, ty, pos, after, g⟩ :: rest) F w K := by
  refine op_run0 (v := .slice (some ⟨w.heap.size, 0, none⟩) len len) (w' := w.alloc (.cells cs.toArray e)) ?_ hg (h _ _ rfl (heap_alloc_new w _) (Keep.alloc w _) (size_alloc w _))
  have : (parts.toArray.map fun (x : Nat × Operand) => (x.1, ev F x.2)) = (parts.map fun p => (p.1, ev F p.2)).toArray := by simp
  (try unfold Run1); simp only [execOp, this]
  simp [hf]
/-- append onto nil, or onto a slice of one's own. -/
theorem o_append {s x : Operand} {t e : TypeId} {z : Value} {sz by_ : Nat} {B : Nat} {v : Value} {m k c : Nat} {xs news : List Value} {ad : Addr}
    (hs : ev F s = v) (hx : ev F x = .slice (some ad) k c) (ht : P.underlying t = some (.slice e)) (hi : tinfo P e = some (some z, sz, by_)) (hzs : z.cells.size = sz) (hsz : 0 < sz)
    (hown : w.ownsRow B e sz v m xs) (hl : news.length = k * sz) (hnews : ∀ (j : Nat) (u : Value), news[j]? = some u → w.cell? (ad.add j) = some u) (h1 : news.all one = true)
    (h63 : m + k ≤ maxLen) (hby : (m + k) * by_ ≤ 140737488355328) (hB : B ≤ w.heap.size)
    (hg : wantedF ops F ⟨dst, .call ⟨.builtin .append, #[s, x], #[t, t]⟩, ty, pos, after, g⟩ = true)
    (h : ∀ v' w', w'.ownsRow B e sz v' (m + k) (xs ++ news) → Keep (fun b => some b ≠ v.ownBlock) w w' → (v' = .slice none 0 0 ↔ v = .slice none 0 0 ∧ k = 0) → OpsW f0 c0 P n ops rest (updo n F dst v') w' K) :
    OpsW f0 c0 P n ops (⟨dst, .call ⟨.builtin .append, #[s, x], #[t, t]⟩, ty, pos, after, g⟩ :: rest) F w K := by
  obtain ⟨i, hi1, hi2, hi3, hi4⟩ := tinfo_info hi
  obtain ⟨v', w', hr, ho, hgr, hn⟩ := run_append_own (P := P) w B t ty e i z sz by_ ht hi1 hi2 hi3 hi4 hzs hsz v m xs hown ad k c news hl hnews (fun u hu => one_oneCell (List.all_eq_true.1 h1 u hu)) h63 hby hB
  refine op_run0 (v := v') (w' := w') ?_ hg (h v' w' ho (Keep.grown hgr) hn)
  (try unfold Run1); simp [execOp, resolve, invoke, builtin, hs, hx, hr]
end

/-! ### Entering, leaving -/
def args0 : List Value → Nat → Value
  | [], _ => undef
  | v :: _, 0 => v
  | _ :: vs, t + 1 => args0 vs t
def retP (P : Program) (fn : Func) (S : Value → World → Prop) : Exit → Fr → World → Prop := fun e F w =>
  match e with
  | .normal => ∃ v, (∀ tmps : Array Value, (∀ t, tmps.getD t undef = F t) → (results fn tmps).run P w = .ok v w) ∧ S v w
  | .ret => ∃ v, (∀ tmps : Array Value, (∀ t, tmps.getD t undef = F t) → (results fn tmps).run P w = .ok v w) ∧ S v w
  | _ => False
theorem args0_eq : ∀ (l : List Value) (t : Nat), l.getD t undef = args0 l t
  | [], t => by simp [args0]
  | v :: vs, 0 => by simp [args0]
  | v :: vs, t + 1 => by simpa [args0] using args0_eq vs t
section
variable {f0 : Bool} {c0 : Ctx} {P : Program} {f : FuncId} {fn : Func} {c : Code} {n : Nat} {w : World} {S : Value → World → Prop}
theorem enter {args : List Value} (hf : P.funcs[f]? = some fn) (hb : fn.body = some c) (hn : fn.ntmps = n) (hle : args.length ≤ n) (h : W Ctx.fn P n c (args0 args) w (retP P fn S)) : Ret P f args.toArray w S := by
  refine (callsIn_wide (n := 0)).1 (callsIn_of_wp hf hb trivial ?_)
  have hsim : Sim Ctx.fn n { tmps := args.toArray ++ Array.replicate (fn.ntmps - args.toArray.size) undef, defers := [] } (args0 args) := by
    refine ⟨rfl, by simp [hn]; omega, fun t => ?_⟩
    rw [← args0_eq]
    simp only [Array.getD_eq_getD_getElem?, List.getD_eq_getElem?_getD, Array.getElem?_append, List.getElem?_toArray, List.size_toArray]
    by_cases ht : t < args.length
    · simp [ht]
    · rw [if_neg ht, List.getElem?_eq_none (by omega), Array.getElem?_replicate]
      split <;> rfl
  refine wpIn_mono (h _ hsim) ?_
  intro e a' w' hq0
  obtain ⟨F', hs, hq⟩ : ∃ F', Sim Ctx.fn n a' F' ∧ retP P fn S e F' w' := hq0.resolve_right (fun h => h.2)
  cases e with
  | normal => obtain ⟨v, hr, hS⟩ := hq; exact ⟨hs.defers, v, hr _ hs.val, v, rfl, hS⟩
  | ret => obtain ⟨v, hr, hS⟩ := hq; exact ⟨hs.defers, v, hr _ hs.val, v, rfl, hS⟩
  | exit id => exact hq.elim
  | goto l => exact hq.elim
  | panic c => exact hq.elim
  | outgrown => exact hq.elim
theorem ret1 {F : Fr} {t : Tmp} (v : Value) (h : fn.results = #[.tmp t]) (hv : F t = v) (hS : S v w) : retP P fn S .ret F w :=
  ⟨v, fun tmps ht => by rw [results_tmp h, ht, hv], hS⟩
theorem ret0 {F : Fr} (h : fn.results = #[]) (hS : S (.tuple #[]) w) : retP P fn S .normal F w := ⟨_, fun tmps _ => results_none h tmps P w, hS⟩
theorem ret0' {F : Fr} (h : fn.results = #[]) (hS : S (.tuple #[]) w) : retP P fn S .ret F w := ⟨_, fun tmps _ => results_none h tmps P w, hS⟩
theorem ret2 {F : Fr} {t u : Tmp} (v1 v2 : Value) (h : fn.results = #[.tmp t, .tmp u]) (hv1 : F t = v1) (hv2 : F u = v2) (hS : S (.tuple #[v1, v2]) w) : retP P fn S .ret F w :=
  ⟨_, fun tmps ht => by rw [results_tmp2 h, ht, ht, hv1, hv2], hS⟩
theorem ret3 {F : Fr} {t u s : Tmp} (v1 v2 v3 : Value) (h : fn.results = #[.tmp t, .tmp u, .tmp s]) (hv1 : F t = v1) (hv2 : F u = v2) (hv3 : F s = v3) (hS : S (.tuple #[v1, v2, v3]) w) : retP P fn S .ret F w :=
  ⟨_, fun tmps ht => by simp only [Array.getD_eq_getD_getElem?] at ht; simp [results, h, ht, hv1, hv2, hv3], hS⟩
theorem retA {F : Fr} {t : Tmp} {ty : TypeId} {d : TypeDesc} {a : Addr} {z : Option Value} {by_ : Nat} (cs : List Value) (h : fn.results = #[.cell t ty]) (ha : F t = .pointer (some a)) (ht : P.underlying ty = some d) (hd : aggD d = true)
    (hi : tinfo P ty = some (z, cs.length, by_)) (hc : ∀ (j : Nat) (v : Value), cs[j]? = some v → w.cell? (a.add j) = some v) (hS : S (.agg cs.toArray) w) : retP P fn S .ret F w :=
  ⟨_, fun tmps htm => by
    have : tmps.getD t undef = .pointer (some a) := by rw [htm, ha]
    simp only [Array.getD_eq_getD_getElem?] at this
    simp [results, h, this, asAddr, loadVar, run_isAgg ht, hd, run_sizeOf_t hi, run_loadCells_list w a cs hc], hS⟩
theorem retTA {F : Fr} {t u : Tmp} {ty : TypeId} {d : TypeDesc} {a : Addr} {z : Option Value} {by_ : Nat} (v1 : Value) (cs : List Value) (h : fn.results = #[.tmp t, .cell u ty]) (hv1 : F t = v1) (ha : F u = .pointer (some a)) (ht : P.underlying ty = some d) (hd : aggD d = true)
    (hi : tinfo P ty = some (z, cs.length, by_)) (hc : ∀ (j : Nat) (v : Value), cs[j]? = some v → w.cell? (a.add j) = some v) (hS : S (.tuple #[v1, .agg cs.toArray]) w) : retP P fn S .ret F w :=
  ⟨_, fun tmps htm => by
    have h1 : tmps.getD u undef = .pointer (some a) := by rw [htm, ha]
    have h2 : tmps.getD t undef = v1 := by rw [htm, hv1]
    simp only [Array.getD_eq_getD_getElem?] at h1 h2
    simp [results, h, h1, h2, asAddr, loadVar, run_isAgg ht, hd, run_sizeOf_t hi, run_loadCells_list w a cs hc], hS⟩
end
end Go.Proofs.Ytkmciohghhffnaa.B
