/-
  Structs and arrays put together; copy.
-/
import Derived.Test.YtkmciohghhffnaaFlat
namespace Go.Proofs.Ytkmciohghhffnaa.B
open Go
set_option linter.unusedVariables false
theorem g_und {F : Fr} {ops : Array Oper} {o : Oper} {j t : Nat} {want : Bool} (hg : o.guard = some (j, want)) (hd : (ops[j]?).bind (·.dst) = some t) (hv : F t = undef) : wantedF ops F o = false := by
  unfold wantedF; rw [hg]; simp only [hd, hv]; rfl
theorem splice_len {l cs : List Value} {off : Nat} (h : off + cs.length ≤ l.length) : (splice l off cs).length = l.length := by
  unfold splice; simp; omega
theorem foldl_splice : ∀ (vs : List Value) (k : Nat) (l : List Value) (off : Nat), off + k + vs.length ≤ l.length →
    ((vs.zipIdx k).foldl (fun (cs : Array Value) (x : Value × Nat) => cs.setIfInBounds (off + x.2) x.1) l.toArray) = (splice l (off + k) vs).toArray := by
  intro vs
  induction vs with
  | nil => intro k l off h; simp [splice]
  | cons v vs ih =>
    intro k l off h
    simp only [List.length_cons] at h
    simp only [List.zipIdx_cons, List.foldl_cons, List.setIfInBounds_toArray]
    rw [ih (k + 1) _ off (by simp; omega)]
    congr 1
    unfold splice
    have h1 : off + k < l.length := by omega
    have e1 : (l.set (off + k) v).take (off + (k + 1)) = l.take (off + k) ++ [v] := by
      rw [← Nat.add_assoc, List.take_succ_eq_append_getElem (by simpa using h1), List.take_set_of_le (Nat.le_refl _)]; simp
    have e2 : (l.set (off + k) v).drop (off + (k + 1) + vs.length) = l.drop (off + k + (vs.length + 1)) := by
      rw [List.drop_set_of_lt (by omega)]; congr 1; omega
    rw [e1, e2]; simp
def fillV (place : Nat → Option (Nat × Nat)) : List Value → List (Nat × Value) → Option (List Value)
  | l, [] => some l
  | l, (i, v) :: rest =>
    match place i with
    | none => none
    | some (off, size) => if v.cells.size = size ∧ off + size ≤ l.length then fillV place (splice l off v.cells.toList) rest else none
theorem fill_eq {place : Nat → Option (Nat × Nat)} : ∀ (parts : List (Nat × Value)) (l cs : List Value), fillV place l parts = some cs → Instr.fill place l.toArray parts = some cs.toArray := by
  intro parts
  induction parts with
  | nil => intro l cs h; simp only [fillV, Option.some.injEq] at h; subst h; rfl
  | cons p parts ih =>
    intro l cs h
    obtain ⟨i, v⟩ := p
    unfold fillV at h
    unfold Instr.fill
    cases hp : place i with
    | none => rw [hp] at h; cases h
    | some x =>
      obtain ⟨off, size⟩ := x
      rw [hp] at h
      simp only at h ⊢
      split at h
      · rename_i hc
        obtain ⟨h1, h2⟩ := hc
        rw [if_neg (by simp [h1]; omega)]
        refine Eq.trans ?_ (ih _ _ h)
        congr 1
        have := foldl_splice v.cells.toList 0 l off (by simp [h1]; omega)
        simp only [Nat.add_zero] at this
        rw [← this, ← Array.foldl_toList]
        simp
      · cases h
theorem run_places {P : Program} : ∀ (fs : List Field), (fs.all fun f => (tinfo P f.type).isSome) = true → ∀ w, (fs.mapM (m := Sem) fun f => do let s ← sizeOf f.type; pure (f.offset, s)).run P w = .ok (fs.map fun f => (f.offset, P.cellsOf f.type)) w := by
  intro fs
  induction fs with
  | nil => intro _ w; simp
  | cons f fs ih =>
    intro h w
    simp only [List.all_cons, Bool.and_eq_true] at h
    obtain ⟨z, b, hz⟩ := tinfo_cells h.1
    simp only [List.mapM_cons, Sem.run_bind, run_sizeOf_t hz, Result.andThen_ok, Sem.run_pure, ih h.2, List.map_cons]
section
variable {f0 : Bool} {c0 : Ctx} {P : Program} {F : Fr} {w : World} {dst : Option Tmp} {ty : TypeId} {pos : String} {after : Array Edge} {g : Option (Nat × Bool)}
theorem r_build {t : TypeId} {fs : Array Field} {z : Value} {sz by_ : Nat} {parts : List (Nat × Operand)} (cs : List Value) (zl : List Value) (vals : List (Nat × Value)) (ht : P.underlying t = some (.struct fs)) (hz : tinfo P t = some (some z, sz, by_)) (hzl : z.cells = zl.toArray)
    (hall : (fs.toList.all fun f => (tinfo P f.type).isSome) = true) (hv : (parts.map fun p => (p.1, ev F p.2)) = vals) (hf : fillV (fun i => (fs.toList.map fun f => (f.offset, P.cellsOf f.type))[i]?) zl vals = some cs) :
    Run1 P F ⟨dst, .build t parts.toArray, ty, pos, after, g⟩ w (.agg cs.toArray) w := by
  have h1 := fill_eq _ _ _ hf
  have h2 := run_places (P := P) fs.toList hall w
  have e : (parts.toArray.map fun (x : Nat × Operand) => (x.1, ev F x.2)).toList = vals := by simp [← hv]
  unfold Run1
  have h3 : (fs.mapM (m := Sem) fun f => do let s ← sizeOf f.type; pure (f.offset, s)).run P w = .ok (fs.toList.map fun f => (f.offset, P.cellsOf f.type)).toArray w := by
    rw [← Array.toArray_toList (xs := fs), List.mapM_toArray]
    simp only [Sem.run_map, h2, Result.andThen_ok]
  simp only [execOp, Instr.build, Sem.run_bind, run_zero_t hz, Result.andThen_ok, run_underlying ht, h3, e, hzl]
  have h4 : (fun (x : Nat) => (fs.toList.map fun f => (f.offset, P.cellsOf f.type)).toArray[x]?) = (fun (i : Nat) => (fs.toList.map fun f => (f.offset, P.cellsOf f.type))[i]?) := by funext i; simp
  rw [h4, h1]
  simp
theorem r_buildA {t e : TypeId} {n : Nat} {z : Value} {sz by_ sz' by' : Nat} {ze : Option Value} {parts : List (Nat × Operand)} (cs : List Value) (zl : List Value) (vals : List (Nat × Value)) (ht : P.underlying t = some (.array n e)) (hz : tinfo P t = some (some z, sz, by_)) (hzl : z.cells = zl.toArray)
    (he : tinfo P e = some (ze, sz', by')) (hv : (parts.map fun p => (p.1, ev F p.2)) = vals) (hf : fillV (fun i => some (i * sz', sz')) zl vals = some cs) :
    Run1 P F ⟨dst, .build t parts.toArray, ty, pos, after, g⟩ w (.agg cs.toArray) w := by
  have h1 := fill_eq _ _ _ hf
  have e : (parts.toArray.map fun (x : Nat × Operand) => (x.1, ev F x.2)).toList = vals := by simp [← hv]
  unfold Run1
  simp only [execOp, Instr.build, Sem.run_bind, run_zero_t hz, Result.andThen_ok, run_underlying ht, run_sizeOf_t he, e, hzl, h1]
  simp
end
theorem Blk.sl {w : World} {b off n : Nat} {l cs : List Value} {e : TypeId} (h : Blk w b l e) (hl : cs.length = n) (hn : n ≤ maxLen) (hcs : ∀ j, j < cs.length → l[off + j]? = cs[j]?) : Sl w (.slice (some ⟨b, off, none⟩) n n) n 1 cs :=
  ⟨_, n, rfl, Nat.le_refl _, hn, by rw [hl, Nat.mul_one], (fun e => by cases e), fun x hx i u hu => by
    injection hx with hx; subst hx
    exact ⟨rfl, h.cell (by rw [hcs i (List.getElem?_eq_some_iff.1 hu).1]; exact hu)⟩⟩
theorem splice_all {l cs : List Value} (h : l.length = cs.length) : splice l 0 cs = cs := by
  unfold splice
  rw [List.drop_eq_nil_of_le (by omega)]; simp
section
variable {f0 : Bool} {c0 : Ctx} {P : Program} {F : Fr} {w : World} {dst : Option Tmp} {ty : TypeId} {pos : String} {after : Array Edge} {g : Option (Nat × Bool)}
/-- A pointer against nil. -/
theorem r_isNilP {x : Operand} {t t' : TypeId} {e : TypeId} {a : Option Addr} (hx : ev F x = .pointer a) (ht : P.underlying t = some (.pointer e)) :
    Run1 P F ⟨dst, .binOp .eql t x (.const (.pointer none)) t', ty, pos, after, g⟩ w (.bool a.isNone) w := by
  have h1 : (Op.equal t (.pointer a) (.pointer none)).run P w = .ok a.isNone w := by
    unfold Op.equal
    rw [show Op.maxDepth = 9999 + 1 from rfl, Op.equalIn]
    cases a <;> simp [run_underlying ht]
  have hy : ev F (.const (.pointer none)) = .pointer none := rfl
  (try unfold Run1); simp [execOp, hx, hy, eqGuard, binOp, h1]
end
section
variable {f0 : Bool} {c0 : Ctx} {P : Program} {n : Nat} {ops : Array Oper} {F : Fr} {w : World} {K : Fr → World → Prop} {rest : List Oper} {dst : Option Tmp} {ty : TypeId} {pos : String} {after : Array Edge} {g : Option (Nat × Bool)}
/-- copy(d, s) of one-cell elements into a block that is known. -/
theorem o_copy {d s : Operand} {t u e eb : TypeId} {z : Option Value} {by_ : Nat} {b off m c k : Nat} {l cs : List Value} {vs : Value}
    (hd : ev F d = .slice (some ⟨b, off, none⟩) m c) (hs : ev F s = vs) (hsl : Sl w vs k 1 cs) (ht : P.underlying t = some (.slice e)) (hi : tinfo P e = some (z, 1, by_))
    (hb : Blk w b l eb) (hoff : off + m ≤ l.length) (h1 : cs.all one = true) (hg : wantedF ops F ⟨dst, .call ⟨.builtin .copy, #[d, s], #[t, u]⟩, ty, pos, after, g⟩ = true)
    (h : ∀ w', Blk w' b (splice l off (cs.take (min k m))) eb → Keep (· ≠ b) w w' → w'.heap.size = w.heap.size → OpsW f0 c0 P n ops rest (updo n F dst (.int .i64 (min k m : Nat))) w' K) :
    OpsW f0 c0 P n ops (⟨dst, .call ⟨.builtin .copy, #[d, s], #[t, u]⟩, ty, pos, after, g⟩ :: rest) F w K := by
  obtain ⟨a, cap, rfl, hkc, _, hl, hnone, hcell⟩ := hsl
  rw [Nat.mul_one] at hl
  have hlen : (cs.take (min k m)).length = min k m := by rw [List.length_take]; omega
  have hst := run_storeCells_at (P := P) b off eb (cs.take (min k m)) 0 l.toArray w hb (by simp [hlen]; omega) (fun v hv => one_oneCell (List.all_eq_true.1 h1 v (List.mem_of_mem_take hv)))
  simp only [Nat.add_zero] at hst
  have hfc : (Builtin.firstCells 1 (min k m) (.slice a k cap)).run P w = .ok (cs.take (min k m)).toArray w := by
    cases a with
    | none =>
      have := hnone rfl
      obtain rfl : k = 0 := by omega
      have : cs = [] := List.eq_nil_of_length_eq_zero hl
      subst this
      simp [Builtin.firstCells]
    | some x =>
      obtain ⟨xb, xo, sp⟩ := x
      simp only [Builtin.firstCells]
      have h2 : ∀ (j : Nat) (v : Value), (cs.take (min k m))[j]? = some v → w.cell? ((⟨xb, xo, sp⟩ : Addr).add j) = some v := by
        intro j v hv
        rw [List.getElem?_take] at hv
        split at hv
        · obtain ⟨h3, h4⟩ := hcell _ rfl j v hv
          simp only at h3; subst h3
          rw [Addr.add_lit]; exact h4
        · cases hv
      have h5 := run_loadCells_list (P := P) w ⟨xb, xo, sp⟩ (cs.take (min k m)) h2
      rw [hlen] at h5
      rw [Nat.mul_one]; exact h5
  refine op_run0 (v := .int .i64 (min k m : Nat)) (w' := w.setRow b (splice l off (cs.take (min k m))).toArray) ?_ hg (h _ (setRow_heap w b _ _ eb _ hb) (Keep.setRow w b _) (by simp [World.setRow]))
  unfold Run1
  have e : Nat.min k m = min k m := rfl
  simp only [execOp, resolve, invoke, builtin, List.map_toArray, List.map_cons, List.map_nil, hd, hs, Sem.run_bind, Sem.run_pure, Result.andThen_ok, Builtin.copy_, List.getElem?_toArray, List.getElem?_cons_zero, List.getElem?_cons_succ, run_underlying ht, Builtin.lenOf, run_sizeOf_t hi, e, hfc, goInt]
  have hst' : (storeCells ⟨b, off, none⟩ (cs.take (min k m))).run P w = .ok () (w.setRow b (splice l off (cs.take (min k m))).toArray) := by
    simpa [splice] using hst
  rw [hst']
  rfl
theorem made_one {z : Value} (hz : one z = true) (c : Nat) : madeCells z.cells (c * 1) = (List.replicate c z).toArray := by
  rw [cells_one hz, Nat.mul_one]
  apply Array.ext
  · simp [size_madeCells]
  · intro i h1 h2
    simp [madeCells, Nat.mod_one]
/-- make of one-cell elements. -/
theorem o_make1 {x y : Operand} {t e : TypeId} {z : Value} {by_ : Nat} {kl kc : IntKind} {l c : Nat} (hx : ev F x = .int kl l) (hy : ev F y = .int kc c) (ht : P.underlying t = some (.slice e)) (hi : tinfo P e = some (some z, 1, by_)) (hz : one z = true)
    (hlc : l ≤ c) (hby : by_ * c ≤ 281474976710656) (h63 : c ≤ 9223372036854775807) (hg : wantedF ops F ⟨dst, .makeSlice t x y, ty, pos, after, g⟩ = true)
    (h : ∀ w' b, b = w.heap.size → Blk w' b (List.replicate c z) e → Keep All w w' → w'.heap.size = b + 1 → OpsW f0 c0 P n ops rest (updo n F dst (.slice (some ⟨b, 0, none⟩) l c)) w' K) : OpsW f0 c0 P n ops (⟨dst, .makeSlice t x y, ty, pos, after, g⟩ :: rest) F w K := by
  obtain ⟨i, hi1, hi2, hi3, hi4⟩ := tinfo_info hi
  have hb' : (i.bytes : Int) * (c : Int) ≤ 281474976710656 := by
    have h : ((i.bytes * c : Nat) : Int) ≤ 281474976710656 := by rw [hi4]; omega
    rwa [Int.natCast_mul] at h
  have hr := run_make (P := P) w t e i z ht hi1 hi2 kl kc l c (by omega) (by omega) hb' (by omega)
  simp only [Int.toNat_natCast] at hr
  rw [hi3, made_one hz] at hr
  refine op_run0 (v := .slice (some ⟨w.heap.size, 0, none⟩) l c) (w' := w.alloc (.cells (List.replicate c z).toArray e)) ?_ hg (h _ _ rfl (heap_alloc_new w _) (Keep.alloc w _) (size_alloc w _))
  unfold Run1
  simp only [execOp, hx, hy, Sem.run_bind, hr, Result.andThen_ok]
  rfl
end
theorem inc64' (k : Nat) (h : k < 9223372036854775807) : IntKind.i64.wrap ((k : Int) + 1) = ((k + 1 : Nat) : Int) := by
  rw [wrap_i64 (by omega) (by omega)]; omega
theorem Keep.old {A : Nat → Prop} {w w1 w2 : World} (h : Keep A w w1) (h2 : Keep (fun k => ¬ (w.heap.size ≤ k)) w1 w2) : Keep A w w2 := by
  refine ⟨h2.os.trans h.os, h2.tape.trans h.tape, h2.output.trans h.output, Nat.le_trans h.size h2.size, fun k hk hA => ?_⟩
  rw [h2.blk k (Nat.lt_of_lt_of_le hk h.size) (by omega)]
  exact h.blk k hk hA
theorem Keep.outA {A : Nat → Prop} {w w1 w2 : World} {B : Nat → Prop} (h : Keep A w w1) (h2 : Keep (fun k => ¬ B k) w1 w2) (hB : ∀ k, B k → w.heap.size ≤ k) : Keep A w w2 :=
  h.old (h2.mono fun k _ hk hb => hk (hB k hb))
theorem Keep.outAt {w w1 w2 w3 : World} {A B : Nat → Prop} (h : Keep A w w2) (h2 : Keep (fun k => ¬ (w1.heap.size ≤ k)) w2 w3) (h1 : Keep B w w1) : Keep A w w3 :=
  h.outA h2 fun k hk => Nat.le_trans h1.size hk
theorem neq_self {a b : Bool} (h : a = b) : (a != b) = false := by subst h; simp
theorem fill_two {pl : List (Nat × Nat)} {zl cs : List Value} {v : Value} {m : Nat} (hp : pl = [(0, 1), (1, m)]) (hz : zl.length = m + 1) (h1 : one v = true) (hc : cs.length = m) :
    fillV (fun i => pl[i]?) zl [(0, v), (1, .agg cs.toArray)] = some (v :: cs) := by
  subst hp
  match zl, hz with
  | z :: zl, hz =>
    have hz : zl.length = m := by simpa using hz
    have hv := cells_one h1
    have hd : zl.drop m = [] := List.drop_eq_nil_of_le (by omega)
    have ha : (Value.agg cs.toArray).cells = cs.toArray := rfl
    simp only [fillV, List.getElem?_cons_zero, List.getElem?_cons_succ, hv, ha, splice]
    simp [hc, hz, hd, Nat.add_comm]
theorem fill_snd {pl : List (Nat × Nat)} {z : Value} {zl cs : List Value} {m : Nat} (hp : pl = [(0, 1), (1, m)]) (hz : zl.length = m) (hc : cs.length = m) :
    fillV (fun i => pl[i]?) (z :: zl) [(1, .agg cs.toArray)] = some (z :: cs) := by
  subst hp
  have hd : zl.drop m = [] := List.drop_eq_nil_of_le (by omega)
  have ha : (Value.agg cs.toArray).cells = cs.toArray := rfl
  simp only [fillV, List.getElem?_cons_zero, List.getElem?_cons_succ, ha, splice]
  simp [hc, hz, hd, Nat.add_comm]
end Go.Proofs.Ytkmciohghhffnaa.B
