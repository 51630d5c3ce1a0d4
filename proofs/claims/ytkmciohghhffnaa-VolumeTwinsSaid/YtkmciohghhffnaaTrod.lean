/-
  What a reading of an argument tells of cells: slices, structs and arrays, a level at a time.
-/
import Derived.Test.YtkmciohghhffnaaMBase
import Derived.ChangeArms
import Derived.OpenShut
namespace Go.Proofs.Ytkmciohghhffnaa.B
open Go
set_option linter.unusedVariables false
theorem Sl.old {w w' : World} {A : Nat → Prop} {v : Value} {n sz : Nat} {cs : List Value} (h : Sl w v n sz cs) (hk : Keep A w w') (hA : ∀ k, k < w.heap.size → A k) : Sl w' v n sz cs := by
  obtain ⟨a, c, rfl, h1, h2, h3, h4, h5⟩ := h
  exact ⟨a, c, rfl, h1, h2, h3, h4, fun x hx i u hu => ⟨(h5 x hx i u hu).1, hk.cell (h5 x hx i u hu).2 (hA _ (World.block_lt_of_cell? w _ (h5 x hx i u hu).2))⟩⟩

theorem one_inj {a b : Value} (h : [a] = [b]) : a = b := (List.cons.inj h).1
/-- These cells read as a datum of this type. -/
def Tr (P : Program) (w : World) (t : TypeId) (cs : List Value) : Prop := ∃ (H : Type) (enc : TypeId × Value → H) (fuel : Nat) (x : DataW H × List MemPlace), DataW.trod enc P w 0 (fun _ => true) true fuel t cs = some x
theorem Tr.of {H : Type} {enc : TypeId × Value → H} {P : Program} {w : World} {t : TypeId} {v : Value} {d : DataW H} {ps : List MemPlace} (h : DataW.Trod enc P w 0 (fun _ => true) true t v d ps) : Tr P w t v.cells.toList := by
  obtain ⟨f, hf⟩ := h; exact ⟨H, enc, f, _, hf⟩
section
variable {P : Program} {w : World} {t : TypeId} {cs : List Value}
theorem Tr.int {k : IntKind} (h : Tr P w t cs) (ht : P.underlying t = some (.int k)) : ∃ n, cs = [.int k n] ∧ (Lit.int k n).wf = true := by
  obtain ⟨H, enc, f, x, hf⟩ := h
  obtain ⟨n, h1, _, h2⟩ := DataW.trod_int ht hf
  exact ⟨n, h1, h2⟩
theorem Tr.bool (h : Tr P w t cs) (ht : P.underlying t = some .bool) : ∃ b, cs = [.bool b] := by
  obtain ⟨H, enc, f, x, hf⟩ := h
  cases f with
  | zero => simp [DataW.trod] at hf
  | succ n =>
    unfold DataW.trod at hf
    rw [ht] at hf
    split at hf <;> simp_all
theorem Tr.str (h : Tr P w t cs) (ht : P.underlying t = some .string) : ∃ s : ByteArray, cs = [.string s] ∧ s.size ≤ maxLen := by
  obtain ⟨H, enc, f, x, hf⟩ := h
  obtain ⟨s, h1, _, h2⟩ := DataW.trod_string ht hf
  exact ⟨s, h1, h2⟩
theorem cells?_get {a : Addr} {n : Nat} {cs : List Value} (h : w.cells? 0 a n = some cs) : cs.length = n ∧ ∀ (j : Nat) (u : Value), cs[j]? = some u → w.cell? (a.add j) = some u := by
  unfold World.cells? at h
  rw [if_pos (Nat.zero_le _)] at h
  have hl : cs.length = n := by simpa using mapM_some_length h
  refine ⟨hl, fun j u hu => ?_⟩
  have hj : j < n := by have := (List.getElem?_eq_some_iff.1 hu).1; omega
  have := mapM_some_get h j j (by simp [hj])
  rw [this, hu]
theorem Tr.slice {e : TypeId} (h : Tr P w t cs) (ht : P.underlying t = some (.slice e)) :
    ∃ a len cap, cs = [.slice a len cap] ∧ len ≤ cap ∧ cap ≤ maxLen ∧ (a = none → cap = 0) ∧
      ∀ x, a = some x → ∀ i, i < len → ∃ cs' : List Value, cs'.length = P.cellsOf e ∧ (∀ (j : Nat) (u : Value), cs'[j]? = some u → w.cell? ((x.add (i * P.cellsOf e)).add j) = some u) ∧ Tr P w e cs' := by
  obtain ⟨H, enc, f, x, hf⟩ := h
  rcases DataW.trod_slice ht hf with ⟨h1, _⟩ | ⟨a, len, cap, elems, rest, n, _, rfl, _, _, h1, h2, h3, h4, _⟩
  · exact ⟨none, 0, 0, h1, Nat.le_refl _, Nat.zero_le _, fun _ => rfl, fun x hx => by cases hx⟩
  · refine ⟨some a, len, cap, rfl, h1, h2, (fun e => by cases e), fun x hx i hi => ?_⟩
    injection hx with hx; subst hx
    have h5 := h4 i hi
    have h6 : elems[i]? = some elems[i] := by simp [h3, hi]
    rw [h6, Option.bind_eq_some_iff] at h5
    obtain ⟨cs', h7, h8⟩ := h5
    obtain ⟨h9, h10⟩ := cells?_get h7
    exact ⟨cs', h9, h10, H, enc, n, _, h8⟩
theorem Tr.struct {fs : Array Field} (h : Tr P w t cs) (ht : P.underlying t = some (.struct fs)) :
    cs.length = P.cellsOf t ∧ ∀ (i : Nat) (f : Field), fs[i]? = some f → Tr P w f.type ((cs.drop f.offset).take (P.cellsOf f.type)) := by
  obtain ⟨H, enc, f, x, hf⟩ := h
  obtain ⟨xs, n, _, _, h1, h2, h3⟩ := DataW.trod_struct ht hf
  refine ⟨h1, fun i f hi => ?_⟩
  have h4 := h3 i f hi
  have hi' : i < fs.size := by
    rcases Nat.lt_or_ge i fs.size with h | h
    · exact h
    · rw [Array.getElem?_eq_none h] at hi; cases hi
  have h6 : xs[i]? = some xs[i] := by simp [h2, hi']
  rw [h6] at h4
  exact ⟨H, enc, n, _, h4⟩
theorem Tr.array {n : Nat} {e : TypeId} (h : Tr P w t cs) (ht : P.underlying t = some (.array n e)) :
    cs.length = P.cellsOf t ∧ ∀ i, i < n → Tr P w e ((cs.drop (i * P.cellsOf e)).take (P.cellsOf e)) := by
  obtain ⟨H, enc, f, x, hf⟩ := h
  obtain ⟨xs, m, _, _, h1, h2, h3⟩ := DataW.trod_array ht hf
  refine ⟨h1, fun i hi => ?_⟩
  have h4 := h3 i hi
  have h6 : xs[i]? = some xs[i] := by simp [h2, hi]
  rw [h6] at h4
  exact ⟨H, enc, m, _, h4⟩
end
/-- A list of what is there for each index. -/
theorem list_of {α : Type} {R : Nat → α → Prop} : ∀ (n : Nat), (∀ i, i < n → ∃ x, R i x) → ∃ xs : List α, xs.length = n ∧ ∀ (i : Nat) (x : α), xs[i]? = some x → R i x
  | 0, _ => ⟨[], rfl, fun i x h => by simp at h⟩
  | n + 1, h => by
    obtain ⟨xs, hl, hx⟩ := list_of n (fun i hi => h i (by omega))
    obtain ⟨y, hy⟩ := h n (by omega)
    refine ⟨xs ++ [y], by simp [hl], fun i x hi => ?_⟩
    rcases Nat.lt_trichotomy i n with h1 | h1 | h1
    · rw [List.getElem?_append_left (by omega)] at hi; exact hx i x hi
    · subst h1; rw [List.getElem?_append_right (by omega), hl] at hi; simp at hi; subst hi; exact hy
    · rw [List.getElem?_eq_none (by simp; omega)] at hi; cases hi
theorem wf_u8 {n : Int} (h : (Lit.int .u8 n).wf = true) : ∃ b : UInt8, n = (b.toNat : Int) := by
  have hb := bounds_u8 h
  exact ⟨n.toNat.toUInt8, by simp; omega⟩
/-- A slice of rows of cells. -/
def SlR {α : Type} (w : World) (v : Value) (sz : Nat) (R : List Value → α → Prop) (xs : List α) : Prop :=
  ∃ a c, v = .slice a xs.length c ∧ xs.length ≤ c ∧ c ≤ maxLen ∧ (a = none → c = 0) ∧
    ∀ x, a = some x → ∀ (i : Nat) (y : α), xs[i]? = some y → ∃ cs : List Value, cs.length = sz ∧ (∀ (j : Nat) (u : Value), cs[j]? = some u → w.cell? ((x.add (i * sz)).add j) = some u) ∧ R cs y
theorem Tr.rows {α : Type} {P : Program} {w : World} {t e : TypeId} {cs : List Value} {R : List Value → α → Prop} (h : Tr P w t cs) (ht : P.underlying t = some (.slice e)) (hR : ∀ cs', cs'.length = P.cellsOf e → Tr P w e cs' → ∃ y, R cs' y) :
    ∃ v xs, cs = [v] ∧ SlR w v (P.cellsOf e) R xs := by
  obtain ⟨a, len, cap, rfl, h1, h2, h3, h4⟩ := h.slice ht
  cases a with
  | none =>
    have := h3 rfl
    obtain rfl : len = 0 := by omega
    exact ⟨_, [], rfl, none, cap, rfl, h1, h2, h3, fun x hx => by cases hx⟩
  | some x =>
    obtain ⟨xs, hl, hx⟩ := list_of (R := fun i y => ∃ cs' : List Value, cs'.length = P.cellsOf e ∧ (∀ (j : Nat) (u : Value), cs'[j]? = some u → w.cell? ((x.add (i * P.cellsOf e)).add j) = some u) ∧ R cs' y) len (fun i hi => by
      obtain ⟨cs', h5, h6, h7⟩ := h4 x rfl i hi
      obtain ⟨y, hy⟩ := hR cs' h5 h7
      exact ⟨y, cs', h5, h6, hy⟩)
    refine ⟨_, xs, rfl, some x, cap, by rw [hl], by omega, h2, h3, fun x' hx' i y hy => ?_⟩
    injection hx' with hx'; subst hx'
    exact hx i y hy
theorem SlR.len_le {α : Type} {w : World} {v : Value} {sz : Nat} {R : List Value → α → Prop} {xs : List α} (h : SlR w v sz R xs) : xs.length ≤ maxLen := by
  obtain ⟨a, c, _, h1, h2, _⟩ := h; omega
/-- Element i of it: where it lies. -/
theorem SlR.at {α : Type} {w : World} {v : Value} {sz : Nat} {R : List Value → α → Prop} {xs : List α} (h : SlR w v sz R xs) (hs : 0 < sz) (h0 : 0 < xs.length) : ∃ b off c, v = .slice (some ⟨b, off, none⟩) xs.length c ∧ c ≤ maxLen ∧
    ∀ (i : Nat) (y : α), xs[i]? = some y → ∃ cs : List Value, cs.length = sz ∧ (∀ (j : Nat) (u : Value), cs[j]? = some u → w.cell? ⟨b, off + i * sz + j, none⟩ = some u) ∧ R cs y := by
  obtain ⟨a, c, rfl, h1, h2, h3, h4⟩ := h
  cases a with
  | none => have := h3 rfl; omega
  | some x =>
    obtain ⟨b, off, sp⟩ := x
    obtain ⟨cs, hl, hc, _⟩ := h4 _ rfl 0 xs[0] (by simp [h0])
    have h5 := hc 0 cs[0] (by simp)
    simp only [Nat.zero_mul, Addr.add_zero'] at h5
    have hsp : sp = none := World.cell?_spot h5
    subst hsp
    refine ⟨b, off, c, rfl, h2, fun i y hy => ?_⟩
    obtain ⟨cs, hl, hc, hr⟩ := h4 _ rfl i y hy
    exact ⟨cs, hl, fun j u hu => by have := hc j u hu; simpa only [Addr.add_lit] using this, hr⟩
theorem SlR.form {α : Type} {w : World} {v : Value} {sz : Nat} {R : List Value → α → Prop} {xs : List α} (h : SlR w v sz R xs) : ∃ a c, v = .slice a xs.length c ∧ xs.length ≤ c ∧ c ≤ maxLen := by
  obtain ⟨a, c, h0, h1, h2, _⟩ := h; exact ⟨a, c, h0, h1, h2⟩
/-- A slice of bytes that came in. -/
theorem Tr.bytes {P : Program} {w : World} {t e : TypeId} {cs : List Value} (h : Tr P w t cs) (ht : P.underlying t = some (.slice e)) (he : P.underlying e = some (.int .u8)) (hc : P.cellsOf e = 1) : ∃ v xs, cs = [v] ∧ By w v xs := by
  obtain ⟨v, xs, rfl, hs⟩ := h.rows (R := fun cs (b : UInt8) => cs = [c8 b]) ht (fun cs' _ h' => by
    obtain ⟨n, rfl, hwf⟩ := h'.int he
    obtain ⟨b, rfl⟩ := wf_u8 hwf
    exact ⟨b, rfl⟩)
  refine ⟨v, xs, rfl, ?_⟩
  obtain ⟨a, c, rfl, h1, h2, h3, h4⟩ := hs
  refine ⟨a, c, rfl, h1, h2, by simp, h3, fun x hx i u hu => ?_⟩
  rw [List.getElem?_map] at hu
  obtain ⟨b, hb, rfl⟩ := Option.map_eq_some_iff.1 hu
  obtain ⟨cs', hl, hcell, rfl⟩ := h4 x hx i b hb
  have h5 := hcell 0 (c8 b) rfl
  obtain ⟨xb, xo, sp⟩ := x
  rw [hc, Nat.mul_one, Addr.add_zero'] at h5
  have hsp : (Addr.add ⟨xb, xo, sp⟩ i).spot = none := World.cell?_spot h5
  by_cases hi : i = 0
  · subst hi
    rw [Addr.add_zero'] at h5 hsp
    simp only at hsp; subst hsp
    exact ⟨rfl, h5⟩
  · have h0 : ∃ b0, xs[0]? = some b0 := ⟨xs[0]'(by have := (List.getElem?_eq_some_iff.1 hb).1; omega), by simp⟩
    obtain ⟨b0, hb0⟩ := h0
    obtain ⟨cs0, hl0, hcell0, rfl⟩ := h4 _ hx 0 b0 hb0
    have h6 := hcell0 0 (c8 b0) rfl
    rw [Nat.zero_mul, Addr.add_zero', Addr.add_zero'] at h6
    have hsp0 : sp = none := World.cell?_spot h6
    subst hsp0
    rw [Addr.add_lit] at h5
    exact ⟨rfl, h5⟩
theorem okW_struct {P : Program} {t : TypeId} {w : World} {r : Reach} {base : Nat} {v : Value} {fs : Array Field} (ht : P.underlying t = some (.struct fs)) (h : Value.okWide P w r base t v) : ∃ cs : List Value, v = .agg cs.toArray := by
  simp only [Value.okWide, ht] at h
  obtain ⟨cs, h1, _⟩ := h
  exact ⟨cs.toList, by simpa using h1⟩
theorem okW_array {P : Program} {t : TypeId} {w : World} {r : Reach} {base : Nat} {v : Value} {n : Nat} {e : TypeId} (ht : P.underlying t = some (.array n e)) (h : Value.okWide P w r base t v) : ∃ cs : List Value, v = .agg cs.toArray := by
  simp only [Value.okWide, ht] at h
  obtain ⟨cs, h1, _⟩ := h
  exact ⟨cs.toList, by simpa using h1⟩
/-- An array of bytes that came in. -/
theorem Tr.bytesA {P : Program} {w : World} {t e : TypeId} {n : Nat} {cs : List Value} (h : Tr P w t cs) (ht : P.underlying t = some (.array n e)) (he : P.underlying e = some (.int .u8)) (hc : P.cellsOf e = 1) (hn : P.cellsOf t = n) : ∃ xs : List UInt8, xs.length = n ∧ cs = xs.map c8 := by
  obtain ⟨hl, hi⟩ := h.array ht
  rw [hn] at hl
  obtain ⟨xs, hxl, hx⟩ := list_of (R := fun i (b : UInt8) => cs[i]? = some (c8 b)) n (fun i h => by
    obtain ⟨m, h1, hwf⟩ := (hi i h).int he
    obtain ⟨b, rfl⟩ := wf_u8 hwf
    rw [hc, Nat.mul_one] at h1
    refine ⟨b, ?_⟩
    have h2 : ((cs.drop i).take 1)[0]? = some (c8 b) := by rw [h1]; rfl
    rw [List.getElem?_take, if_pos (by omega), List.getElem?_drop, Nat.add_zero] at h2
    exact h2)
  refine ⟨xs, hxl, List.ext_getElem? fun i => ?_⟩
  rw [List.getElem?_map]
  cases hi' : xs[i]? with
  | none => rw [List.getElem?_eq_none_iff] at hi'; rw [List.getElem?_eq_none (by omega)]; rfl
  | some b => rw [hx i b hi']; rfl
end Go.Proofs.Ytkmciohghhffnaa.B
