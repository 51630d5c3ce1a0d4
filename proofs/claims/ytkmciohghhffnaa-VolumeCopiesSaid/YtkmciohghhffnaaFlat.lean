/-
  '==' on arrays and structs of plain cells: the cells are one.
-/
import Derived.Test.YtkmciohghhffnaaHeld
import Derived.Laws.StructEq
namespace Go.Proofs.Ytkmciohghhffnaa.B
open Go
set_option linter.unusedVariables false
/-- Fields that follow each other from a place on up to the end. -/
def cover (P : Program) : List Field → Nat → Nat → Bool
  | [], a, b => a == b
  | f :: fs, a, b => f.offset == a && f.name != "_" && cover P fs (a + P.cellsOf f.type) b
/-- Cells that a value of this type may have, plain ones. -/
def okC (P : Program) : Nat → TypeId → List Value → Prop
  | 0, _, _ => False
  | d + 1, t, cs => match P.underlying t with
    | some (.int k) => ∃ n, cs = [.int k n]
    | some .bool => ∃ b, cs = [.bool b]
    | some .string => ∃ s, cs = [.string s]
    | some (.array n e) => (tinfo P e).isSome = true ∧ cs.length = n * P.cellsOf e ∧ ∀ i, i < n → okC P d e ((cs.drop (i * P.cellsOf e)).take (P.cellsOf e))
    | some (.struct fs) => P.stoodInHeld t = false ∧ cover P fs.toList 0 cs.length = true ∧ ∀ f ∈ fs.toList, (tinfo P f.type).isSome = true ∧ okC P d f.type ((cs.drop f.offset).take (P.cellsOf f.type))
    | _ => False
/-- The value of such cells. -/
def mkV (P : Program) (t : TypeId) (cs : List Value) : Value :=
  match P.underlying t with
  | some (.struct _) => .agg cs.toArray
  | some (.array _ _) => .agg cs.toArray
  | _ => cs.headD undef
theorem tinfo_cells {P : Program} {t : TypeId} (h : (tinfo P t).isSome = true) : ∃ z b, tinfo P t = some (z, P.cellsOf t, b) := by
  unfold tinfo at h ⊢
  unfold Program.cellsOf
  cases hi : P.info? t with
  | none => rw [hi] at h; cases h
  | some i => exact ⟨i.zero, i.bytes, by simp⟩
theorem run_part {P : Program} {d : Nat} {t : TypeId} {l : List Value} {off : Nat} (ht : (tinfo P t).isSome = true) (h : okC P d t ((l.drop off).take (P.cellsOf t))) (w : World) :
    (part t l.toArray off).run P w = .ok (mkV P t ((l.drop off).take (P.cellsOf t))) w := by
  obtain ⟨z, b, hz⟩ := tinfo_cells ht
  cases d with
  | zero => exact h.elim
  | succ d =>
    unfold okC at h
    unfold part mkV
    cases hu : P.underlying t with
    | none => rw [hu] at h; exact h.elim
    | some td =>
      rw [hu] at h
      simp only [Sem.run_bind, run_isAgg hu, Result.andThen_ok]
      cases td <;> simp only at h <;> simp only [aggD, if_true, if_false, Bool.false_eq_true, Sem.run_bind, run_sizeOf_t hz, Result.andThen_ok, Sem.run_pure]
      case array n e =>
        simp
      case struct fs =>
        simp
      case int k =>
        obtain ⟨n, hn⟩ := h
        have h0 : l[off]? = some (.int k n) := by
          have : ((l.drop off).take (P.cellsOf t))[0]? = some (.int k n) := by rw [hn]; rfl
          rw [List.getElem?_take] at this
          split at this
          · simpa [List.getElem?_drop] using this
          · cases this
        simp [h0, hn]
      case bool =>
        obtain ⟨n, hn⟩ := h
        have h0 : l[off]? = some (.bool n) := by
          have : ((l.drop off).take (P.cellsOf t))[0]? = some (.bool n) := by rw [hn]; rfl
          rw [List.getElem?_take] at this
          split at this
          · simpa [List.getElem?_drop] using this
          · cases this
        simp [h0, hn]
      case string =>
        obtain ⟨n, hn⟩ := h
        have h0 : l[off]? = some (.string n) := by
          have : ((l.drop off).take (P.cellsOf t))[0]? = some (.string n) := by rw [hn]; rfl
          rw [List.getElem?_take] at this
          split at this
          · simpa [List.getElem?_drop] using this
          · cases this
        simp [h0, hn]
theorem chunks_eq {xs ys : List Value} {sz : Nat} : ∀ (n : Nat), xs.length = n * sz → ys.length = n * sz → ((∀ i, i < n → (xs.drop (i * sz)).take sz = (ys.drop (i * sz)).take sz) ↔ xs = ys) := by
  intro n hx hy
  refine ⟨fun h => ?_, fun h => by subst h; exact fun _ _ => rfl⟩
  apply List.ext_getElem? 
  intro j
  rcases Nat.eq_zero_or_pos sz with h0 | h0
  · subst h0; simp at hx hy; subst hx; subst hy; rfl
  · by_cases hj : j < n * sz
    · have hi : j / sz < n := Nat.div_lt_of_lt_mul (by rw [Nat.mul_comm]; exact hj)
      have h1 := congrArg (·[j % sz]?) (h (j / sz) hi)
      simp only [List.getElem?_take, Nat.mod_lt j h0, if_true, List.getElem?_drop] at h1
      rw [Nat.mul_comm, Nat.div_add_mod] at h1
      exact h1
    · rw [List.getElem?_eq_none (by omega), List.getElem?_eq_none (by omega)]
theorem fields_eq {P : Program} {xs ys : List Value} : ∀ (fs : List Field) (a : Nat), cover P fs a xs.length = true → xs.length = ys.length → a ≤ xs.length →
    ((∀ f ∈ fs, (xs.drop f.offset).take (P.cellsOf f.type) = (ys.drop f.offset).take (P.cellsOf f.type)) ↔ xs.drop a = ys.drop a) ∧ (∀ f ∈ fs, f.name ≠ "_") := by
  intro fs
  induction fs with
  | nil =>
    intro a hc hl ha
    simp only [cover, beq_iff_eq] at hc
    subst hc
    refine ⟨⟨fun _ => by rw [List.drop_length, hl, List.drop_length], fun _ f hf => by cases hf⟩, fun f hf => by cases hf⟩
  | cons f fs ih =>
    intro a hc hl ha
    simp only [cover, Bool.and_eq_true, beq_iff_eq, bne_iff_ne, ne_eq] at hc
    obtain ⟨⟨h1, h2⟩, h3⟩ := hc
    have hle : ∀ (gs : List Field) (b c : Nat), cover P gs b c = true → b ≤ c := by
      intro gs
      induction gs with
      | nil => intro b c h; simp only [cover, beq_iff_eq] at h; omega
      | cons g gs ihg =>
        intro b c h
        simp only [cover, Bool.and_eq_true] at h
        have := ihg _ _ h.2
        omega
    have hle' := hle _ _ _ h3
    obtain ⟨ih1, ih2⟩ := ih (a + P.cellsOf f.type) h3 hl hle'
    refine ⟨?_, fun g hg => by rcases List.mem_cons.1 hg with rfl | hg; exact h2; exact ih2 g hg⟩
    rw [List.forall_mem_cons, ih1, h1]
    constructor
    · rintro ⟨e1, e2⟩
      rw [← List.take_append_drop (P.cellsOf f.type) (xs.drop a), ← List.take_append_drop (P.cellsOf f.type) (ys.drop a), List.drop_drop, List.drop_drop, e1, e2]
    · intro e
      refine ⟨by rw [e], ?_⟩
      have := congrArg (List.drop (P.cellsOf f.type)) e
      simpa [List.drop_drop] using this
theorem okC_mono {P : Program} : ∀ (d d' : Nat) (t : TypeId) (cs : List Value), d ≤ d' → okC P d t cs → okC P d' t cs := by
  intro d
  induction d with
  | zero => intro d' t cs _ h; exact h.elim
  | succ d ih =>
    intro d' t cs hd h
    obtain ⟨d'', rfl⟩ : ∃ e, d' = e + 1 := ⟨d' - 1, by omega⟩
    unfold okC at h ⊢
    cases hu : P.underlying t with
    | none => rw [hu] at h; exact h.elim
    | some td =>
      rw [hu] at h
      cases td <;> simp only at h ⊢ <;> first | exact h | exact h.elim | skip
      · exact ⟨h.1, h.2.1, fun i hi => ih d'' _ _ (by omega) (h.2.2 i hi)⟩
      · exact ⟨h.1, h.2.1, fun f hf => ⟨(h.2.2 f hf).1, ih d'' _ _ (by omega) (h.2.2 f hf).2⟩⟩

theorem run_equalC {P : Program} : ∀ (d : Nat) (t : TypeId) (xs ys : List Value) (w : World), okC P d t xs → okC P d t ys →
    ∃ b, (Op.equalIn d t (mkV P t xs) (mkV P t ys)).run P w = .ok b w ∧ (b = true ↔ xs = ys) := by
  intro d
  induction d with
  | zero => intro t xs ys w h; exact h.elim
  | succ d ih =>
    intro t xs ys w hx hy
    unfold okC at hx hy
    unfold mkV
    cases hu : P.underlying t with
    | none => rw [hu] at hx; exact hx.elim
    | some td =>
      rw [hu] at hx hy
      cases td <;> simp only at hx hy <;> first | exact hx.elim | skip
      case int k =>
        obtain ⟨a, rfl⟩ := hx
        obtain ⟨b, rfl⟩ := hy
        refine ⟨a == b, ?_, ?_⟩
        · exact run_equalIn_int w d t k k a b hu
        · simp
      case bool =>
        obtain ⟨a, rfl⟩ := hx
        obtain ⟨b, rfl⟩ := hy
        refine ⟨a == b, ?_, ?_⟩
        · exact run_equalIn_bool' w d t a b hu
        · simp
      case string =>
        obtain ⟨a, rfl⟩ := hx
        obtain ⟨b, rfl⟩ := hy
        refine ⟨a == b, ?_, ?_⟩
        · simp [Op.equalIn, run_underlying hu]
        · rw [beq_toListBytes]; simp [ByteArray.toList_eq]
          constructor
          · intro h; cases a; cases b; simp_all
          · intro h; rw [h]
      case array n e =>
        obtain ⟨h1, h2, h3⟩ := hx
        obtain ⟨_, h5, h6⟩ := hy
        obtain ⟨z, bb, hz⟩ := tinfo_cells h1
        -- the loop from i on
        have key : ∀ (m i : Nat), i + m = n → ∃ b, (forIn (m := Sem) (List.range' i m 1) ((none, ()) : Option Bool × Unit) (fun j r => do
              let a ← part e xs.toArray (j * P.cellsOf e)
              let c ← part e ys.toArray (j * P.cellsOf e)
              let q ← Op.equalIn d e a c
              if (!q) = true then pure (ForInStep.done (some false, ())) else pure (ForInStep.yield (none, ())))).run P w = .ok (if b then (none, ()) else (some false, ())) w ∧
            (b = true ↔ ∀ j, i ≤ j → j < n → (xs.drop (j * P.cellsOf e)).take (P.cellsOf e) = (ys.drop (j * P.cellsOf e)).take (P.cellsOf e)) := by
          intro m
          induction m with
          | zero => intro i hi; exact ⟨true, by simp, by simp; intro j h1 h2; omega⟩
          | succ m ihm =>
            intro i hi
            obtain ⟨b1, hb1, hb2⟩ := ih e _ _ w (h3 i (by omega)) (h6 i (by omega))
            obtain ⟨b2, hb3, hb4⟩ := ihm (i + 1) (by omega)
            refine ⟨b1 && b2, ?_, ?_⟩
            · rw [List.range'_succ, List.forIn_cons]
              simp only [Sem.run_bind, run_part h1 (h3 i (by omega)), run_part h1 (h6 i (by omega)), Result.andThen_ok, hb1]
              cases b1 with
              | false => simp
              | true => simpa using hb3
            · rw [Bool.and_eq_true, hb2, hb4]
              constructor
              · rintro ⟨h7, h8⟩ j hj1 hj2
                by_cases e : j = i
                · subst e; exact h7
                · exact h8 j (by omega) hj2
              · intro h7; exact ⟨h7 i (Nat.le_refl _) (by omega), fun j h8 h9 => h7 j (by omega) h9⟩
        obtain ⟨b, hb1, hb2⟩ := key n 0 (by omega)
        refine ⟨b, ?_, ?_⟩
        · rw [Op.equalIn]
          simp only [Sem.run_bind, run_underlying hu, Result.andThen_ok, run_sizeOf_t hz]
          rw [Std.Legacy.Range.forIn_eq_forIn_range']
          have e : [:n].size = n := by simp [Std.Legacy.Range.size]
          rw [e]
          have hb1' := hb1
          show ((Sem.run P (forIn (List.range' 0 n 1) _ _) w).andThen _) = _
          rw [hb1']
          cases b <;> simp
        · rw [hb2, ← chunks_eq n h2 h5]; simp
      case struct fs =>
        obtain ⟨h1, h2, h3⟩ := hx
        obtain ⟨_, h5, h6⟩ := hy
        rw [Op.equalIn]
        simp only [Sem.run_bind, run_underlying hu, Result.andThen_ok, run_program, h1, Bool.false_eq_true, if_false]
        rw [← Array.forIn_toList]
        have key : ∀ (gs : List Field), (∀ f ∈ gs, f ∈ fs.toList) → (∀ f ∈ gs, f.name ≠ "_") → ∃ b, (forIn (m := Sem) gs ((none, ()) : Option Bool × Unit) (fun f r =>
                if f.name ≠ "_" then do
                  let a ← part f.type xs.toArray f.offset
                  let c ← part f.type ys.toArray f.offset
                  let q ← Op.equalIn d f.type a c
                  if (!q) = true then pure (ForInStep.done (some false, ())) else pure (ForInStep.yield (none, ()))
                else pure (ForInStep.yield (none, ())))).run P w = .ok (if b then (none, ()) else (some false, ())) w ∧
            (b = true ↔ ∀ f ∈ gs, (xs.drop f.offset).take (P.cellsOf f.type) = (ys.drop f.offset).take (P.cellsOf f.type)) := by
          intro gs
          induction gs with
          | nil => intro _ _; exact ⟨true, by simp, by simp⟩
          | cons f gs ihg =>
            intro hm hn
            obtain ⟨b2, hb3, hb4⟩ := ihg (fun g hg => hm g (List.mem_cons_of_mem _ hg)) (fun g hg => hn g (List.mem_cons_of_mem _ hg))
            have hf := hm f List.mem_cons_self
            have hx' := h3 f hf
            have hy' := h6 f hf
            obtain ⟨b1, hb1, hb2⟩ := ih f.type _ _ w hx'.2 hy'.2
            refine ⟨b1 && b2, ?_, ?_⟩
            · rw [List.forIn_cons]
              simp only [Sem.run_bind, Sem.run_ite]
              rw [if_pos (hn f List.mem_cons_self)]
              simp only [run_part hx'.1 hx'.2, run_part hy'.1 hy'.2, Result.andThen_ok, hb1]
              cases b1 with
              | false => simp
              | true => simpa using hb3
            · rw [Bool.and_eq_true, hb2, hb4, List.forall_mem_cons]
        by_cases hl : xs.length = ys.length
        · obtain ⟨hfe, hnm⟩ := fields_eq fs.toList 0 h2 hl (Nat.zero_le _)
          obtain ⟨b, hb1, hb2⟩ := key fs.toList (fun f hf => hf) hnm
          refine ⟨b, ?_, ?_⟩
          · rw [hb1]; cases b <;> simp
          · rw [hb2, hfe]; simp
        · exfalso
          have hu2 : ∀ (gs : List Field) (a b c : Nat), cover P gs a b = true → cover P gs a c = true → b = c := by
            intro gs
            induction gs with
            | nil => intro a b c h7 h8; simp only [cover, beq_iff_eq] at h7 h8; omega
            | cons g gs ihg => intro a b c h7 h8; simp only [cover, Bool.and_eq_true] at h7 h8; exact ihg _ _ _ h7.2 h8.2
          exact hl (hu2 _ _ _ _ h2 h5)

section
variable {P : Program} {F : Fr} {w : World} {dst : Option Tmp} {ty : TypeId} {pos : String} {after : Array Edge} {g : Option (Nat × Bool)}
theorem run_eqGuardC {op : BinOp} {t : TypeId} {x y : Operand} {xs ys : List Value} (hq : P.eqGuardType P.depth t = false) : (eqGuard op t x y (.agg xs.toArray) (.agg ys.toArray)).run P w = .ok () w := run_eqGuard_agg w op t x y _ _ hq
theorem r_eqlC {t t' : TypeId} {x y : Operand} {xs ys : List Value} {d : Nat} {td : TypeDesc} {p : Prop} [Decidable p] (hx : ev F x = .agg xs.toArray) (hy : ev F y = .agg ys.toArray) (ht : P.underlying t = some td) (ha : aggD td = true)
    (hq : P.eqGuardType P.depth t = false) (hxc : okC P d t xs) (hyc : okC P d t ys) (hd : Nat.ble d 10000 = true) (hp : xs = ys ↔ p) :
    Run1 P F ⟨dst, .binOp .eql t x y t', ty, pos, after, g⟩ w (.bool (decide p)) w := by
  obtain ⟨b, hb1, hb2⟩ := run_equalC 10000 t xs ys w (okC_mono d 10000 t xs (Nat.le_of_ble_eq_true hd) hxc) (okC_mono d 10000 t ys (Nat.le_of_ble_eq_true hd) hyc)
  have e : b = decide p := by
    rw [Bool.eq_iff_iff, hb2, hp]; simp
  subst e
  have hv : ∀ l, mkV P t l = .agg l.toArray := by intro l; unfold mkV; rw [ht]; cases td <;> first | rfl | cases ha
  rw [hv, hv] at hb1
  unfold Run1
  simp only [execOp, hx, hy, Sem.run_bind, run_eqGuardC hq, Result.andThen_ok, binOp, Op.equal, show Op.maxDepth = 10000 from rfl, hb1, Sem.run_pure]
theorem r_neqC {t t' : TypeId} {x y : Operand} {xs ys : List Value} {d : Nat} {td : TypeDesc} {p : Prop} [Decidable p] (hx : ev F x = .agg xs.toArray) (hy : ev F y = .agg ys.toArray) (ht : P.underlying t = some td) (ha : aggD td = true)
    (hq : P.eqGuardType P.depth t = false) (hxc : okC P d t xs) (hyc : okC P d t ys) (hd : Nat.ble d 10000 = true) (hp : xs = ys ↔ p) :
    Run1 P F ⟨dst, .binOp .neq t x y t', ty, pos, after, g⟩ w (.bool (!decide p)) w := by
  obtain ⟨b, hb1, hb2⟩ := run_equalC 10000 t xs ys w (okC_mono d 10000 t xs (Nat.le_of_ble_eq_true hd) hxc) (okC_mono d 10000 t ys (Nat.le_of_ble_eq_true hd) hyc)
  have e : b = decide p := by
    rw [Bool.eq_iff_iff, hb2, hp]; simp
  subst e
  have hv : ∀ l, mkV P t l = .agg l.toArray := by intro l; unfold mkV; rw [ht]; cases td <;> first | rfl | cases ha
  rw [hv, hv] at hb1
  unfold Run1
  simp only [execOp, hx, hy, Sem.run_bind, run_eqGuardC hq, Result.andThen_ok, binOp, Op.equal, show Op.maxDepth = 10000 from rfl, hb1, Sem.run_pure]
end
/-- An array of bytes. -/
theorem okC_bytes {P : Program} {t e : TypeId} {n : Nat} {z : Option Value} {b : Nat} (ht : P.underlying t = some (.array n e)) (he : P.underlying e = some (.int .u8)) (hi : tinfo P e = some (z, 1, b)) (xs : List UInt8) (hl : xs.length = n) : okC P 2 t (xs.map c8) := by
  have hc : P.cellsOf e = 1 := by
    obtain ⟨i, h1, _, h2, _⟩ := tinfo_info hi
    simp [Program.cellsOf, h1, h2]
  show okC P (1 + 1) t _
  unfold okC
  rw [ht]
  simp only
  refine ⟨by rw [hi]; rfl, by simp [hc, hl], fun i hi' => ?_⟩
  show okC P (0 + 1) e _
  unfold okC
  rw [he, hc, Nat.mul_one]
  simp only
  refine ⟨(xs[i]'(by omega)).toNat, ?_⟩
  rw [← List.map_drop, ← List.map_take, List.drop_eq_getElem_cons (by omega)]
  rfl
theorem c8_inj {xs ys : List UInt8} : xs.map c8 = ys.map c8 ↔ xs = ys := by
  refine ⟨fun h => ?_, fun h => by rw [h]⟩
  have hi : ∀ a b : UInt8, c8 a = c8 b → a = b := fun a b e => by
    unfold c8 at e; injection e with _ e; exact UInt8.toNat_inj.1 (by exact_mod_cast e)
  exact (List.map_inj_right (fun {x y} h => hi x y h)).1 h
end Go.Proofs.Ytkmciohghhffnaa.B
