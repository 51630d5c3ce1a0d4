/-
  Arrays of bytes as keys of maps.
-/
import Derived.Test.YtkmciohghhffnaaMapG
import Derived.WideKeyRuns
namespace Go.Proofs.Ytkmciohghhffnaa.B
open Go
open Go.MapKept
set_option linter.unusedVariables false
def arrK (xs : List UInt8) : Value := .agg (xs.map c8).toArray
theorem arrK_inj {xs ys : List UInt8} (h : arrK xs = arrK ys) : xs = ys := by
  unfold arrK at h
  injection h with h
  have := congrArg Array.toList h
  simp only at this
  exact c8_inj.1 this
section
variable {P : Program} {t e : TypeId} {n : Nat} {z : Option Value} {bb : Nat}
theorem run_checkArr (ht : P.underlying t = some (.array n e)) (he : P.underlying e = some (.int .u8)) (hi : tinfo P e = some (z, 1, bb)) (xs : List UInt8) (hl : xs.length = n) (em : Bool) (w : World) :
    (Instr.checkKey em 10000 t (arrK xs)).run P w = .ok () w := by
  have hx := okC_bytes ht he hi xs hl
  unfold okC at hx
  rw [ht] at hx
  obtain ⟨h1, h2, h3⟩ := hx
  obtain ⟨z', b', hz⟩ := tinfo_cells h1
  have key : ∀ (m i : Nat), i + m = n → (forIn (m := Sem) (List.range' i m 1) () (fun j r => do
        let s ← sizeOf e
        let a ← part e (xs.map c8).toArray (j * s)
        Instr.checkKey em 9999 e a
        pure (ForInStep.yield ()))).run P w = .ok () w := by
    intro m
    induction m with
    | zero => intro i hi; simp
    | succ m ihm =>
      intro i hi'
      rw [List.range'_succ, List.forIn_cons]
      have h4 := h3 i (by omega)
      have h5 : (Instr.checkKey em (9998 + 1) e (mkV P e (((xs.map c8).drop (i * P.cellsOf e)).take (P.cellsOf e)))).run P w = .ok () w := by
        unfold okC at h4
        rw [he] at h4
        obtain ⟨q, hq⟩ := h4
        rw [hq]
        unfold mkV
        rw [he]
        exact run_checkKey he (show IsKey (.int .u8) (.int .u8 q) from rfl) em 9998
      simp only [Sem.run_bind, run_sizeOf_t hz, Result.andThen_ok, run_part h1 h4, show (9999 : Nat) = 9998 + 1 from rfl, h5, Sem.run_pure]
      exact ihm (i + 1) (by omega)
  show (Instr.checkKey em (9999 + 1) t (.agg (xs.map c8).toArray)).run P w = _
  unfold Instr.checkKey
  simp only [Sem.run_bind, run_underlying ht, Result.andThen_ok]
  rw [Std.Legacy.Range.forIn_eq_forIn_range']
  have e1 : [:n].size = n := by simp [Std.Legacy.Range.size]
  rw [e1]
  have hk := key n 0 (by omega)
  show ((Sem.run P (forIn (List.range' 0 n 1) _ _) w).andThen _) = _
  rw [hk]; simp
theorem run_asking (ht : P.underlying t = some (.array n e)) (he : P.underlying e = some (.int .u8)) (hi : tinfo P e = some (z, 1, bb)) (xs : List UInt8) (hl : xs.length = n) (w : World) :
    ∀ (es : List MapEntry) (i : Nat), (∀ y ∈ es, ∃ ys : List UInt8, ys.length = n ∧ y.key = arrK ys) → ∃ o, (Instr.findAsking t (arrK xs) es i).run P w = .ok o w ∧ ((o = none ∧ ∀ x ∈ es, x.key ≠ arrK xs) ∨ ∃ j y, o = some (i + j, y.val) ∧ es[j]? = some y ∧ y.key = arrK xs) := by
  intro es
  induction es with
  | nil => intro i _; exact ⟨none, by simp [Instr.findAsking], .inl ⟨rfl, fun x hx => by cases hx⟩⟩
  | cons y es ih =>
    intro i h
    obtain ⟨ys, hy1, hy2⟩ := h y (List.mem_cons_self ..)
    obtain ⟨o, h1, h2⟩ := ih (i + 1) fun x hx => h x (List.mem_cons_of_mem _ hx)
    have c1 := okC_bytes ht he hi xs hl
    have c2 := okC_bytes ht he hi ys hy1
    obtain ⟨b, hb1, hb2⟩ := run_equalC 10000 t (xs.map c8) (ys.map c8) w (okC_mono 2 10000 t _ (Nat.le_of_ble_eq_true rfl) c1) (okC_mono 2 10000 t _ (Nat.le_of_ble_eq_true rfl) c2)
    have hv : ∀ l, mkV P t l = .agg l.toArray := by intro l; unfold mkV; rw [ht]
    rw [hv, hv] at hb1
    have hb1 : (Op.equal t (arrK xs) y.key).run P w = .ok b w := by rw [hy2]; exact hb1
    unfold Instr.findAsking
    cases b with
    | true =>
      refine ⟨some (i, y.val), by simp only [Sem.run_bind, hb1, Result.andThen_ok]; simp, .inr ⟨0, y, rfl, rfl, ?_⟩⟩
      rw [hy2]; exact congrArg (fun l => Value.agg (List.toArray l)) (hb2.1 rfl).symm
    | false =>
      refine ⟨o, by simp only [Sem.run_bind, hb1, Result.andThen_ok]; simpa using h1, ?_⟩
      rcases h2 with ⟨rfl, h3⟩ | ⟨j, y', rfl, h3, h4⟩
      · refine .inl ⟨rfl, fun x hx => ?_⟩
        rcases List.mem_cons.1 hx with rfl | hx
        · rw [hy2]; intro hh
          have := arrK_inj hh
          have := hb2.2 (by rw [this])
          cases this
        · exact h3 x hx
      · exact .inr ⟨j + 1, y', by rw [Nat.add_assoc, Nat.add_comm 1 j], by rw [List.getElem?_cons_succ]; exact h3, h4⟩
theorem bits_arr (xs : List UInt8) : Instr.sameBits 10000 (arrK xs) (arrK xs) = true := by
  show Instr.sameBits (9999 + 1) (.agg _) (.agg _) = true
  unfold Instr.sameBits
  rw [Bool.and_eq_true]
  refine ⟨by simp, List.all_eq_true.2 fun p hp => ?_⟩
  have hp : p ∈ (xs.map c8).zip (xs.map c8) := hp
  rw [List.zip_map', List.mem_map] at hp
  obtain ⟨b, _, rfl⟩ := hp
  show Instr.sameBits (9998 + 1) (c8 b) (c8 b) = true
  unfold c8 Instr.sameBits
  simp
/-- Arrays of n bytes. -/
theorem keyOk_arr (ht : P.underlying t = some (.array n e)) (he : P.underlying e = some (.int .u8)) (hi : tinfo P e = some (z, 1, bb)) : KeyOk P t (fun s : { l : List UInt8 // l.length = n } => arrK s.val) where
  inj := fun a b h => Subtype.ext (arrK_inj h)
  check := fun a em w => run_checkArr ht he hi a.val a.2 em w
  find := fun a es w h => by
    rw [run_findKey_eq w (by rw [ht])]
    obtain ⟨o, h1, h2⟩ := run_asking ht he hi a.val a.2 w es 0 (fun y hy => by obtain ⟨b, hb⟩ := h y hy; exact ⟨b.val, b.2, hb⟩)
    refine ⟨o, h1, ?_⟩
    rcases h2 with h2 | ⟨j, y, h3, h4⟩
    · exact .inl h2
    · exact .inr ⟨j, y, by rw [h3, Nat.zero_add], h4⟩
  bits := fun a => bits_arr a.val
end
end Go.Proofs.Ytkmciohghhffnaa.B
