/-
  A region that draws its order, whose operations only read, and whose callees keep what there was.
-/
import Derived.Test.YtkmciohghhffnaaArith
namespace Go.Proofs.Ytkmciohghhffnaa.B
open Go
set_option linter.unusedVariables false
/-- A slice of bytes that is read. -/
abbrev By (w : World) (v : Value) (xs : List UInt8) : Prop := Sl w v xs.length 1 (xs.map c8)
abbrev OwnB (w : World) (e : TypeId) (v : Value) (xs : List UInt8) : Prop := Own w e 1 v xs.length (xs.map c8)
theorem OwnB.by_ {w : World} {e : TypeId} {v : Value} {xs : List UInt8} (h : OwnB w e v xs) : By w v xs := h.sl
theorem By.len_le {w : World} {v : Value} {xs : List UInt8} (h : By w v xs) : xs.length ≤ 9223372036854775807 := by
  obtain ⟨a, c, _, h1, h2⟩ := h.form; unfold maxLen at h2; omega
theorem OwnB.snoc {w : World} {e : TypeId} {v : Value} {xs : List UInt8} {b : UInt8} (h : Own w e 1 v (xs.length + 1) (xs.map c8 ++ [c8 b])) : OwnB w e v (xs ++ [b]) := by
  unfold OwnB; simpa using h
theorem OwnB.app {w : World} {e : TypeId} {v : Value} {xs ys : List UInt8} (h : Own w e 1 v (xs.length + ys.length) (xs.map c8 ++ ys.map c8)) : OwnB w e v (xs ++ ys) := by
  unfold OwnB; simpa using h
theorem get_c8 {xs : List UInt8} {i : Nat} (h : i < xs.length) : (xs.map c8)[i]? = some (c8 xs[i]) := by simp [h]
def OpsQ (c0 : Ctx) (P : Program) (n : Nat) (ops : Array Oper) (C : World → Prop) (l : List Oper) (F : Fr) (K : Fr → Prop) : Prop :=
  ∀ a Q, Sim c0 n a F → (∀ a' F', Sim c0 n a' F' → K F' → Q a') → wpQuiet P ops C Q l a
section
variable {c0 : Ctx} {P : Program} {n : Nat} {ops : Array Oper} {C : World → Prop} {F : Fr} {K : Fr → Prop} {o : Oper} {rest : List Oper}
theorem W_quiet {ds : List Deferred} {alt : Act → World → Prop} {id : Nat} {l : List Oper} {w : World} {Q : Exit → Fr → World → Prop} (C : World → Prop) (hm : P.follows .mixedOrders = true) (hB : Region.lexB .any l.toArray = true) (hC : C { w with drawn := w.drawn + 1 })
    (h : OpsQ ⟨none, ds, alt⟩ P n l.toArray C l F (fun F' => ∀ w', C w' → Q .normal F' w')) : W ⟨none, ds, alt⟩ P n (.region id l.toArray true) F w Q := by
  intro a ha
  refine wpIn_wide.2 (wp_region_quiet (C := C) hm hB hC ?_)
  exact h a _ ha fun a' F' hs hK w' hw' => .inl ⟨F', hs, hK w' hw'⟩
theorem q_nil (h : K F) : OpsQ c0 P n ops C [] F K := fun _ _ hs hk => wpQuiet_nil (hk _ _ hs h)
theorem q_run0 {v : Value} (hr : ∀ w, C w → Run1 P F o w v w) (hg : wantedF ops F o = true) (h : OpsQ c0 P n ops C rest (updo n F o.dst v) K) : OpsQ c0 P n ops C (o :: rest) F K := by
  intro a Q hs hk
  have hnext := h (a.put o.dst v) Q (hs.put o.dst v) hk
  simp only [wpQuiet]
  rw [if_pos (by rw [wanted_eq hs]; exact hg)]
  refine ⟨v, fun w hw => ?_, hnext⟩
  unfold Oper.quietAt
  rw [hs.eval]
  have h1 : (execOp (ev F) o).run P w = .ok (.value v) w := hr w hw
  rw [h1]; exact ⟨rfl, rfl⟩
theorem q_run {v : Value} {d : Tmp} {op : Op} {ty : TypeId} {pos : String} {after : Array Edge} {g : Option (Nat × Bool)} (hr : ∀ w, C w → Run1 P F ⟨some d, op, ty, pos, after, g⟩ w v w) (hg : wantedF ops F ⟨some d, op, ty, pos, after, g⟩ = true)
    (h : OpsQ c0 P n ops C rest (upd n F d v) K) : OpsQ c0 P n ops C (⟨some d, op, ty, pos, after, g⟩ :: rest) F K := q_run0 hr hg h
section
variable {d s : Tmp} {v : Value} {ty : TypeId} {pos : String} {after : Array Edge} {g : Option (Nat × Bool)}
theorem q_mvt (hg : wantedF ops F ⟨some d, .move (.tmp s), ty, pos, after, g⟩ = true) (h : OpsQ c0 P n ops C rest (updc n F d s) K) : OpsQ c0 P n ops C (⟨some d, .move (.tmp s), ty, pos, after, g⟩ :: rest) F K :=
  q_run (fun _ _ => r_move) hg (by rw [updc_eq] at h; exact h)
theorem q_ast (hg : wantedF ops F ⟨some d, .assign (.tmp s), ty, pos, after, g⟩ = true) (h : OpsQ c0 P n ops C rest (updc n F d s) K) : OpsQ c0 P n ops C (⟨some d, .assign (.tmp s), ty, pos, after, g⟩ :: rest) F K :=
  q_run (fun _ _ => r_assign) hg (by rw [updc_eq] at h; exact h)
theorem q_mvc (hg : wantedF ops F ⟨some d, .move (.const v), ty, pos, after, g⟩ = true) (h : OpsQ c0 P n ops C rest (upd n F d v) K) : OpsQ c0 P n ops C (⟨some d, .move (.const v), ty, pos, after, g⟩ :: rest) F K := q_run (fun _ _ => r_move) hg h
theorem q_asc (hg : wantedF ops F ⟨some d, .assign (.const v), ty, pos, after, g⟩ = true) (h : OpsQ c0 P n ops C rest (upd n F d v) K) : OpsQ c0 P n ops C (⟨some d, .assign (.const v), ty, pos, after, g⟩ :: rest) F K := q_run (fun _ _ => r_assign) hg h
theorem q_pkTt {c y : Operand} {t : Bool} (hc : ev F c = .bool t) (ht : t = true) (hg : wantedF ops F ⟨some d, .pick c (.tmp s) y, ty, pos, after, g⟩ = true) (h : OpsQ c0 P n ops C rest (updc n F d s) K) : OpsQ c0 P n ops C (⟨some d, .pick c (.tmp s) y, ty, pos, after, g⟩ :: rest) F K :=
  q_run (fun _ _ => r_pickT hc ht) hg (by rw [updc_eq] at h; exact h)
theorem q_pkTc {c y : Operand} {t : Bool} (hc : ev F c = .bool t) (ht : t = true) (hg : wantedF ops F ⟨some d, .pick c (.const v) y, ty, pos, after, g⟩ = true) (h : OpsQ c0 P n ops C rest (upd n F d v) K) : OpsQ c0 P n ops C (⟨some d, .pick c (.const v) y, ty, pos, after, g⟩ :: rest) F K :=
  q_run (fun _ _ => r_pickT hc ht) hg h
theorem q_pkFt {c x : Operand} {t : Bool} (hc : ev F c = .bool t) (ht : t = false) (hg : wantedF ops F ⟨some d, .pick c x (.tmp s), ty, pos, after, g⟩ = true) (h : OpsQ c0 P n ops C rest (updc n F d s) K) : OpsQ c0 P n ops C (⟨some d, .pick c x (.tmp s), ty, pos, after, g⟩ :: rest) F K :=
  q_run (fun _ _ => r_pickF hc ht) hg (by rw [updc_eq] at h; exact h)
theorem q_pkFc {c x : Operand} {t : Bool} (hc : ev F c = .bool t) (ht : t = false) (hg : wantedF ops F ⟨some d, .pick c x (.const v), ty, pos, after, g⟩ = true) (h : OpsQ c0 P n ops C rest (upd n F d v) K) : OpsQ c0 P n ops C (⟨some d, .pick c x (.const v), ty, pos, after, g⟩ :: rest) F K :=
  q_run (fun _ _ => r_pickF hc ht) hg h
end
theorem q_skip (hg : wantedF ops F o = false) (h : OpsQ c0 P n ops C rest (updo n F o.dst undef) K) : OpsQ c0 P n ops C (o :: rest) F K := by
  intro a Q hs hk
  have hnext := h (a.put o.dst undef) Q (hs.put o.dst undef) hk
  simp only [wpQuiet]
  rw [if_neg (by rw [wanted_eq hs, hg]; simp)]
  exact hnext
theorem q_split {j t : Nat} {want b : Bool} (hg : o.guard = some (j, want)) (hd : (ops[j]?).bind (·.dst) = some t) (hv : F t = .bool b)
    (hy : b = want → OpsQ c0 P n ops C (o :: rest) F K) (hn : b = !want → OpsQ c0 P n ops C (o :: rest) F K) : OpsQ c0 P n ops C (o :: rest) F K := by
  by_cases h : b = want
  · exact hy h
  · exact hn (by cases b <;> cases want <;> simp_all)
theorem q_call {f : Operand} {fid : FuncId} {as : List Operand} {first captured : Array Value} {ts : Array TypeId} {v : Value} {dst : Option Tmp} {ty : TypeId} {pos : String} {after : Array Edge} {g : Option (Nat × Bool)}
    (hf : ev F f = .func (.func fid) first captured) (hfn : isFn P fid = true)
    (hg : wantedF ops F ⟨dst, .call ⟨.value f, as.toArray, ts⟩, ty, pos, after, g⟩ = true)
    (h : ∀ w, C w → Ret P fid (first ++ (as.map (ev F)).toArray ++ captured) w (fun u w' => u = v ∧ C w'))
    (hk : OpsQ c0 P n ops C rest (updo n F dst v) K) : OpsQ c0 P n ops C (⟨dst, .call ⟨.value f, as.toArray, ts⟩, ty, pos, after, g⟩ :: rest) F K := by
  intro a Q hs hkk
  have hnext := hk (a.put dst v) Q (hs.put dst v) hkk
  simp only [wpQuiet]
  rw [if_pos (by rw [wanted_eq hs]; exact hg)]
  refine ⟨v, fun w hw => ?_, hnext⟩
  unfold Oper.quietAt
  rw [hs.eval]
  have hrun : (execOp (ev F) ⟨dst, .call ⟨.value f, as.toArray, ts⟩, ty, pos, after, g⟩).run P w = .ok (.enter fid (first ++ (as.map (ev F)).toArray ++ captured)) w := by
    have hc := run_callFunc (P := P) hfn (first ++ (as.map (ev F)).toArray ++ captured) w
    simp only [execOp, resolve, hf, Deferred.ofValue, invoke, List.map_toArray, bind, Sem.bind, pure]
    exact hc
  rw [hrun]
  refine ⟨rfl, Calls.mono (h w hw) ?_⟩
  rintro e w' ⟨u, rfl, rfl, hC⟩
  exact ⟨rfl, hC⟩
end
end Go.Proofs.Ytkmciohghhffnaa.B
