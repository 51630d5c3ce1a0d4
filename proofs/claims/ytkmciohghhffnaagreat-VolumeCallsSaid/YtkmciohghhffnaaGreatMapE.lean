/-
  Two steps of an assignment to a map's entry: the entry, and its value.
-/
import Derived.Test.YtkmciohghhffnaaGreatMapG
import Derived.WideKeyEntry
namespace Go.Proofs.YtkmciohghhffnaaGreat.B
open Go
open Go.ChangeMaps (setBlock)
open Go.MapKept
set_option linter.unusedSectionVars false
set_option linter.unusedVariables false
section
variable {α : Type} [DecidableEq α] {kv : α → Value}
/-- A map whose last entry is to get its value. -/
def EntG (kv : α → Value) (w : World) (b : Nat) (l : List (α × Value)) (a : α) (s : Nat) : Prop :=
  ∃ es es0 clock z, w.heap[b]? = some (.map es clock) ∧ Stamped es clock ∧ es.toList = es0 ++ [⟨kv a, z, s⟩] ∧ es0.map (fun e => (e.key, e.val)) = l.map (fun x => (kv x.1, x.2))
theorem EntG.keep {w w' : World} {b : Nat} {l : List (α × Value)} {a : α} {s : Nat} {A : Nat → Prop} (h : EntG kv w b l a s) (hk : Keep A w w') (hA : A b) : EntG kv w' b l a s := by
  obtain ⟨es, es0, cl, z, h1, h2⟩ := h; exact ⟨es, es0, cl, z, hk.get h1 hA, h2⟩
variable {f0 : Bool} {c0 : Ctx} {P : Program} {n : Nat} {ops : Array Oper} {F : Fr} {w : World} {K : Fr → World → Prop} {rest : List Oper} {dst : Option Tmp} {ty : TypeId} {pos : String} {after : Array Edge} {g : Option (Nat × Bool)}
theorem o_mapEntryG {x y : Operand} {t k e : TypeId} {b : Nat} {a : α} {z : Value} {sz by_ : Nat} {l : List (α × Value)} (hK : KeyOk P k kv) (hx : ev F x = .map (some b)) (hy : ev F y = kv a) (ht : P.underlying t = some (.map k e)) (hi : tinfo P e = some (some z, sz, by_)) (hm : MapG kv w b l) (hno : getA l a = none)
    (hg : wantedF ops F ⟨dst, .mapEntry t x y, ty, pos, after, g⟩ = true)
    (h : ∀ w' s, EntG kv w' b l a s → Keep (· ≠ b) w w' → w'.heap.size = w.heap.size → OpsW f0 c0 P n ops rest (updo n F dst (.tuple #[z, .int .i64 ((s : Nat) : Int)])) w' K) : OpsW f0 c0 P n ops (⟨dst, .mapEntry t x y, ty, pos, after, g⟩ :: rest) F w K := by
  obtain ⟨es, cl, h1, h2, h3⟩ := hm
  have hget : (getObj b).run P w = .ok (.map es cl) w := by simp [getObj, Sem.run, h1]
  have hlt : b < w.heap.size := lt_of_get h1
  have hset : ∀ o : Obj, (setObj b o).run P w = .ok () { w with heap := w.heap.setIfInBounds b o } := fun o => by simp [setObj, Sem.run, h1]
  have hkeep : ∀ o : Obj, Keep (· ≠ b) w { w with heap := w.heap.setIfInBounds b o } := fun o => ⟨rfl, rfl, rfl, by simp, fun k _ hk => by simp [Array.getElem?_setIfInBounds_ne (Ne.symm hk)]⟩
  have hsame : ∀ o : Obj, ({ w with heap := w.heap.setIfInBounds b o } : World).heap[b]? = some o := fun o => by simp [hlt]
  rcases MapG.find hK h2 h3 a w with ⟨h4, h5, h6⟩ | ⟨j, e0, h4, h6, h7, h8, h5⟩
  · refine op_run0 (v := .tuple #[z, .int .i64 ((cl : Nat) : Int)]) (w' := { w with heap := w.heap.setIfInBounds b (.map (es.push { key := kv a, val := z, born := cl }) (cl + 1)) }) ?_ hg (h _ cl ⟨_, es.toList, _, z, hsame _, stamped_push h2 h6, by simp, h3⟩ (hkeep _) (by simp))
    unfold Run1
    simp only [execOp, hx, hy, Instr.mapEntry, Sem.run_bind, run_underlying ht, hget, Result.andThen_ok, Sem.run_pure, hK.check, h4, run_zero_t hi, hset, goInt]
  · rw [hno] at h5; cases h5
theorem o_entryStoreG {x y u : Operand} {t : TypeId} {b : Nat} {a : α} {v : Value} {s : Nat} {l : List (α × Value)} (hx : ev F x = .map (some b)) (hy : ev F y = .int .i64 ((s : Nat) : Int)) (hu : ev F u = v) (hm : EntG kv w b l a s)
    (hg : wantedF ops F ⟨dst, .entryStore t x y u, ty, pos, after, g⟩ = true)
    (h : ∀ w', MapG kv w' b (l ++ [(a, v)]) → Keep (· ≠ b) w w' → w'.heap.size = w.heap.size → OpsW f0 c0 P n ops rest (updo n F dst undef) w' K) : OpsW f0 c0 P n ops (⟨dst, .entryStore t x y u, ty, pos, after, g⟩ :: rest) F w K := by
  obtain ⟨es, es0, cl, z, h1, h2, h3, h4⟩ := hm
  have hget : (getObj b).run P w = .ok (.map es cl) w := by simp [getObj, Sem.run, h1]
  have hlt : b < w.heap.size := lt_of_get h1
  have hset : ∀ o : Obj, (setObj b o).run P w = .ok () { w with heap := w.heap.setIfInBounds b o } := fun o => by simp [setObj, Sem.run, h1]
  have hkeep : ∀ o : Obj, Keep (· ≠ b) w { w with heap := w.heap.setIfInBounds b o } := fun o => ⟨rfl, rfl, rfl, by simp, fun k _ hk => by simp [Array.getElem?_setIfInBounds_ne (Ne.symm hk)]⟩
  have hsame : ∀ o : Obj, ({ w with heap := w.heap.setIfInBounds b o } : World).heap[b]? = some o := fun o => by simp [hlt]
  have hj : es.toList[es0.length]? = some (⟨kv a, z, s⟩ : MapEntry) := by rw [h3]; simp
  have hf : es.findIdx? (fun e => ((e.born : Nat) : Int) == ((s : Nat) : Int)) = some es0.length := by
    rw [Go.WideElems.findIdx_arr]
    exact Go.WideElems.findIdx_born h2.2.1 hj
  have hmod : (es.modify es0.length fun e => { e with val := v }).toList = es0 ++ [⟨kv a, v, s⟩] := by
    rw [Array.toList_modify, h3, Go.WideElems.modify_last]
  refine op_runS (w' := { w with heap := w.heap.setIfInBounds b (.map (es.modify es0.length fun e => { e with val := v }) cl) }) ?_ hg (h _ ⟨_, _, hsame _, stamped_modify h2 _ _ (fun _ _ => rfl) (fun _ _ _ => rfl), ?_⟩ (hkeep _) (by simp))
  · simp only [execOp, hx, hy, hu, Instr.entryStore, Sem.run_bind, hget, Result.andThen_ok, Sem.run_pure, asInt, asIntOf, hf, hset]
  · rw [hmod, List.map_append, List.map_append, h4]; rfl
end
end Go.Proofs.YtkmciohghhffnaaGreat.B
