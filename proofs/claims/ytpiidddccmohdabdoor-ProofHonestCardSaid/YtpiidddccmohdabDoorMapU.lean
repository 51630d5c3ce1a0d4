/-
  Maps with bytes for keys.
-/
import Derived.Test.YtpiidddccmohdabDoorMBase
namespace Go.Proofs.YtpiidddccmohdabDoor.B
open Go
set_option linter.unusedVariables false
/-- Where a key stands among entries, and its value. -/
def findU : List MapEntry → Int → Option (Nat × Value)
  | [], _ => none
  | e :: es, k => match e.key with
    | .int _ j => if k = j then some (0, e.val) else (findU es k).map fun x => (x.1 + 1, x.2)
    | _ => none
def keysU (es : List MapEntry) : Prop := ∀ e ∈ es, ∃ j, e.key = .int .u8 j
theorem findNow_U (k : Int) : ∀ (es : List MapEntry) (i : Nat), keysU es → Instr.findNow (.int .u8) (.int .u8 k) es i = some ((findU es k).map fun x => (i + x.1, x.2))
  | [], i, _ => rfl
  | e :: es, i, h => by
    obtain ⟨j, hj⟩ := h e (by simp)
    have ih := findNow_U k es (i + 1) (fun e he => h e (by simp [he]))
    unfold Instr.findNow findU
    rw [hj]
    simp only [Instr.sameNow, if_true]
    by_cases hk : k = j
    · subst hk; simp
    · have : (k == j) = false := by simp [hk]
      simp only [this, hk, if_false]
      rw [ih]
      cases findU es k with
      | none => rfl
      | some x => simp; omega
theorem findU_lt : ∀ (es : List MapEntry) (k : Int) (i : Nat) (v : Value), findU es k = some (i, v) → ∃ e, es[i]? = some e ∧ e.val = v
  | [], _, _, _, h => by cases h
  | e :: es, k, i, v, h => by
    unfold findU at h
    split at h
    · split at h
      · injection h with h; injection h with h1 h2; subst h1; exact ⟨e, rfl, h2⟩
      · cases hf : findU es k with
        | none => rw [hf] at h; cases h
        | some x =>
          rw [hf] at h; injection h with h; injection h with h1 h2
          subst h1
          obtain ⟨e', h3, h4⟩ := findU_lt es k x.1 x.2 hf
          exact ⟨e', h3, h4.trans h2⟩
    · cases h
theorem findU_key : ∀ (es : List MapEntry), keysU es → ∀ (k : Int) (i : Nat) (v : Value), findU es k = some (i, v) → ∃ e, es[i]? = some e ∧ e.key = .int .u8 k
  | [], _, _, _, _, h => by cases h
  | e :: es, hI, k, i, v, h => by
    obtain ⟨j, hj⟩ := hI e (by simp)
    unfold findU at h
    rw [hj] at h
    simp only at h
    split at h
    · rename_i e1; injection h with h; injection h with h1 h2; subst h1; exact ⟨e, rfl, by rw [hj, e1]⟩
    · cases hf : findU es k with
      | none => rw [hf] at h; cases h
      | some x =>
        rw [hf] at h; injection h with h; injection h with h1 h2
        subst h1
        exact findU_key es (fun e he => hI e (by simp [he])) k x.1 x.2 hf
theorem findU_push : ∀ (es : List MapEntry), keysU es → ∀ (e0 : MapEntry) (k0 k : Int), e0.key = .int .u8 k0 → findU es k0 = none → (findU (es ++ [e0]) k).map (·.2) = if k = k0 then some e0.val else (findU es k).map (·.2)
  | [], _, e0, k0, k, h0, _ => by
    unfold findU findU
    simp only [List.nil_append, h0]
    split <;> simp [findU, *]
  | e :: es, hI, e0, k0, k, h0, hn => by
    obtain ⟨j, hj⟩ := hI e (by simp)
    unfold findU at hn
    rw [hj] at hn
    simp only at hn
    split at hn
    · cases hn
    · rename_i hne
      have hn' : findU es k0 = none := by cases hf : findU es k0 with | none => rfl | some x => rw [hf] at hn; cases hn
      have ih := findU_push es (fun e he => hI e (by simp [he])) e0 k0 k h0 hn'
      rw [List.cons_append]
      unfold findU
      rw [hj]
      simp only
      by_cases hk : k = j
      · subst hk
        rw [if_pos rfl, if_pos rfl, if_neg (fun h => hne h.symm)]
      · rw [if_neg hk, if_neg hk, Option.map_map, Option.map_map]
        have e1 : ((fun x : Nat × Value => x.2) ∘ fun x : Nat × Value => (x.1 + 1, x.2)) = fun x => x.2 := rfl
        rw [e1]; exact ih
theorem findU_modify : ∀ (es : List MapEntry), keysU es → ∀ (k0 k : Int) (i : Nat) (v0 v : Value), findU es k0 = some (i, v0) → (findU (es.modify i fun e => { e with key := .int .u8 k0, val := v }) k).map (·.2) = if k = k0 then some v else (findU es k).map (·.2)
  | [], _, _, _, _, _, _, h => by cases h
  | e :: es, hI, k0, k, i, v0, v, h => by
    obtain ⟨j, hj⟩ := hI e (by simp)
    unfold findU at h
    rw [hj] at h
    simp only at h
    split at h
    · rename_i e1
      injection h with h; injection h with h1 h2; subst h1
      subst e1
      simp only [List.modify_zero_cons]
      unfold findU
      rw [hj]
      simp only
      by_cases hk : k = k0
      · rw [if_pos hk, if_pos hk]; rfl
      · rw [if_neg hk, if_neg hk, if_neg hk]
    · rename_i hne
      cases hf : findU es k0 with
      | none => rw [hf] at h; cases h
      | some x =>
        rw [hf] at h; injection h with h; injection h with h1 h2
        subst h1
        have ih := findU_modify es (fun e he => hI e (by simp [he])) k0 k x.1 x.2 v hf
        rw [List.modify_succ_cons]
        unfold findU
        rw [hj]
        simp only
        by_cases hk : k = j
        · subst hk
          rw [if_pos rfl, if_pos rfl, if_neg (fun h => hne h.symm)]
        · rw [if_neg hk, if_neg hk, Option.map_map, Option.map_map]
          have e1 : ((fun x : Nat × Value => x.2) ∘ fun x : Nat × Value => (x.1 + 1, x.2)) = fun x => x.2 := rfl
          rw [e1]; exact ih
/-- A map from bytes in memory. -/
def MapU (w : World) (b : Nat) (g : Int → Option Value) : Prop := ∃ es clock, w.heap[b]? = some (.map es clock) ∧ keysU es.toList ∧ ∀ k, (findU es.toList k).map (·.2) = g k
theorem MapU.keep {w w' : World} {b : Nat} {g : Int → Option Value} {A : Nat → Prop} (h : MapU w b g) (hk : Keep A w w') (hA : A b) : MapU w' b g := by
  obtain ⟨es, cl, h1, h2⟩ := h; exact ⟨es, cl, hk.get h1 hA, h2⟩
section
variable {f0 : Bool} {c0 : Ctx} {P : Program} {n : Nat} {ops : Array Oper} {F : Fr} {w : World} {K : Fr → World → Prop} {rest : List Oper} {dst : Option Tmp} {ty : TypeId} {pos : String} {after : Array Edge} {g : Option (Nat × Bool)}
theorem run_checkKey_intU {k : TypeId} {e : Bool} {q : IntKind} {i : Int} (hk : P.underlying k = some (.int q)) : (Instr.checkKey e 10000 k (.int q i)).run P w = .ok () w := by
  rw [show (10000 : Nat) = 9999 + 1 from rfl, Instr.checkKey]
  simp [run_underlying hk]
theorem o_makeMapU {t : TypeId} (hg : wantedF ops F ⟨dst, .makeMap t none, ty, pos, after, g⟩ = true)
    (h : ∀ w' b, b = w.heap.size → MapU w' b (fun _ => none) → Keep All w w' → w'.heap.size = b + 1 → OpsW f0 c0 P n ops rest (updo n F dst (.map (some b))) w' K) : OpsW f0 c0 P n ops (⟨dst, .makeMap t none, ty, pos, after, g⟩ :: rest) F w K := by
  refine op_run0 (v := .map (some w.heap.size)) (w' := w.alloc (.map #[] 0)) ?_ hg (h _ _ rfl ⟨#[], 0, heap_alloc_new w _, (fun e he => absurd he (by simp)), fun _ => rfl⟩ (Keep.alloc w _) (size_alloc w _))
  unfold Run1; simp [execOp, Instr.makeMap]
theorem r_lookupU {x y : Operand} {t k e : TypeId} {b : Nat} {i : Int} {z : Value} {sz by_ : Nat} {f : Int → Option Value} (hx : ev F x = .map (some b)) (hy : ev F y = .int .u8 i) (ht : P.underlying t = some (.map k e)) (hk : P.underlying k = some (.int .u8)) (hi : tinfo P e = some (some z, sz, by_)) (hm : MapU w b f) :
    Run1 P F ⟨dst, .lookup t x y false, ty, pos, after, g⟩ w ((f i).getD z) w := by
  obtain ⟨es, cl, h1, h2, h3⟩ := hm
  have h4 := findNow_U i es.toList 0 h2
  have hget : (getObj b).run P w = .ok (.map es cl) w := by simp [getObj, Sem.run, h1]
  unfold Run1
  simp only [execOp, hx, hy, Instr.lookup, Sem.run_bind, run_underlying ht, hget, Result.andThen_ok, Sem.run_pure, run_checkKey_intU hk, run_underlying hk, Instr.findKey, h4]
  rw [← h3 i]
  cases findU es.toList i with
  | none => simp [run_zero_t hi]
  | some x => simp
theorem r_lookupUok {x y : Operand} {t k e : TypeId} {b : Nat} {i : Int} {z : Value} {sz by_ : Nat} {f : Int → Option Value} (hx : ev F x = .map (some b)) (hy : ev F y = .int .u8 i) (ht : P.underlying t = some (.map k e)) (hk : P.underlying k = some (.int .u8)) (hi : tinfo P e = some (some z, sz, by_)) (hm : MapU w b f) :
    Run1 P F ⟨dst, .lookup t x y true, ty, pos, after, g⟩ w (.tuple #[(f i).getD z, .bool (f i).isSome]) w := by
  obtain ⟨es, cl, h1, h2, h3⟩ := hm
  have h4 := findNow_U i es.toList 0 h2
  have hget : (getObj b).run P w = .ok (.map es cl) w := by simp [getObj, Sem.run, h1]
  unfold Run1
  simp only [execOp, hx, hy, Instr.lookup, Sem.run_bind, run_underlying ht, hget, Result.andThen_ok, Sem.run_pure, run_checkKey_intU hk, run_underlying hk, Instr.findKey, h4]
  rw [← h3 i]
  cases findU es.toList i with
  | none => simp [run_zero_t hi]
  | some x => simp
theorem o_mapUpdU {x y u : Operand} {t k e : TypeId} {b : Nat} {i : Int} {v : Value} {f : Int → Option Value} (hx : ev F x = .map (some b)) (hy : ev F y = .int .u8 i) (hu : ev F u = v) (ht : P.underlying t = some (.map k e)) (hk : P.underlying k = some (.int .u8)) (hm : MapU w b f)
    (hg : wantedF ops F ⟨dst, .mapUpdate t x y u, ty, pos, after, g⟩ = true)
    (h : ∀ w', MapU w' b (fun j => if j = i then some v else f j) → Keep (· ≠ b) w w' → w'.heap.size = w.heap.size → OpsW f0 c0 P n ops rest (updo n F dst undef) w' K) : OpsW f0 c0 P n ops (⟨dst, .mapUpdate t x y u, ty, pos, after, g⟩ :: rest) F w K := by
  obtain ⟨es, cl, h1, h2, h3⟩ := hm
  have h4 := findNow_U i es.toList 0 h2
  have hget : (getObj b).run P w = .ok (.map es cl) w := by simp [getObj, Sem.run, h1]
  have hlt : b < w.heap.size := lt_of_get h1
  have hset : ∀ o : Obj, (setObj b o).run P w = .ok () { w with heap := w.heap.setIfInBounds b o } := fun o => by simp [setObj, Sem.run, h1]
  have hkeep : ∀ o : Obj, Keep (· ≠ b) w { w with heap := w.heap.setIfInBounds b o } := fun o => ⟨rfl, rfl, rfl, by simp, fun k _ hk => by simp [Array.getElem?_setIfInBounds_ne (Ne.symm hk)]⟩
  have hsame : ∀ o : Obj, ({ w with heap := w.heap.setIfInBounds b o } : World).heap[b]? = some o := fun o => by simp [hlt]
  cases hf : findU es.toList i with
  | none =>
    rw [hf] at h4
    refine op_runS (w' := { w with heap := w.heap.setIfInBounds b (.map (es.push { key := .int .u8 i, val := v, born := cl }) (cl + 1)) }) ?_ hg (h _ ⟨_, _, hsame _, ?_, ?_⟩ (hkeep _) (by simp))
    · simp only [execOp, hx, hy, hu, Instr.mapUpdate, Sem.run_bind, run_underlying ht, hget, Result.andThen_ok, Sem.run_pure, run_checkKey_intU hk, run_underlying hk, Instr.findKey, h4, Option.map_none, hset]
    · intro e he
      rw [Array.toList_push, List.mem_append, List.mem_singleton] at he
      rcases he with he | rfl
      · exact h2 e he
      · exact ⟨i, rfl⟩
    · intro j
      rw [Array.toList_push, findU_push es.toList h2 _ i j rfl hf, h3 j]
  | some x =>
    obtain ⟨ix, v0⟩ := x
    rw [hf] at h4
    obtain ⟨e0, he0, hke⟩ := findU_key es.toList h2 i ix v0 hf
    refine op_runS (w' := { w with heap := w.heap.setIfInBounds b (.map (es.modify ix fun e => { e with key := .int .u8 i, val := v }) cl) }) ?_ hg (h _ ⟨_, _, hsame _, ?_, ?_⟩ (hkeep _) (by simp))
    · have he0' : es[ix]? = some e0 := by rw [← Array.getElem?_toList]; exact he0
      have hsb : Instr.sameBits 10000 (.int .u8 i) (.int .u8 i) = true := by rw [show (10000 : Nat) = 9999 + 1 from rfl, Instr.sameBits]; simp
      simp only [execOp, hx, hy, hu, Instr.mapUpdate, Sem.run_bind, run_underlying ht, hget, Result.andThen_ok, Sem.run_pure, run_checkKey_intU hk, run_underlying hk, Instr.findKey, h4, Option.map_some, Nat.zero_add, he0', hke, Option.getD_some, Instr.keyThatStays, hsb, if_true, hset]
    · intro e he
      rw [Array.toList_modify] at he
      obtain ⟨q, hq⟩ := List.mem_iff_getElem?.1 he
      rw [List.getElem?_modify] at hq
      cases hl : es.toList[q]? with
      | none => rw [hl] at hq; cases hq
      | some e1 =>
        rw [hl] at hq
        have hq : (if ix = q then { e1 with key := .int .u8 i, val := v } else e1) = e := by simpa using hq
        subst hq
        split
        · exact ⟨i, rfl⟩
        · exact h2 e1 (List.mem_of_getElem? hl)
    · intro j
      rw [Array.toList_modify, findU_modify es.toList h2 i j ix v0 v hf, h3 j]
end
end Go.Proofs.YtpiidddccmohdabDoor.B
