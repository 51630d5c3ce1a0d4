/-
  Maps with any keys, as rows of keys and values.
-/
import Derived.Test.YtkmciohghhffnaaMBase
import Derived.MapKept
import Derived.Maps.RangeRun
namespace Go.Proofs.Ytkmciohghhffnaa.B
open Go
open Go.ChangeMaps (setBlock)
open Go.MapKept
set_option linter.unusedSectionVars false
set_option linter.unusedVariables false
/-- Keys of a kind: what the map's operations ask of them. -/
structure KeyOk {α : Type} (P : Program) (kt : TypeId) (kv : α → Value) : Prop where
  inj : ∀ a b, kv a = kv b → a = b
  check : ∀ (a : α) (em : Bool) (w : World), (Instr.checkKey em 10000 kt (kv a)).run P w = .ok () w
  find : ∀ (a : α) (es : List MapEntry) (w : World), (∀ e ∈ es, ∃ b, e.key = kv b) → ∃ o, (Instr.findKey kt (kv a) es).run P w = .ok o w ∧ ((o = none ∧ ∀ x ∈ es, x.key ≠ kv a) ∨ ∃ j e, o = some (j, e.val) ∧ es[j]? = some e ∧ e.key = kv a)
  bits : ∀ a, Instr.sameBits 10000 (kv a) (kv a) = true
theorem keyOk_plain {α : Type} {P : Program} {kt : TypeId} {kv : α → Value} {d : TypeDesc} (hd : P.underlying kt = some d) (hk : ∀ a, IsKey d (kv a)) (inj : ∀ a b, kv a = kv b → a = b) (bits : ∀ a, Instr.sameBits 10000 (kv a) (kv a) = true) : KeyOk P kt kv := by
  refine ⟨inj, fun a em w => run_checkKey hd (hk a) em 9999, fun a es w h => ?_, bits⟩
  rcases findNow_spec (hk a) es 0 (fun x hx => by obtain ⟨b, e⟩ := h x hx; rw [e]; exact hk b) with ⟨h1, h2⟩ | ⟨j, e, h1, h2, h3⟩
  · exact ⟨none, run_findKey hd h1, .inl ⟨rfl, h2⟩⟩
  · exact ⟨_, run_findKey hd h1, .inr ⟨j, e, by rw [Nat.zero_add], h2, h3⟩⟩
def strK (b : ByteArray) : Value := .string b
theorem keyOk_str {P : Program} {kt : TypeId} (hd : P.underlying kt = some .string) : KeyOk P kt strK := keyOk_plain hd (fun _ => trivial) (fun a b e => by injection e) (fun a => by
  show Instr.sameBits (9999 + 1) (.string a) (.string a) = true
  unfold Instr.sameBits; exact (bytes_beq a a).2 rfl)
def intK (i : Int) : Value := .int .i64 i
theorem keyOk_int {P : Program} {kt : TypeId} (hd : P.underlying kt = some (.int .i64)) : KeyOk P kt intK := keyOk_plain hd (fun _ => rfl) (fun a b e => by injection e) (fun a => by
  show Instr.sameBits (9999 + 1) (.int .i64 a) (.int .i64 a) = true
  unfold Instr.sameBits; simp)
section
variable {α : Type} [DecidableEq α]
def getA : List (α × Value) → α → Option Value
  | [], _ => none
  | x :: l, k => if x.1 = k then some x.2 else getA l k
def setA (l : List (α × Value)) (k : α) (v : Value) : List (α × Value) := if (getA l k).isSome = true then l.map (fun x => if x.1 = k then (k, v) else x) else l ++ [(k, v)]
theorem getA_none : ∀ {l : List (α × Value)} {k : α}, (∀ x ∈ l, x.1 ≠ k) → getA l k = none
  | [], _, _ => rfl
  | x :: l, k, h => by
    unfold getA
    rw [if_neg (h x (List.mem_cons_self ..))]
    exact getA_none fun y hy => h y (List.mem_cons_of_mem _ hy)
theorem getA_mem : ∀ {l : List (α × Value)} {x : α × Value}, (l.map (·.1)).Nodup → x ∈ l → getA l x.1 = some x.2
  | y :: l, x, hn, hx => by
    obtain ⟨h1, h2⟩ := List.nodup_cons.1 (show (y.1 :: l.map (·.1)).Nodup from hn)
    unfold getA
    rcases List.mem_cons.1 hx with rfl | hx
    · exact if_pos rfl
    · rw [if_neg (fun e => h1 (by rw [e]; exact List.mem_map.2 ⟨x, hx, rfl⟩))]
      exact getA_mem h2 hx
theorem getA_set (l : List (α × Value)) (k : α) (v : Value) (j : α) : getA (setA l k v) j = if j = k then some v else getA l j := by
  unfold setA
  by_cases hs : (getA l k).isSome = true
  · rw [if_pos hs]
    induction l with
    | nil => cases hs
    | cons x l ih =>
      by_cases hx : x.1 = k
      · rw [List.map_cons, if_pos hx]
        unfold getA
        by_cases hj : j = k
        · rw [if_pos hj, if_pos hj.symm]
        · rw [if_neg hj, if_neg (fun e => hj e.symm), if_neg (fun e => hj (by rw [← e, hx]))]
          clear ih hs
          induction l with
          | nil => rfl
          | cons y l ih =>
            rw [List.map_cons]
            unfold getA
            by_cases hy : y.1 = k
            · rw [if_pos hy, if_neg (fun e => hj e.symm), if_neg (fun e => hj (by rw [← e, hy]))]; exact ih
            · rw [if_neg hy]
              by_cases hyj : y.1 = j
              · rw [if_pos hyj, if_pos hyj]
              · rw [if_neg hyj, if_neg hyj]; exact ih
      · rw [List.map_cons, if_neg hx]
        have hs2 : (getA l k).isSome = true := by unfold getA at hs; rwa [if_neg hx] at hs
        unfold getA
        by_cases hxj : x.1 = j
        · rw [if_pos hxj, if_neg (fun e => hx (by rw [hxj, e])), if_pos hxj]
        · rw [if_neg hxj, if_neg hxj]; exact ih hs2
  · rw [if_neg hs]
    induction l with
    | nil =>
      show (if k = j then some v else none) = _
      by_cases hj : j = k
      · rw [if_pos hj, if_pos hj.symm]
      · rw [if_neg hj, if_neg (fun e => hj e.symm)]; rfl
    | cons x l ih =>
      have hx : x.1 ≠ k := fun e => hs (by unfold getA; rw [if_pos e]; rfl)
      have hs2 : ¬ (getA l k).isSome = true := by unfold getA at hs; rwa [if_neg hx] at hs
      rw [List.cons_append]
      unfold getA
      by_cases hxj : x.1 = j
      · rw [if_pos hxj, if_neg (fun e => hx (by rw [hxj, e])), if_pos hxj]
      · rw [if_neg hxj, if_neg hxj]; exact ih hs2
/-- A map in memory. -/
def MapG (kv : α → Value) (w : World) (b : Nat) (l : List (α × Value)) : Prop := ∃ es clock, w.heap[b]? = some (.map es clock) ∧ Stamped es clock ∧ es.toList.map (fun e => (e.key, e.val)) = l.map (fun x => (kv x.1, x.2))
theorem MapG.keep {kv : α → Value} {w w' : World} {b : Nat} {l : List (α × Value)} {A : Nat → Prop} (h : MapG kv w b l) (hk : Keep A w w') (hA : A b) : MapG kv w' b l := by
  obtain ⟨es, cl, h1, h2⟩ := h; exact ⟨es, cl, hk.get h1 hA, h2⟩
theorem MapG.lt {kv : α → Value} {w : World} {b : Nat} {l : List (α × Value)} (h : MapG kv w b l) : b < w.heap.size := by
  obtain ⟨es, cl, h1, _⟩ := h; exact lt_of_get h1
theorem ents_get {kv : α → Value} {es : List MapEntry} {l : List (α × Value)} (h : es.map (fun e => (e.key, e.val)) = l.map (fun x => (kv x.1, x.2))) (i : Nat) : (es[i]?).map (fun e => (e.key, e.val)) = (l[i]?).map (fun x => (kv x.1, x.2)) := by
  have := congrArg (fun m => m[i]?) h
  simpa using this
theorem ents_key {kv : α → Value} {es : List MapEntry} {l : List (α × Value)} (h : es.map (fun e => (e.key, e.val)) = l.map (fun x => (kv x.1, x.2))) : ∀ e ∈ es, ∃ b, e.key = kv b := fun e he => by
  have : (e.key, e.val) ∈ l.map (fun x => (kv x.1, x.2)) := by rw [← h]; exact List.mem_map.2 ⟨e, he, rfl⟩
  obtain ⟨x, _, hx⟩ := List.mem_map.1 this
  exact ⟨x.1, (congrArg Prod.fst hx).symm⟩
theorem ents_keys {kv : α → Value} {es : List MapEntry} {l : List (α × Value)} (h : es.map (fun e => (e.key, e.val)) = l.map (fun x => (kv x.1, x.2))) : es.map (·.key) = (l.map (·.1)).map kv := by
  have := congrArg (List.map Prod.fst) h
  simpa [List.map_map, Function.comp_def] using this
theorem ents_nodup {kv : α → Value} {es : Array MapEntry} {clock : Nat} {l : List (α × Value)} (hst : Stamped es clock) (h : es.toList.map (fun e => (e.key, e.val)) = l.map (fun x => (kv x.1, x.2))) : (l.map (·.1)).Nodup := by
  have h1 := ((stamped_iff es clock).1 hst).2.2
  have h2 : (es.toList.map (·.key)).Nodup := by
    unfold List.Nodup
    rw [List.pairwise_map]; exact h1
  rw [ents_keys h] at h2
  exact List.Pairwise.of_map kv (fun a b hne e => hne (by rw [e])) h2
theorem MapG.nodup {kv : α → Value} {w : World} {b : Nat} {l : List (α × Value)} (h : MapG kv w b l) : (l.map (·.1)).Nodup := by
  obtain ⟨es, cl, _, h2, h3⟩ := h; exact ents_nodup h2 h3
theorem MapG.find {P : Program} {kt : TypeId} {kv : α → Value} (hK : KeyOk P kt kv) {es : Array MapEntry} {clock : Nat} {l : List (α × Value)} (hst : Stamped es clock) (h : es.toList.map (fun e => (e.key, e.val)) = l.map (fun x => (kv x.1, x.2))) (a : α) (w : World) :
    ((Instr.findKey kt (kv a) es.toList).run P w = .ok none w ∧ getA l a = none ∧ ∀ x ∈ es.toList, x.key ≠ kv a) ∨
    ∃ j e, (Instr.findKey kt (kv a) es.toList).run P w = .ok (some (j, e.val)) w ∧ es.toList[j]? = some e ∧ e.key = kv a ∧ l[j]? = some (a, e.val) ∧ getA l a = some e.val := by
  obtain ⟨o, h1, h2⟩ := hK.find a es.toList w (ents_key h)
  rcases h2 with ⟨rfl, h2⟩ | ⟨j, e, rfl, h2, h3⟩
  · refine .inl ⟨h1, getA_none fun x hx hxa => ?_, h2⟩
    have : (kv x.1, x.2) ∈ es.toList.map (fun e => (e.key, e.val)) := by rw [h]; exact List.mem_map.2 ⟨x, hx, rfl⟩
    obtain ⟨e, he, ee⟩ := List.mem_map.1 this
    exact h2 e he (by rw [← hxa]; exact congrArg Prod.fst ee)
  · have hg := ents_get h j
    rw [h2] at hg
    cases hl : l[j]? with
    | none => rw [hl] at hg; cases hg
    | some x =>
      rw [hl] at hg
      have hg : (e.key, e.val) = (kv x.1, x.2) := Option.some.inj hg
      have hx : x = (a, e.val) := Prod.ext (hK.inj _ _ (show kv x.1 = kv a by exact (congrArg Prod.fst hg).symm.trans h3)) (congrArg Prod.snd hg).symm
      have hmem := List.mem_of_getElem? hl
      have := getA_mem (ents_nodup hst h) hmem
      rw [hx] at this
      exact .inr ⟨j, e, h1, h2, h3, by rw [hl, hx], this⟩
theorem nodup_at : ∀ {l : List (α × Value)} {i j : Nat} {x y : α × Value}, (l.map (·.1)).Nodup → l[i]? = some x → l[j]? = some y → x.1 = y.1 → i = j := by
  intro l i j x y hn hi hj he
  have h1 : (l.map (·.1))[i]? = some x.1 := by rw [List.getElem?_map, hi]; rfl
  have h2 : (l.map (·.1))[j]? = some y.1 := by rw [List.getElem?_map, hj]; rfl
  have hlt := (List.getElem?_eq_some_iff.1 h1).1
  exact (List.getElem?_inj hlt hn).1 (by rw [h1, h2, he])
end
section
variable {α : Type} [DecidableEq α] {kv : α → Value} {f0 : Bool} {c0 : Ctx} {P : Program} {n : Nat} {ops : Array Oper} {F : Fr} {w : World} {K : Fr → World → Prop} {rest : List Oper} {dst : Option Tmp} {ty : TypeId} {pos : String} {after : Array Edge} {g : Option (Nat × Bool)}
theorem o_makeMapG (kv : α → Value) {t : TypeId} (hg : wantedF ops F ⟨dst, .makeMap t none, ty, pos, after, g⟩ = true)
    (h : ∀ w' b, b = w.heap.size → MapG kv w' b [] → Keep All w w' → w'.heap.size = b + 1 → OpsW f0 c0 P n ops rest (updo n F dst (.map (some b))) w' K) : OpsW f0 c0 P n ops (⟨dst, .makeMap t none, ty, pos, after, g⟩ :: rest) F w K := by
  refine op_run0 (v := .map (some w.heap.size)) (w' := w.alloc (.map #[] 0)) ?_ hg (h _ _ rfl ⟨#[], 0, heap_alloc_new w _, stamped_empty 0, rfl⟩ (Keep.alloc w _) (size_alloc w _))
  unfold Run1; simp [execOp, Instr.makeMap]
theorem r_lookupG {x y : Operand} {t k e : TypeId} {b : Nat} {a : α} {z : Value} {sz by_ : Nat} {l : List (α × Value)} (hK : KeyOk P k kv) (hx : ev F x = .map (some b)) (hy : ev F y = kv a) (ht : P.underlying t = some (.map k e)) (hi : tinfo P e = some (some z, sz, by_)) (hm : MapG kv w b l) :
    Run1 P F ⟨dst, .lookup t x y false, ty, pos, after, g⟩ w ((getA l a).getD z) w := by
  obtain ⟨es, cl, h1, h2, h3⟩ := hm
  have hget : (getObj b).run P w = .ok (.map es cl) w := by simp [getObj, Sem.run, h1]
  unfold Run1
  rcases MapG.find hK h2 h3 a w with ⟨h4, h5, _⟩ | ⟨j, e', h4, _, _, _, h5⟩
  · simp only [execOp, hx, hy, Instr.lookup, Sem.run_bind, run_underlying ht, hget, Result.andThen_ok, Sem.run_pure, hK.check, h4, h5]
    simp [run_zero_t hi]
  · simp only [execOp, hx, hy, Instr.lookup, Sem.run_bind, run_underlying ht, hget, Result.andThen_ok, Sem.run_pure, hK.check, h4, h5]
    simp
theorem r_lookupGok {x y : Operand} {t k e : TypeId} {b : Nat} {a : α} {z : Value} {sz by_ : Nat} {l : List (α × Value)} (hK : KeyOk P k kv) (hx : ev F x = .map (some b)) (hy : ev F y = kv a) (ht : P.underlying t = some (.map k e)) (hi : tinfo P e = some (some z, sz, by_)) (hm : MapG kv w b l) :
    Run1 P F ⟨dst, .lookup t x y true, ty, pos, after, g⟩ w (.tuple #[(getA l a).getD z, .bool (getA l a).isSome]) w := by
  obtain ⟨es, cl, h1, h2, h3⟩ := hm
  have hget : (getObj b).run P w = .ok (.map es cl) w := by simp [getObj, Sem.run, h1]
  unfold Run1
  rcases MapG.find hK h2 h3 a w with ⟨h4, h5, _⟩ | ⟨j, e', h4, _, _, _, h5⟩
  · simp only [execOp, hx, hy, Instr.lookup, Sem.run_bind, run_underlying ht, hget, Result.andThen_ok, Sem.run_pure, hK.check, h4, h5]
    simp [run_zero_t hi]
  · simp only [execOp, hx, hy, Instr.lookup, Sem.run_bind, run_underlying ht, hget, Result.andThen_ok, Sem.run_pure, hK.check, h4, h5]
    simp
theorem o_mapUpdG {x y u : Operand} {t k e : TypeId} {b : Nat} {a : α} {v : Value} {l : List (α × Value)} (hK : KeyOk P k kv) (hx : ev F x = .map (some b)) (hy : ev F y = kv a) (hu : ev F u = v) (ht : P.underlying t = some (.map k e)) (hm : MapG kv w b l)
    (hg : wantedF ops F ⟨dst, .mapUpdate t x y u, ty, pos, after, g⟩ = true)
    (h : ∀ w', MapG kv w' b (setA l a v) → Keep (· ≠ b) w w' → w'.heap.size = w.heap.size → OpsW f0 c0 P n ops rest (updo n F dst undef) w' K) : OpsW f0 c0 P n ops (⟨dst, .mapUpdate t x y u, ty, pos, after, g⟩ :: rest) F w K := by
  obtain ⟨es, cl, h1, h2, h3⟩ := hm
  have hget : (getObj b).run P w = .ok (.map es cl) w := by simp [getObj, Sem.run, h1]
  have hlt : b < w.heap.size := lt_of_get h1
  have hset : ∀ o : Obj, (setObj b o).run P w = .ok () { w with heap := w.heap.setIfInBounds b o } := fun o => by simp [setObj, Sem.run, h1]
  have hkeep : ∀ o : Obj, Keep (· ≠ b) w { w with heap := w.heap.setIfInBounds b o } := fun o => ⟨rfl, rfl, rfl, by simp, fun k _ hk => by simp [Array.getElem?_setIfInBounds_ne (Ne.symm hk)]⟩
  have hsame : ∀ o : Obj, ({ w with heap := w.heap.setIfInBounds b o } : World).heap[b]? = some o := fun o => by simp [hlt]
  rcases MapG.find hK h2 h3 a w with ⟨h4, h5, h6⟩ | ⟨j, e0, h4, h6, h7, h8, h5⟩
  · refine op_runS (w' := { w with heap := w.heap.setIfInBounds b (.map (es.push { key := kv a, val := v, born := cl }) (cl + 1)) }) ?_ hg (h _ ⟨_, _, hsame _, stamped_push h2 h6, ?_⟩ (hkeep _) (by simp))
    · simp only [execOp, hx, hy, hu, Instr.mapUpdate, Sem.run_bind, run_underlying ht, hget, Result.andThen_ok, Sem.run_pure, hK.check, h4, hset]
    · unfold setA
      rw [h5, if_neg (by simp), Array.toList_push, List.map_append, h3, List.map_append]; rfl
  · have he0' : es[j]? = some e0 := by rw [← Array.getElem?_toList]; exact h6
    refine op_runS (w' := { w with heap := w.heap.setIfInBounds b (.map (es.modify j fun e => { e with key := kv a, val := v }) cl) }) ?_ hg (h _ ⟨_, _, hsame _, ?_, ?_⟩ (hkeep _) (by simp))
    · simp only [execOp, hx, hy, hu, Instr.mapUpdate, Sem.run_bind, run_underlying ht, hget, Result.andThen_ok, Sem.run_pure, hK.check, h4, he0', h7, Option.map_some, Option.getD_some, Instr.keyThatStays, hK.bits, if_true, hset]
    · exact stamped_modify h2 j _ (fun _ _ => rfl) (fun e _ he => by rw [he0'] at he; injection he with he; rw [← he, h7])
    · unfold setA
      rw [h5, if_pos (show (some e0.val).isSome = true from rfl), Array.toList_modify]
      apply List.ext_getElem?
      intro i
      have hg2 := ents_get h3 i
      rw [List.getElem?_map, List.getElem?_modify, List.getElem?_map, List.getElem?_map]
      cases hi : l[i]? with
      | none =>
        rw [hi] at hg2
        cases hei : es.toList[i]? with
        | none => rfl
        | some e1 => rw [hei] at hg2; cases hg2
      | some x =>
        rw [hi] at hg2
        cases hei : es.toList[i]? with
        | none => rw [hei] at hg2; cases hg2
        | some e1 =>
          rw [hei] at hg2
          have hg2 : (e1.key, e1.val) = (kv x.1, x.2) := Option.some.inj hg2
          by_cases hij : j = i
          · subst hij
            rw [h8] at hi; injection hi with hi; subst hi
            simp
          · have hxa : x.1 ≠ a := fun e => hij (nodup_at (ents_nodup h2 h3) h8 hi e.symm)
            simp only [Option.map_some, hij, if_false, hxa]
            simpa using hg2
/-- len of a map. -/
theorem r_lenMapG {x : Operand} {t k e : TypeId} {b : Nat} {l : List (α × Value)} (hx : ev F x = .map (some b)) (ht : P.underlying t = some (.map k e)) (hm : MapG kv w b l) :
    Run1 P F ⟨dst, .call ⟨.builtin .len, #[x], #[t]⟩, ty, pos, after, g⟩ w (.int .i64 l.length) w := by
  obtain ⟨es, cl, h1, h2, h3⟩ := hm
  have hget : (getObj b).run P w = .ok (.map es cl) w := by simp [getObj, Sem.run, h1]
  have hl : es.size = l.length := by have := congrArg List.length h3; simpa using this
  unfold Run1
  simp [execOp, resolve, invoke, builtin, hx, Builtin.len_, run_underlying ht, hget, hl, goInt]
/-- An iterator over a map: what is still to come. -/
def IterG (kv : α → Value) (w : World) (r b : Nat) (l rem : List (α × Value)) : Prop := ∃ es clock seen, r ≠ b ∧ w.heap[b]? = some (.map es clock) ∧ w.heap[r]? = some (.mapIter (some b) clock seen clock) ∧ Stamped es clock ∧ es.toList.map (fun e => (e.key, e.val)) = l.map (fun x => (kv x.1, x.2)) ∧
  (es.toList.filter fun e => !seen.contains e.born).map (fun e => (e.key, e.val)) = rem.map (fun x => (kv x.1, x.2))
/-- The entry that the iterator stands at. -/
def AtG (w : World) (r b : Nat) (k v : Value) : Prop := ∃ es clock seen e, w.heap[b]? = some (.map es clock) ∧ w.heap[r]? = some (.mapIter (some b) clock (Array.push seen e.born) clock) ∧ e ∈ es.toList ∧ (es.toList.map (·.born)).Nodup ∧ e.key = k ∧ e.val = v
theorem IterG.keep {w w' : World} {r b : Nat} {l rem : List (α × Value)} {A : Nat → Prop} (h : IterG kv w r b l rem) (hk : Keep A w w') (hb : A b) (hr : A r) : IterG kv w' r b l rem := by
  obtain ⟨es, cl, seen, h0, h1, h2, h3⟩ := h; exact ⟨es, cl, seen, h0, hk.get h1 hb, hk.get h2 hr, h3⟩
theorem o_rangeG {x : Operand} {t k e : TypeId} {b : Nat} {l : List (α × Value)} (hx : ev F x = .map (some b)) (ht : P.underlying t = some (.map k e)) (hm : MapG kv w b l)
    (hg : wantedF ops F ⟨dst, .range t x, ty, pos, after, g⟩ = true)
    (h : ∀ w' r, r = w.heap.size → IterG kv w' r b l l → Keep All w w' → w'.heap.size = r + 1 → OpsW f0 c0 P n ops rest (updo n F dst (.pointer (some ⟨r, 0, none⟩))) w' K) : OpsW f0 c0 P n ops (⟨dst, .range t x, ty, pos, after, g⟩ :: rest) F w K := by
  have hlt := hm.lt
  obtain ⟨es, cl, h1, h2, h3⟩ := hm
  have hget : (getObj b).run P w = .ok (.map es cl) w := by simp [getObj, Sem.run, h1]
  refine op_run0 (v := .pointer (some ⟨w.heap.size, 0, none⟩)) (w' := w.alloc (.mapIter (some b) cl #[] cl)) ?_ hg (h _ _ rfl ⟨es, cl, #[], by omega, (Keep.alloc w _).get h1 trivial, heap_alloc_new w _, h2, h3, by rw [List.filter_eq_self.2 (fun e _ => by simp)]; exact h3⟩ (Keep.alloc w _) (size_alloc w _))
  unfold Run1; simp [execOp, hx, Instr.range, run_underlying ht, hget]
theorem map_erase {β γ : Type} (f : β → γ) : ∀ (l : List β) (i : Nat), (l.eraseIdx i).map f = (l.map f).eraseIdx i
  | [], _ => rfl
  | _ :: _, 0 => rfl
  | x :: l, i + 1 => by
    show f x :: (l.eraseIdx i).map f = f x :: (l.map f).eraseIdx i
    rw [map_erase f l i]
theorem filter_erase : ∀ (L : List MapEntry) (i : Nat) (e : MapEntry), (L.map (·.born)).Nodup → L[i]? = some e → L.filter (fun x => !(x.born == e.born)) = L.eraseIdx i
  | [], i, e, _, h => by cases h
  | x :: L, 0, e, hn, h => by
    simp at h; subst h
    obtain ⟨h1, h2⟩ := List.nodup_cons.1 (show (x.born :: L.map (·.born)).Nodup from hn)
    rw [List.filter_cons, if_neg (by simp)]
    show _ = L
    exact List.filter_eq_self.2 fun y hy => by
      have : y.born ≠ x.born := fun e => h1 (by rw [← e]; exact List.mem_map.2 ⟨y, hy, rfl⟩)
      simp [this]
  | x :: L, i + 1, e, hn, h => by
    rw [List.getElem?_cons_succ] at h
    obtain ⟨h1, h2⟩ := List.nodup_cons.1 (show (x.born :: L.map (·.born)).Nodup from hn)
    have : x.born ≠ e.born := fun ee => h1 (by rw [ee]; exact List.mem_map.2 ⟨e, List.mem_of_getElem? h, rfl⟩)
    rw [List.filter_cons, if_pos (by simp [this]), filter_erase L i e h2 h]; rfl
/-- The next entry, whichever it is; or none is left. -/
theorem o_nextG {it : Operand} {r b : Nat} {l rem : List (α × Value)} (hit : ev F it = .pointer (some ⟨r, 0, none⟩)) (hI : IterG kv w r b l rem)
    (hg : wantedF ops F ⟨dst, .next it false, ty, pos, after, g⟩ = true)
    (h0 : rem = [] → OpsW f0 c0 P n ops rest (updo n F dst (.tuple #[.bool false])) w K)
    (h1 : ∀ w' i x, rem[i]? = some x → IterG kv w' r b l (rem.eraseIdx i) → AtG w' r b (kv x.1) x.2 → Keep (· ≠ r) w w' → w'.heap.size = w.heap.size → OpsW f0 c0 P n ops rest (updo n F dst (.tuple #[.bool true, kv x.1, x.2])) w' K) :
    OpsW f0 c0 P n ops (⟨dst, .next it false, ty, pos, after, g⟩ :: rest) F w K := by
  obtain ⟨es, cl, seen, hrb, hb, hr, hst, he, hrem⟩ := hI
  have hs := (stamped_iff es cl).1 hst
  rcases run_next_at (P := P) w ty r b cl cl seen es cl hr hb hs.1 (Nat.le_refl _) with ⟨hz, hrun⟩ | ⟨e, hel, w1, hal, hrun⟩
  · refine op_run0 (v := .tuple #[.bool false]) (w' := w) ?_ hg (h0 ?_)
    · unfold Run1; simp [execOp, hit, hrun]
    · have hl : (es.toList.filter fun e => !seen.contains e.born).length = 0 := by
        have : (leftOf es seen).toList = es.toList.filter fun e => !seen.contains e.born := by unfold leftOf; simp
        rw [← this]; simpa using hz
      have := congrArg List.length hrem
      rw [List.length_map, List.length_map, hl] at this
      exact List.eq_nil_of_length_eq_zero this.symm
  · have hel : e ∈ es.toList.filter fun e => !seen.contains e.born := by
      have : (leftOf es seen).toList = es.toList.filter fun e => !seen.contains e.born := by unfold leftOf; simp
      rwa [this] at hel
    obtain ⟨i, hi⟩ := List.mem_iff_getElem?.1 hel
    have hg2 := ents_get hrem i
    rw [hi] at hg2
    cases hx : rem[i]? with
    | none => rw [hx] at hg2; cases hg2
    | some x =>
      rw [hx] at hg2
      have hg2 : (e.key, e.val) = (kv x.1, x.2) := Option.some.inj hg2
      have hk1 : e.key = kv x.1 := congrArg Prod.fst hg2
      have hk2 : e.val = x.2 := congrArg Prod.snd hg2
      have hr1 : w1.heap = w.heap := by rcases hal with rfl | rfl <;> rfl
      have hlt : r < w.heap.size := lt_of_get hr
      have hset : (setBlock w1 r (.mapIter (some b) cl (seen.push e.born) cl)).heap[r]? = some (.mapIter (some b) cl (seen.push e.born) cl) := by simp [setBlock, hr1, hlt]
      have hbk : (setBlock w1 r (.mapIter (some b) cl (seen.push e.born) cl)).heap[b]? = some (.map es cl) := by simp [setBlock, hr1, Array.getElem?_setIfInBounds_ne hrb, hb]
      have hkeep : Keep (· ≠ r) w (setBlock w1 r (.mapIter (some b) cl (seen.push e.born) cl)) := by
        refine ⟨?_, ?_, ?_, ?_, fun k _ hk => ?_⟩
        · rcases hal with rfl | rfl <;> rfl
        · rcases hal with rfl | rfl <;> rfl
        · rcases hal with rfl | rfl <;> rfl
        · simp [setBlock, hr1]
        · simp [setBlock, hr1, Array.getElem?_setIfInBounds_ne (Ne.symm hk)]
      have hfil : (es.toList.filter fun y => !(seen.push e.born).contains y.born) = (es.toList.filter fun e => !seen.contains e.born).eraseIdx i := by
        rw [← filter_erase _ i e (List.Nodup.sublist (List.Sublist.map _ List.filter_sublist) hs.2.1) hi, List.filter_filter]
        congr 1
        funext y
        rw [Array.contains_push]
        cases seen.contains y.born <;> cases y.born == e.born <;> rfl
      refine op_run0 (v := .tuple #[.bool true, kv x.1, x.2]) (w' := setBlock w1 r (.mapIter (some b) cl (seen.push e.born) cl)) ?_ hg (h1 _ i x hx ⟨es, cl, seen.push e.born, hrb, hbk, hset, hst, he, ?_⟩ ⟨es, cl, seen, e, hbk, hset, (List.mem_filter.1 hel).1, hs.2.1, hk1, hk2⟩ hkeep (by simp [setBlock, hr1]))
      · unfold Run1; simp [execOp, hit, hrun, hk1, hk2]
      · rw [hfil, map_erase, hrem, ← map_erase]
theorem r_entryG {it : Operand} {r b : Nat} {k v : Value} (hit : ev F it = .pointer (some ⟨r, 0, none⟩)) (h : AtG w r b k v) : Run1 P F ⟨dst, .entry it, ty, pos, after, g⟩ w (.tuple #[k, v]) w := by
  obtain ⟨es, cl, seen, e, h1, h2, h3, h4, rfl, rfl⟩ := h
  have := run_entry_at (P := P) w r b cl seen es cl e h2 h1 h3 h4
  unfold Run1; simp [execOp, hit, this]
theorem AtG.keep {w w' : World} {r b : Nat} {k v : Value} {A : Nat → Prop} (h : AtG w r b k v) (hk : Keep A w w') (hb : A b) (hr : A r) : AtG w' r b k v := by
  obtain ⟨es, cl, seen, e, h1, h2, h3⟩ := h; exact ⟨es, cl, seen, e, hk.get h1 hb, hk.get h2 hr, h3⟩
end
def delP {α β : Type} [DecidableEq α] (l : List (α × β)) (k : α) : List (α × β) := l.filter fun x => !decide (x.1 = k)
theorem filter_eraseP {α β : Type} [DecidableEq α] : ∀ (l : List (α × β)) (i : Nat) (x : α × β), (l.map (·.1)).Nodup → l[i]? = some x → delP l x.1 = l.eraseIdx i
  | [], i, x, _, h => by cases h
  | y :: l, 0, x, hn, h => by
    simp at h; subst h
    obtain ⟨h1, h2⟩ := List.nodup_cons.1 (show (y.1 :: l.map (·.1)).Nodup from hn)
    unfold delP
    rw [List.filter_cons, if_neg (by simp)]
    show _ = l
    exact List.filter_eq_self.2 fun z hz => by
      have : z.1 ≠ y.1 := fun e => h1 (by rw [← e]; exact List.mem_map.2 ⟨z, hz, rfl⟩)
      simp [this]
  | y :: l, i + 1, x, hn, h => by
    rw [List.getElem?_cons_succ] at h
    obtain ⟨h1, h2⟩ := List.nodup_cons.1 (show (y.1 :: l.map (·.1)).Nodup from hn)
    have : y.1 ≠ x.1 := fun ee => h1 (by rw [ee]; exact List.mem_map.2 ⟨x, List.mem_of_getElem? h, rfl⟩)
    have ih := filter_eraseP l i x h2 h
    unfold delP at ih ⊢
    rw [List.filter_cons, if_pos (by simp [this]), ih]; rfl
theorem delP_none {α β : Type} [DecidableEq α] {l : List (α × β)} {k : α} (h : ∀ x ∈ l, x.1 ≠ k) : delP l k = l := List.filter_eq_self.2 fun x hx => by simp [h x hx]
theorem getA_no {α : Type} [DecidableEq α] {k : α} : ∀ {l : List (α × Value)}, getA l k = none → ∀ x ∈ l, x.1 ≠ k
  | [], _, x, hx => by cases hx
  | y :: l, h, x, hx => by
    unfold getA at h
    split at h
    · cases h
    · rename_i hne
      rcases List.mem_cons.1 hx with rfl | hx
      · exact hne
      · exact getA_no h x hx
section
variable {α : Type} [DecidableEq α] {kv : α → Value} {f0 : Bool} {c0 : Ctx} {P : Program} {n : Nat} {ops : Array Oper} {F : Fr} {w : World} {K : Fr → World → Prop} {rest : List Oper} {dst : Option Tmp} {ty : TypeId} {pos : String} {after : Array Edge} {g : Option (Nat × Bool)}
theorem o_mapDelG {x y : Operand} {t k e : TypeId} {b : Nat} {a : α} {l : List (α × Value)} (hK : KeyOk P k kv) (hx : ev F x = .map (some b)) (hy : ev F y = kv a) (ht : P.underlying t = some (.map k e)) (hm : MapG kv w b l)
    (hg : wantedF ops F ⟨dst, .call ⟨.builtin .delete, #[x, y], #[t, k]⟩, ty, pos, after, g⟩ = true)
    (h : ∀ w', MapG kv w' b (delP l a) → Keep (· ≠ b) w w' → w'.heap.size = w.heap.size → OpsW f0 c0 P n ops rest (updo n F dst (.tuple #[])) w' K) : OpsW f0 c0 P n ops (⟨dst, .call ⟨.builtin .delete, #[x, y], #[t, k]⟩, ty, pos, after, g⟩ :: rest) F w K := by
  obtain ⟨es, cl, h1, h2, h3⟩ := hm
  have hget : (getObj b).run P w = .ok (.map es cl) w := by simp [getObj, Sem.run, h1]
  have hlt : b < w.heap.size := lt_of_get h1
  have hset : ∀ o : Obj, (setObj b o).run P w = .ok () { w with heap := w.heap.setIfInBounds b o } := fun o => by simp [setObj, Sem.run, h1]
  have hkeep : ∀ o : Obj, Keep (· ≠ b) w { w with heap := w.heap.setIfInBounds b o } := fun o => ⟨rfl, rfl, rfl, by simp, fun k _ hk => by simp [Array.getElem?_setIfInBounds_ne (Ne.symm hk)]⟩
  have hsame : ∀ o : Obj, ({ w with heap := w.heap.setIfInBounds b o } : World).heap[b]? = some o := fun o => by simp [hlt]
  rcases MapG.find hK h2 h3 a w with ⟨h4, h5, h6⟩ | ⟨j, e0, h4, h6, h7, h8, h5⟩
  · refine op_run0 (v := .tuple #[]) (w' := { w with heap := w.heap.setIfInBounds b (.map es cl) }) ?_ hg (h _ ⟨_, _, hsame _, h2, ?_⟩ (hkeep _) (by simp))
    · unfold Run1
      simp [execOp, resolve, invoke, builtin, hx, hy, Builtin.delete_, run_underlying ht, hget, hK.check, h4, hset]
    · rw [h3, delP_none (getA_no h5)]
  · refine op_run0 (v := .tuple #[]) (w' := { w with heap := w.heap.setIfInBounds b (.map (es.eraseIdxIfInBounds j) cl) }) ?_ hg (h _ ⟨_, _, hsame _, stamped_erase h2 _, ?_⟩ (hkeep _) (by simp))
    · unfold Run1
      simp [execOp, resolve, invoke, builtin, hx, hy, Builtin.delete_, run_underlying ht, hget, hK.check, h4, hset]
    · have hj : j < es.size := by
        have := (List.getElem?_eq_some_iff.1 h6).1
        simpa using this
      have e1 : (es.eraseIdxIfInBounds j).toList = es.toList.eraseIdx j := by
        unfold Array.eraseIdxIfInBounds
        rw [dif_pos hj]; simp
      rw [e1, map_erase, h3, ← map_erase, ← filter_eraseP l j _ (ents_nodup h2 h3) h8]
end
end Go.Proofs.Ytkmciohghhffnaa.B
