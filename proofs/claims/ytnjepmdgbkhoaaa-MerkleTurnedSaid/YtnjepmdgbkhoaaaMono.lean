/-
  A region that draws its order, several of whose operations make memory or call, none of which changes what there was: these come up in whatever order; behind them all, each has left what it leaves.
-/
import Derived.Test.YtnjepmdgbkhoaaaGate
namespace Go.Proofs.Ytnjepmdgbkhoaaa.B
open Go
set_option linter.unusedVariables false
/-- How worlds go on. -/
structure Pre (R : World → World → Prop) : Prop where
  refl : ∀ w, R w w
  trans : ∀ {a b c}, R a b → R b c → R a c
  size : ∀ {a b}, R a b → a.heap.size ≤ b.heap.size
theorem pre_all : Pre (Keep All) := ⟨Keep.refl, Keep.trans, fun h => h.size⟩
/-- What operation k has left: it ran from wa to wb; the blocks between are its own by g. -/
def Fact (R : World → World → Prop) (φ : Nat → Value → World → World → Prop) (w0 : World) (g : Nat → Nat) (k : Nat) (v : Value) (w : World) : Prop :=
  ∃ wa wb, R w0 wa ∧ R wa wb ∧ R wb w ∧ (∀ b, wa.heap.size ≤ b → b < wb.heap.size → g b = k) ∧ φ k v wa wb
def Facts (R : World → World → Prop) (φ : Nat → Value → World → World → Prop) (w0 : World) (g : Nat → Nat) : List Nat → List Value → World → Prop
  | [], vs, _ => vs = []
  | k :: ks, vs, w => ∃ v rest, vs = v :: rest ∧ Fact R φ w0 g k v w ∧ Facts R φ w0 g ks rest w
theorem Facts.of {R : World → World → Prop} {φ : Nat → Value → World → World → Prop} {w0 : World} {g : Nat → Nat} {w : World} {F : Fr} : ∀ {l : List (Nat × Nat)}, (∀ p ∈ l, Fact R φ w0 g p.1 (F p.2) w) → Facts R φ w0 g (l.map (·.1)) ((l.map (·.2)).map F) w
  | [], _ => rfl
  | p :: l, h => ⟨_, _, rfl, h p (List.mem_cons_self ..), Facts.of fun q hq => h q (List.mem_cons_of_mem _ hq)⟩
/-- An operation of the bunch: its number, where it writes, whom it reads, and where these write. -/
structure MS where
  i : Nat
  d : Nat
  need : List (Nat × Nat)
def nodupB : List Nat → Bool
  | [] => true
  | x :: l => !(l.any (Nat.beq x)) && nodupB l
def inB (x : Nat) (l : List Nat) : Bool := l.any (Nat.beq x)
theorem inB_iff {x : Nat} {l : List Nat} : inB x l = true ↔ x ∈ l := by
  unfold inB; rw [List.any_eq_true]
  exact ⟨fun ⟨y, hy, h⟩ => Nat.eq_of_beq_eq_true h ▸ hy, fun h => ⟨x, h, Nat.beq_refl x⟩⟩
def monoB (ops : Array Oper) (listed : Array Bool) (n : Nat) (sp : List MS) : Bool :=
  nodupB (sp.map (·.i)) && nodupB (sp.map (·.d)) && Nat.beq listed.size ops.size &&
  sp.all (fun s => Nat.blt s.d n && !(listed.getD s.i true) && (match ops[s.i]? with
    | some o => (match o.dst with | some d => Nat.beq d s.d | none => false) && o.after.toList.all (fun e => !Region.binds .any e || listed.getD e.on false || (inB e.on (sp.map (·.i)) && Nat.blt e.on s.i))
    | none => false) &&
    s.need.all (fun p => waitsN .any ops ops.size s.i p.1 && sp.any (fun t => Nat.beq t.i p.1 && Nat.beq t.d p.2))) &&
  (List.range ops.size).all (fun k => (match ops[k]? with
    | some o => (listed.getD k true && o.after.toList.all (fun e => !Region.binds .any e || listed.getD e.on false)) || (!(listed.getD k true) && (inB k (sp.map (·.i)) || sp.all (fun s => waitsN .any ops ops.size k s.i)))
    | none => false))
section
variable {c0 : Ctx} {P : Program} {n : Nat} {ops : Array Oper} {S : World → Prop} {F : Fr} {w : World} {K : Fr → World → Prop} {fuel : Nat} {listed : Array Bool}
def MSteps (R : World → World → Prop) (c0 : Ctx) (P : Program) (n : Nat) (ops : Array Oper) (F : Fr) (w : World) (φ : Nat → Value → World → World → Prop) (ds : List Nat) : List MS → Prop
  | [] => True
  | s :: r => (∀ J vs g w1, R w w1 → Facts R φ w g (s.need.map (·.1)) vs w1 → OneW c0 P n ops (headF F ds J (s.need.map (·.2)) vs) w1 s.i (fun F' w2 => R w1 w2 ∧ φ s.i (F' s.d) w1 w2)) ∧ MSteps R c0 P n ops F w φ ds r
theorem MSteps.get {R : World → World → Prop} {φ : Nat → Value → World → World → Prop} {ds : List Nat} {s : MS} : ∀ {l : List MS}, MSteps R c0 P n ops F w φ ds l → s ∈ l → ∀ J vs g w1, R w w1 → Facts R φ w g (s.need.map (·.1)) vs w1 → OneW c0 P n ops (headF F ds J (s.need.map (·.2)) vs) w1 s.i (fun F' w2 => R w1 w2 ∧ φ s.i (F' s.d) w1 w2)
  | x :: l, h, hs => by
    rcases List.mem_cons.1 hs with rfl | hs
    · exact h.1
    · exact MSteps.get h.2 hs
theorem wpOp_put {i : Nat} {o : Oper} {Q : Exit → Act → World → Prop} {K : Act → World → Prop} {a : Act} {w : World} (hi : ops[i]? = some o) (h : wpOp P ops Q i (fun a' w' => (∃ v, a'.tmps = (a.put o.dst v).tmps) → K a' w') a w) : wpOp P ops Q i K a w := by
  have pd : ∀ (d : Deferred) (u : Value), (Act.put { a with defers := d :: a.defers } o.dst u).tmps = (a.put o.dst u).tmps := fun d u => by cases o.dst <;> rfl
  unfold wpOp at *
  simp only [hi] at *
  split
  · rename_i hw
    simp only [hw, if_true] at h
    refine h.imp (fun h => ?_) id
    unfold Oper.wp at *
    generalize (execOp a.eval o).run P w = r at *
    cases r with
    | ok nx w' =>
      cases nx <;> simp only [Oper.upon] at h ⊢
      case value u => exact h ⟨_, rfl⟩
      case skip => exact h ⟨_, rfl⟩
      case defer => exact h ⟨_, pd _ _⟩
      case enter f args =>
        refine Calls.mono h fun e w'' he => ?_
        cases e with
        | returned u => exact he ⟨_, rfl⟩
        | panicked c => exact he
        | outgrown => exact he
      case row row args => exact Rows.mono h fun u w'' he => he ⟨_, rfl⟩
    | halt x w' =>
      cases x <;> simp only [Oper.upon] at h ⊢ <;> exact h
  · rename_i hw
    simp only [hw] at h
    exact h ⟨_, rfl⟩
theorem nodup_of {l : List Nat} (h : nodupB l = true) : l.Nodup := by
  induction l with
  | nil => exact List.nodup_nil
  | cons x l ih =>
    unfold nodupB at h
    simp only [Bool.and_eq_true, Bool.not_eq_true'] at h
    refine List.nodup_cons.2 ⟨fun hm => ?_, ih h.2⟩
    have := inB_iff.2 hm
    unfold inB at this
    rw [this] at h; cases h.1
theorem count_set {l : List Nat} {p q : Nat → Bool} {j : Nat} (hn : l.Nodup) (hj : j ∈ l) (hp : p j = true) (hq : q j = false) (h : ∀ k, k ≠ j → q k = p k) : l.countP p = l.countP q + 1 := by
  induction l with
  | nil => cases hj
  | cons x l ih =>
    obtain ⟨hx, hn⟩ := List.nodup_cons.1 hn
    rw [List.countP_cons, List.countP_cons]
    rcases List.mem_cons.1 hj with rfl | hj
    · have e : l.countP p = l.countP q := List.countP_congr fun k hk => by rw [h k (fun e => hx (e ▸ hk))]
      rw [e, if_pos hp, if_neg (by rw [hq]; simp)]
    · rw [ih hn hj, h x (fun e => hx (e ▸ hj))]; omega
theorem nodup_map_inj {α : Type} {f : α → Nat} : ∀ {l : List α}, (l.map f).Nodup → ∀ {a b : α}, a ∈ l → b ∈ l → f a = f b → a = b
  | x :: l, hn, a, b, ha, hb, he => by
    rw [List.map_cons] at hn
    obtain ⟨hx, hn'⟩ := List.nodup_cons.1 hn
    clear hn
    rcases List.mem_cons.1 ha with rfl | ha'
    · rcases List.mem_cons.1 hb with rfl | hb
      · rfl
      · exact (hx (by rw [he]; exact List.mem_map_of_mem hb)).elim
    · rcases List.mem_cons.1 hb with rfl | hb
      · exact (hx (by rw [← he]; exact List.mem_map_of_mem ha')).elim
      · exact nodup_map_inj hn' ha' hb he
theorem waits_done {L : Array Bool} {f j i : Nat} {o : Oper} (inv : ClosedL .any ops L) (ho : ops[j]? = some o) (hr : ∀ e ∈ o.after, Region.binds .any e = true → L.getD e.on false = true) (hw : waitsN .any ops f j i = true) : L.getD i true = true := by
  cases hi : L.getD i true with
  | true => rfl
  | false =>
    exfalso
    cases f with
    | zero => cases hw
    | succ f =>
      unfold waitsN at hw
      rw [ho] at hw
      obtain ⟨e, he, hb⟩ := List.any_eq_true.1 hw
      simp only [Bool.and_eq_true, Bool.or_eq_true] at hb
      have h1 := hr e (by simpa using he) hb.1
      rcases hb.2 with h2 | h2
      · rw [Nat.eq_of_beq_eq_true h2, getD_both hi] at h1; cases h1
      · have h3 := ClosedL.gate inv hi f e.on h2
        rw [getD_both h3] at h1; cases h1
theorem any_monoR (R : World → World → Prop) (hR : Pre R) (sp : List MS) (φ : Nat → Value → World → World → Prop) (fuel' : Nat) (hf : Nat.beq fuel (fuel' + sp.length) = true) (hB : monoB ops listed n sp = true) (hS : ∀ w', R w w' → S w')
    (hstep : MSteps R c0 P n ops F w φ (sp.map (·.d)) sp)
    (hend : ∀ J vs g w1, R w w1 → Facts R φ w g (sp.map (·.i)) vs w1 → AnyW c0 P n ops S fuel' ((sp.map (·.i)).foldl (fun l i => l.setIfInBounds i true) listed) (headF F (sp.map (·.d)) J (sp.map (·.d)) vs) w1 K) : AnyW c0 P n ops S fuel listed F w K := by
  obtain rfl := Nat.eq_of_beq_eq_true hf
  intro a0 Q hs0 hk hp
  unfold monoB at hB
  simp only [Bool.and_eq_true, List.all_eq_true, Bool.not_eq_true', List.mem_range] at hB
  obtain ⟨⟨⟨⟨hn1, hn2⟩, hsz⟩, hsp⟩, hall⟩ := hB
  have hn1 := nodup_of hn1
  have hn2 := nodup_of hn2
  have hsz := Nat.eq_of_beq_eq_true hsz
  -- the bunch's operations
  have hop : ∀ s ∈ sp, s.d < n ∧ listed.getD s.i true = false ∧ (∃ o, ops[s.i]? = some o ∧ o.dst = some s.d ∧ ∀ e ∈ o.after, Region.binds .any e = true → listed.getD e.on false = true ∨ (e.on ∈ sp.map (·.i) ∧ e.on < s.i)) ∧ ∀ p ∈ s.need, waitsN .any ops ops.size s.i p.1 = true ∧ ∃ t ∈ sp, t.i = p.1 ∧ t.d = p.2 := by
    intro s h
    obtain ⟨⟨⟨h1, h2⟩, h3⟩, h4⟩ := hsp s h
    refine ⟨Nat.le_of_ble_eq_true h1, h2, ?_, fun p hp => ?_⟩
    · split at h3
      · rename_i o ho
        simp only [Bool.and_eq_true, List.all_eq_true] at h3
        refine ⟨o, ho, ?_, fun e he hb => ?_⟩
        · have := h3.1
          split at this
          · rename_i d hd; rw [hd, Nat.eq_of_beq_eq_true this]
          · cases this
        · have := h3.2 e (by simpa using he)
          rw [hb] at this
          simp only [Bool.not_true, Bool.false_or, Bool.or_eq_true, Bool.and_eq_true] at this
          exact this.imp id fun ⟨h5, h6⟩ => ⟨inB_iff.1 h5, Nat.le_of_ble_eq_true h6⟩
      · cases h3
    · obtain ⟨h5, h6⟩ := h4 p hp
      obtain ⟨t, ht, h7⟩ := List.any_eq_true.1 h6
      simp only [Bool.and_eq_true] at h7
      exact ⟨h5, t, ht, Nat.eq_of_beq_eq_true h7.1, Nat.eq_of_beq_eq_true h7.2⟩
  have hcl : ClosedL .any ops listed := by
    refine ⟨hsz, fun j oj hj hl e he hb => ?_⟩
    have hjl : j < ops.size := (Array.getElem?_eq_some_iff.1 hj).1
    have := hall j hjl
    rw [hj] at this
    simp only [Bool.or_eq_true, Bool.and_eq_true, Bool.not_eq_true', List.all_eq_true] at this
    rcases this with h1 | h1
    · have := h1.2 e (by simpa using he); rw [hb] at this; simpa using this
    · rw [getD_both h1.1] at hl; cases hl
  have hothers : ∀ j, j < ops.size → listed.getD j true = false → j ∉ sp.map (·.i) → ∀ s ∈ sp, waitsN .any ops ops.size j s.i = true := by
    intro j hjl hj hni s hs
    have := hall j hjl
    obtain ⟨o, ho⟩ : ∃ o, ops[j]? = some o := ⟨_, Array.getElem?_eq_getElem hjl⟩
    rw [ho] at this
    simp only [Bool.or_eq_true, Bool.and_eq_true, Bool.not_eq_true', List.all_eq_true] at this
    rcases this with h1 | h1
    · rw [hj] at h1; cases h1.1
    · rcases h1.2 with h2 | h2
      · exact absurd (inB_iff.1 h2) hni
      · exact h2 s hs
  -- from any state on
  have main : ∀ (r : Nat) (L : Array Bool) (a : Act) (Fc : Fr) (w1 : World) (g : Nat → Nat), Sim c0 n a Fc → R w w1 → offM (sp.map (·.d)) F Fc → ClosedL .any ops L → (∀ k, k ∉ sp.map (·.i) → L[k]? = listed[k]?) →
      (∀ s ∈ sp, L.getD s.i true = true → Fact R φ w g s.i (Fc s.d) w1) → (sp.map (·.i)).countP (fun i => !(L.getD i true)) = r → wpAnyH P .any ops Q S (fuel' + r) L a w1 := by
    intro r
    induction r with
    | zero =>
      intro L a Fc w1 g hs hk1 hoff hcL hLe hfa hr
      have hlisted : ∀ s ∈ sp, L.getD s.i true = true := fun s hs => by
        have := List.countP_eq_zero.1 hr s.i (List.mem_map_of_mem hs)
        simpa using this
      have hget : ∀ (l : List Nat) (A : Array Bool) (k : Nat), (l.foldl (fun l i => l.setIfInBounds i true) A)[k]? = if k ∈ l then (A[k]?).map (fun _ => true) else A[k]? := by
        intro l
        induction l with
        | nil => intro A k; simp
        | cons x l ih =>
          intro A k
          rw [List.foldl_cons, ih, Array.getElem?_setIfInBounds]
          by_cases h1 : k ∈ l
          · by_cases h2 : x = k
            · subst h2; simp [h1]
              by_cases h3 : x < A.size
              · simp [h3]
              · simp [h3]
            · simp [h1, h2]
          · by_cases h2 : x = k
            · subst h2; simp [h1]
              by_cases h3 : x < A.size
              · simp [h3]
              · simp [h3]
            · have h2' : ¬ k = x := fun e => h2 e.symm
              simp [h1, h2, h2']
      have hL : L = (sp.map (·.i)).foldl (fun l i => l.setIfInBounds i true) listed := by
        apply Array.ext'
        apply List.ext_getElem?
        intro k
        rw [Array.getElem?_toList, Array.getElem?_toList, hget]
        by_cases hm : k ∈ sp.map (·.i)
        · rw [if_pos hm]
          obtain ⟨s, hs, rfl⟩ := List.mem_map.1 hm
          obtain ⟨_, h1, ⟨o, ho, _⟩, _⟩ := hop s hs
          have hlt : s.i < ops.size := (Array.getElem?_eq_some_iff.1 ho).1
          have h2 := hlisted s hs
          rw [Array.getD_eq_getD_getElem?, Array.getElem?_eq_getElem (by rw [hcL.size]; exact hlt)] at h2
          rw [Array.getElem?_eq_getElem (by rw [hcL.size]; exact hlt), Array.getElem?_eq_getElem (by rw [hsz]; exact hlt)]
          simpa using h2
        · rw [if_neg hm]; exact hLe k hm
      have hfr := headF_self F Fc (sp.map (·.d)) (sp.map (·.d)) hoff
      have hF : Facts R φ w g (sp.map (·.i)) ((sp.map (·.d)).map Fc) w1 := by
        have := Facts.of (R := R) (φ := φ) (w0 := w) (g := g) (w := w1) (F := Fc) (l := sp.map fun s => (s.i, s.d)) (fun p hp => by
          obtain ⟨s, hs, rfl⟩ := List.mem_map.1 hp
          exact hfa s hs (hlisted s hs))
        simpa [List.map_map, Function.comp_def] using this
      have h := hend Fc ((sp.map (·.d)).map Fc) g w1 hk1 hF
      rw [← hfr, ← hL] at h
      exact h a Q hs hk hp
    | succ r ih =>
      intro L a Fc w1 g hs hk1 hoff hcL hLe hfa hr
      have hgetE : ∀ k d, k ∉ sp.map (·.i) → L.getD k d = listed.getD k d := fun k d hk => by
        rw [Array.getD_eq_getD_getElem?, Array.getD_eq_getD_getElem?, hLe k hk]
      have hdep : ∀ s ∈ sp, ∀ k, listed.getD k false = true → L.getD k false = true := by
        intro s hs k hk
        by_cases hm : k ∈ sp.map (·.i)
        · obtain ⟨t, ht, rfl⟩ := List.mem_map.1 hm
          have := (hop t ht).2.1
          rw [getD_both this] at hk; cases hk
        · rw [hgetE k false hm]; exact hk
      refine ⟨fun h => ?_, fun j hj => ?_⟩
      · -- the least that has not come up
        exfalso
        have hex : ∃ i, i ∈ sp.map (·.i) ∧ L.getD i true = false := by
          have hpos : 0 < (sp.map (·.i)).countP (fun i => !(L.getD i true)) := by omega
          obtain ⟨i, hi, h2⟩ := List.countP_pos_iff.1 hpos
          exact ⟨i, hi, by simpa using h2⟩
        have hmin : ∀ m i, i ≤ m → i ∈ sp.map (·.i) → L.getD i true = false → False := by
          intro m
          induction m with
          | zero =>
            intro i him hi hL
            obtain rfl : i = 0 := by omega
            obtain ⟨s, hss, hse⟩ := List.mem_map.1 hi
            obtain ⟨_, _, ⟨o, ho, _, hdp⟩, _⟩ := hop s hss
            have : (0 : Nat) ∈ Region.ready .any ops L := mem_ready.2 ⟨hL, o, hse ▸ ho, fun e he hb => by
              rcases hdp e he hb with h1 | ⟨_, h1⟩
              · exact hdep s hss _ h1
              · omega⟩
            rw [h] at this; cases this
          | succ m ihm =>
            intro i him hi hL
            obtain ⟨s, hss, hse⟩ := List.mem_map.1 hi
            obtain ⟨_, _, ⟨o, ho, _, hdp⟩, _⟩ := hop s hss
            have : i ∈ Region.ready .any ops L := mem_ready.2 ⟨hL, o, hse ▸ ho, fun e he hb => by
              rcases hdp e he hb with h1 | ⟨h0, h1⟩
              · exact hdep s hss _ h1
              · cases hc : L.getD e.on false with
                | true => rfl
                | false =>
                  have hlt : e.on < L.size := by
                    obtain ⟨t, ht, hte⟩ := List.mem_map.1 h0
                    obtain ⟨_, _, ⟨o', ho', _⟩, _⟩ := hop t ht
                    rw [hcL.size, ← hte]; exact (Array.getElem?_eq_some_iff.1 ho').1
                  exact (ihm e.on (by omega) h0 (getD_in hlt hc)).elim⟩
            rw [h] at this; cases this
        obtain ⟨i, h1, h2⟩ := hex
        exact hmin i i (Nat.le_refl _) h1 h2
      · obtain ⟨hju, oj, hoj, hjr⟩ := mem_ready.1 hj
        have hjl : j < ops.size := (Array.getElem?_eq_some_iff.1 hoj).1
        have hjm : j ∈ sp.map (·.i) := by
          apply Decidable.byContradiction
          intro hm
          have hju' : listed.getD j true = false := by rw [← hgetE j true hm]; exact hju
          have hpos : 0 < (sp.map (·.i)).countP (fun i => !(L.getD i true)) := by omega
          obtain ⟨i, hi, h2⟩ := List.countP_pos_iff.1 hpos
          obtain ⟨s, hss, rfl⟩ := List.mem_map.1 hi
          have := waits_done hcL hoj hjr (hothers j hjl hju' hm s hss)
          rw [this] at h2; cases h2
        obtain ⟨s, hss, rfl⟩ := List.mem_map.1 hjm
        obtain ⟨hdn, _, ⟨o, ho, hod, _⟩, hneed⟩ := hop s hss
        obtain rfl : oj = o := by rw [hoj] at ho; exact Option.some.inj ho
        have hF : Facts R φ w g (s.need.map (·.1)) ((s.need.map (·.2)).map Fc) w1 := Facts.of fun p hp => by
          obtain ⟨h1, t, ht, h2, h3⟩ := hneed p hp
          have := hfa t ht (h2 ▸ waits_done hcL hoj hjr h1)
          rwa [h2, h3] at this
        have h1 := hstep.get hss Fc ((s.need.map (·.2)).map Fc) g w1 hk1 hF
        rw [← headF_self F Fc (sp.map (·.d)) (s.need.map (·.2)) hoff] at h1
        refine wpOp_put hoj (h1 a Q hs hp _ ?_)
        rintro a' F' w2 hs' ⟨hk2, hφ⟩ ⟨v, hv⟩
        have hF' : ∀ t, t ≠ s.d → F' t = Fc t := fun t ht => by
          rw [← hs'.val t, hv, hod]
          have := (hs.put (some s.d) v).val t
          rw [this]
          show cond _ _ _ = _
          rw [beq_ne ht]; rfl
        refine ⟨hS _ (hR.trans hk1 hk2), ih (L.setIfInBounds s.i true) a' F' w2 (fun b => if b < w1.heap.size then g b else s.i) hs' (hR.trans hk1 hk2) ?_ (hcL.set hj) ?_ ?_ ?_⟩
        · intro t ht
          rw [hF' t (fun e => ?_)]
          · exact hoff t ht
          · subst e
            have : memB (sp.map (·.d)) s.d = true := (memB_iff _ _).2 (List.mem_map_of_mem hss)
            rw [this] at ht; cases ht
        · intro k hk
          rw [Array.getElem?_setIfInBounds_ne (fun e => hk (by rw [← e]; exact List.mem_map_of_mem hss))]
          exact hLe k hk
        · intro t ht hLt
          by_cases hts : t.i = s.i
          · have hts' : t.d = s.d := by
              have := nodup_map_inj hn1 ht hss hts
              rw [this]
            refine ⟨w1, w2, hk1, hk2, hR.refl _, fun b h1 h2 => ?_, ?_⟩
            · show (if b < w1.heap.size then g b else s.i) = t.i
              rw [if_neg (by omega), hts]
            · rw [hts, hts']; exact hφ
          · rw [getD_set_ne true (fun e => hts e.symm)] at hLt
            have hne : t.d ≠ s.d := fun e => hts (by rw [nodup_map_inj hn2 ht hss e])
            rw [hF' t.d hne]
            obtain ⟨wa, wb, h1, h2, h3, h4, h5⟩ := hfa t ht hLt
            refine ⟨wa, wb, h1, h2, hR.trans h3 hk2, fun b hb1 hb2 => ?_, h5⟩
            show (if b < w1.heap.size then g b else s.i) = t.i
            rw [if_pos (by have := hR.size h3; omega)]
            exact h4 b hb1 hb2
        · have := count_set (p := fun i => !(L.getD i true)) (q := fun i => !((L.setIfInBounds s.i true).getD i true)) hn1 (List.mem_map_of_mem hss) (by rw [hju]; rfl) (by
            have : s.i < L.size := by rw [hcL.size]; exact hjl
            simp [this]) (fun k hk => by rw [getD_set_ne true (fun e => hk e.symm)])
          omega
  refine main sp.length listed a0 F w (fun _ => 0) hs0 (hR.refl _) (offM_refl _ _) hcl (fun _ _ => rfl) (fun s hs h => ?_) ?_
  · rw [(hop s hs).2.1] at h; cases h
  · rw [List.countP_eq_length.2, List.length_map]
    intro i hi
    obtain ⟨s, hs, rfl⟩ := List.mem_map.1 hi
    rw [(hop s hs).2.1]; rfl
theorem any_mono (sp : List MS) (φ : Nat → Value → World → World → Prop) (fuel' : Nat) (hf : Nat.beq fuel (fuel' + sp.length) = true) (hB : monoB ops listed n sp = true) (hS : ∀ w', Keep All w w' → S w')
    (hstep : MSteps (Keep All) c0 P n ops F w φ (sp.map (·.d)) sp)
    (hend : ∀ J vs g w1, Keep All w w1 → Facts (Keep All) φ w g (sp.map (·.i)) vs w1 → AnyW c0 P n ops S fuel' ((sp.map (·.i)).foldl (fun l i => l.setIfInBounds i true) listed) (headF F (sp.map (·.d)) J (sp.map (·.d)) vs) w1 K) : AnyW c0 P n ops S fuel listed F w K :=
  any_monoR (Keep All) pre_all sp φ fuel' hf hB hS hstep hend
end
/-- A row, whatever marks it bears. -/
def RowM (w : World) (b : Nat) (cs : List Value) (e : TypeId) : Prop := ∃ fz, w.heap[b]? = some (.cells cs.toArray e fz)
theorem Blk.rowM {w : World} {b : Nat} {cs : List Value} {e : TypeId} (h : Blk w b cs e) : RowM w b cs e := ⟨_, h⟩
theorem RowM.cell {w : World} {b : Nat} {cs : List Value} {e : TypeId} (h : RowM w b cs e) {j : Nat} {v : Value} (hj : cs[j]? = some v) : w.cell? ⟨b, j, none⟩ = some v := by
  obtain ⟨fz, h⟩ := h
  rw [cell_of_row w b j cs.toArray e fz h]; simpa using hj
/-- What there was below B stays; rows stay, but for marks. -/
structure KeepM (B : Nat) (w w' : World) : Prop where
  base : Keep (· < B) w w'
  rows : ∀ b cs e, RowM w b cs e → RowM w' b cs e
theorem KeepM.of {B : Nat} {w w' : World} (h : Keep All w w') : KeepM B w w' := ⟨h.all, fun b cs e ⟨fz, hb⟩ => ⟨fz, h.get hb trivial⟩⟩
theorem pre_m (B : Nat) : Pre (KeepM B) := ⟨fun w => ⟨Keep.refl _, fun _ _ _ h => h⟩, fun h k => ⟨h.base.trans k.base, fun b cs e hb => k.rows b cs e (h.rows b cs e hb)⟩, fun h => h.base.size⟩
theorem KeepM.all {w w' : World} (h : KeepM w.heap.size w w') : Keep All w w' := h.base.mono fun k hk _ => hk
/-- The low bits of any int. -/
theorem and_mask (a : Int) (M : Nat) (hM : M < 2 ^ 63) : ∃ m : Nat, m ≤ M ∧ bitw .and .i64 a (M : Int) = (m : Int) := by
  have hb : (BitVec.ofInt IntKind.i64.bits (M : Int)).toNat = M := bv_u _ _ (Nat.lt_trans hM (by decide))
  have h : (BitVec.ofInt IntKind.i64.bits a &&& BitVec.ofInt IntKind.i64.bits (M : Int)).toNat ≤ M := by
    rw [BitVec.toNat_and, hb]
    exact Nat.and_le_right
  refine ⟨_, h, ?_⟩
  show IntKind.i64.wrap ((BitVec.ofInt IntKind.i64.bits a &&& BitVec.ofInt IntKind.i64.bits (M : Int)).toNat : Int) = _
  rw [wrap_i64 (by omega) (by omega)]
end Go.Proofs.Ytnjepmdgbkhoaaa.B
