/-
  trie: find, Get, Drop, New, Put, Twin.
-/
import Derived.Test.YtpiidddccmohdaaDoorTreW4
import Derived.Test.YtpiidddccmohdaaDoorClone
namespace Go.Proofs.YtpiidddccmohdaaDoor.B
open Go
set_option linter.unusedVariables false
set_option maxHeartbeats 2000000
set_option maxRecDepth 100000
attribute [local irreducible] W OpsW OpsQ retP
theorem wayT_ne : ∀ (T : Tre) (r : List UInt8) (x : Tre × List UInt8), x ∈ wayT T r → x.1 ≠ .no := by
  intro T
  induction T with
  | no => intro r x h; cases h
  | leaf b v =>
    intro r x h
    have h : x ∈ [((Tre.leaf b v, r) : Tre × List UInt8)] := h
    rcases List.mem_cons.1 h with rfl | h
    · intro e; cases e
    · cases h
  | branch b k ih =>
    intro r x h
    rw [wayT] at h
    rcases List.mem_cons.1 h with rfl | h
    · intro e; cases e
    · split at h
      · cases h
      · exact ih _ _ x h
/-- Bytes don't stand in a loop's record. -/
theorem By.notLoop {w : World} {v : Value} {bs : List UInt8} {x : Nat} {L : Loop} (h : By w v bs) (hL : w.heap[x]? = some (.loop L)) : bs ≠ [] → InB (fun z => z ≠ x) v := by
  intro hne b hb e
  obtain ⟨x0, c, rfl, h5, h6, h7, h8, h9⟩ := h
  cases x0 with
  | none => cases hb
  | some y =>
    obtain rfl : y.block = b := Option.some.inj hb
    cases bs with
    | nil => exact absurd rfl hne
    | cons u us =>
      have hc := (h9 y rfl 0 (c8 u) rfl).2
      rw [e] at hc
      simp [World.cell?, hL] at hc
def putTT (T : Tre) (key : Dig) (val : List UInt8) : Tre := putT T (nibs key.val) val
def dropTT (T : Tre) (key : Dig) : Tre := if (T.get (nibs key.val)).isSome then dropT T (nibs key.val) else T
/-! ### What a trie has -/
theorem nibs_inj : ∀ {a b : List UInt8}, nibs a = nibs b → a = b
  | [], [], _ => rfl
  | [], y :: b, h => by cases h
  | x :: a, [], h => by cases h
  | x :: a, y :: b, h => by
    have h : hiN x :: loN x :: nibs a = hiN y :: loN y :: nibs b := h
    injection h with h1 h
    injection h with h2 h
    have e1 := congrArg UInt8.toNat h1
    have e2 := congrArg UInt8.toNat h2
    rw [hiN_nat, hiN_nat] at e1
    rw [loN_nat, loN_nat] at e2
    rw [nibs_inj h, UInt8.toNat_inj.1 (show x.toNat = y.toNat by omega)]
theorem nibs_surj : ∀ (n : Nat) (r : List UInt8), r.length = 2 * n → nib16 r → ∃ l : List UInt8, l.length = n ∧ nibs l = r
  | 0, r, h, _ => ⟨[], rfl, by obtain rfl := List.eq_nil_of_length_eq_zero h; rfl⟩
  | n + 1, r, h, hn => by
    match r, h, hn with
    | a :: b :: t, h, hn =>
      simp only [List.length_cons] at h
      obtain ⟨l, hl, e⟩ := nibs_surj n t (by omega) (fun x hx => hn x (List.mem_cons_of_mem _ (List.mem_cons_of_mem _ hx)))
      have ha := hn a (List.mem_cons_self ..)
      have hb := hn b (List.mem_cons_of_mem _ (List.mem_cons_self ..))
      have hx := toU8_lt (x := a.toNat * 16 + b.toNat) (by omega)
      refine ⟨(a.toNat * 16 + b.toNat).toUInt8 :: l, by rw [List.length_cons, hl], ?_⟩
      show hiN _ :: loN _ :: nibs l = _
      rw [e, show hiN (a.toNat * 16 + b.toNat).toUInt8 = a from UInt8.toNat_inj.1 (by rw [hiN_nat, hx]; omega), show loN (a.toNat * 16 + b.toNat).toUInt8 = b from UInt8.toNat_inj.1 (by rw [loN_nat, hx]; omega)]
/-- A trie is told by what it has under each key. -/
theorem Tre.uniqD {T S : Tre} (hT : T.wf 64) (hS : S.wf 64) (h : ∀ k : Dig, T.get (nibs k.val) = S.get (nibs k.val)) : T = S :=
  Tre.uniq T S 64 hT hS fun r hr hn => by
    obtain ⟨l, hl, rfl⟩ := nibs_surj 32 r (by omega) hn
    exact h ⟨l, hl⟩
theorem get_putTT {T : Tre} (h : T.wf 64) (key k : Dig) (val : List UInt8) : (putTT T key val).get (nibs k.val) = if k = key then some val else T.get (nibs k.val) := by
  have hn : ∀ d : Dig, (nibs d.val).length = 64 := fun d => by rw [nibs_len, d.2]
  unfold putTT
  rw [(putT_all T 64 (nibs key.val) val h (hn key) (nibs_16 _)).2 _ (hn k)]
  by_cases e : k = key
  · rw [if_pos e, if_pos (by rw [e])]
  · rw [if_neg e, if_neg (fun h => e (Subtype.ext (nibs_inj h)))]
theorem get_dropTT {T : Tre} (h : T.wf 64) (key k : Dig) : (dropTT T key).get (nibs k.val) = if k = key then none else T.get (nibs k.val) := by
  have hn : ∀ d : Dig, (nibs d.val).length = 64 := fun d => by rw [nibs_len, d.2]
  unfold dropTT
  cases hg : T.get (nibs key.val) with
  | none =>
    show T.get (nibs k.val) = _
    by_cases e : k = key
    · rw [if_pos e, e, hg]
    · rw [if_neg e]
  | some v =>
    show (dropT T (nibs key.val)).get (nibs k.val) = _
    rw [(dropT_all T 64 (nibs key.val) v h (hn key) hg).2 _ (hn k)]
    by_cases e : k = key
    · rw [if_pos e, if_pos (by rw [e])]
    · rw [if_neg e, if_neg (fun h => e (Subtype.ext (nibs_inj h)))]
theorem wf_putTT {T : Tre} (h : T.wf 64) (key : Dig) (val : List UInt8) : (putTT T key val).wf 64 := (putT_all T 64 (nibs key.val) val h (by rw [nibs_len, key.2]) (nibs_16 _)).1
theorem wf_dropTT {T : Tre} (h : T.wf 64) (key : Dig) : (dropTT T key).wf 64 := by
  unfold dropTT
  cases hg : T.get (nibs key.val) with
  | none => exact h
  | some v => exact (dropT_all T 64 (nibs key.val) v h (by rw [nibs_len, key.2]) hg).1
end Go.Proofs.YtpiidddccmohdaaDoor.B
