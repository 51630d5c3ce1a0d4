/-
  audit.Check: what stands between the rounds.
-/
import Derived.Test.YtigehkfdfecfoaaDoorAud1
import Derived.Test.YtigehkfdfecfoaaDoorAud2
import Derived.Test.YtigehkfdfecfoaaDoorAud4
import Derived.Test.YtigehkfdfecfoaaDoorGate2
namespace Go.Proofs.YtigehkfdfecfoaaDoor.B
open Go
set_option linter.unusedVariables false
set_option maxHeartbeats 2000000
set_option maxRecDepth 100000
attribute [local irreducible] W OpsW OpsQ retP
/-- The cells of a story. -/
def stV (n : Nat) (u ev : Value) : List Value := [.int .u64 n, u, ev]
/-- The commit that was read last. -/
def lastC (xs : List (List UInt8)) : Nat → Cm
  | 0 => Cm.zero
  | k + 1 => match xs[k]? with
    | some x => cOf x
    | none => Cm.zero
def statesA (xs : List (List UInt8)) (k : Nat) : List Dig := (xs.take k).map fun x => (cOf x).state
theorem statesA_s {xs : List (List UInt8)} {k : Nat} {x : List UInt8} (h : xs[k]? = some x) : statesA xs (k + 1) = statesA xs k ++ [(cOf x).state] := by
  obtain ⟨h1, h2⟩ := List.getElem?_eq_some_iff.1 h
  unfold statesA; rw [List.take_succ_eq_append_getElem h1, List.map_append, h2]; rfl
theorem statesA_len {xs : List (List UInt8)} {k : Nat} (h : k ≤ xs.length) : (statesA xs k).length = k := by unfold statesA; rw [List.length_map, List.length_take]; omega
/-- The block of a slice that isn't empty. -/
def NB (A : Nat → Prop) : Value → Prop
  | .slice (some a) n _ => n ≠ 0 → A a.block
  | _ => True
theorem NB.mono {A B : Nat → Prop} {v : Value} (h : NB A v) (hAB : ∀ z, A z → B z) : NB B v := by
  unfold NB at *
  split
  · exact fun hn => hAB _ (h hn)
  · trivial
theorem InB.nb {A : Nat → Prop} {v : Value} (h : InB A v) : NB A v := by
  unfold NB
  split
  · exact fun _ => h _ rfl
  · trivial
theorem NB.and {A B : Nat → Prop} {v : Value} (h : NB A v) (h2 : NB B v) : NB (fun z => A z ∧ B z) v := by
  unfold NB at *
  split
  · exact fun hn => ⟨h hn, h2 hn⟩
  · trivial
theorem Sl.keepN {w w' : World} {C : Nat → Prop} {v : Value} {n sz : Nat} {cs : List Value} (h : Sl w v n sz cs) (hk : Keep C w w') (hC : NB C v) : Sl w' v n sz cs := by
  obtain ⟨a, c, rfl, h1, h2, h3, h4, h5⟩ := h
  refine ⟨a, c, rfl, h1, h2, h3, h4, fun x hx i u hu => ⟨(h5 x hx i u hu).1, hk.cell (h5 x hx i u hu).2 ?_⟩⟩
  subst hx
  refine hC fun h0 => ?_
  subst h0
  have hi := (List.getElem?_eq_some_iff.1 hu).1
  omega
theorem Sl.ltN {w : World} {v : Value} {n sz : Nat} {cs : List Value} (h : Sl w v n sz cs) (hs : 0 < sz) : NB (fun z => z < w.heap.size) v := by
  obtain ⟨a, c, rfl, h1, h2, h3, h4, h5⟩ := h
  cases a with
  | none => trivial
  | some x =>
    intro hn
    have hp : 0 < n * sz := Nat.mul_pos (Nat.pos_of_ne_zero hn) hs
    exact World.block_lt_of_cell? w ⟨x.block, x.off + 0, none⟩ (h5 x rfl 0 (cs[0]'(by omega)) (List.getElem?_eq_getElem (by omega))).2
theorem RowsV.keepN {w w' : World} {C : Nat → Prop} {v : Value} {vks : List Value} {xs : List (List UInt8)} (h : RowsV w v vks xs) (hk : Keep C w w') (h1 : NB C v) (h2 : ∀ u ∈ vks, NB C u) : RowsV w' v vks xs :=
  ⟨h.1, h.2.1.keepN hk h1, fun i u x hu hx => (h.2.2 i u x hu hx).keepN hk (h2 u (List.mem_of_getElem? hu))⟩
/-- Where the events of a commit lie. -/
def GIn (A : Nat → Prop) (p : Value × List Value) : Prop := NB A p.1 ∧ ∀ y ∈ p.2, NB A y
theorem RowsV.gin {w : World} {v : Value} {vks : List Value} {xs : List (List UInt8)} (h : RowsV w v vks xs) {A : Nat → Prop} (h1 : InB A v) (h2 : ∀ u ∈ vks, InB A u) : GIn (fun z => A z ∧ z < w.heap.size) (v, vks) :=
  ⟨h1.nb.and (h.2.1.ltN (by decide)), fun y hy => (h2 y hy).nb.and (by
    obtain ⟨i, hi, he⟩ := List.mem_iff_getElem.1 hy
    have hi2 : i < vks.length := hi
    obtain ⟨x, hx⟩ : ∃ x, xs[i]? = some x := ⟨_, List.getElem?_eq_getElem (by have := h.1; omega)⟩
    exact (h.2.2 i y x (by rw [List.getElem?_eq_getElem hi, he]) hx).ltN (by decide))⟩
theorem GIn.mono {A B : Nat → Prop} {p : Value × List Value} (h : GIn A p) (hAB : ∀ z, A z → B z) : GIn B p := ⟨h.1.mono hAB, fun y hy => (h.2 y hy).mono hAB⟩
structure AuJ (xs : List (List UInt8)) (n : Nat) (root : Dig) (bR bX bC b6 b7 b8 b9 b10 lo : Nat) (v : Value) (w0 : World) (u ev vb ve : Value) (gs : List (Value × List Value)) (k : Nat) (w' : World) : Prop where
  hR : Blk w' bR (dgR root) 28
  hX : Blk w' bX [v] 24
  hC : Blk w' bC [.int .u64 n] 23
  h6 : Blk w' b6 (stV 0 nilV nilV) 33
  h7 : Blk w' b7 [.int .i64 0] 29
  h8 : Blk w' b8 (stV n u nilV) 33
  h9 : Blk w' b9 [ev] 53
  h10 : Blk w' b10 (cmV (lastC xs k) vb ve) 58
  hu : Own w' 28 32 u k (rows dgR (statesA xs k))
  hv : Own w' 24 1 ev k (gs.map (·.1))
  hgl : gs.length = k
  hgs : ∀ (i : Nat) p x, gs[i]? = some p → xs[i]? = some x → RowsV w' p.1 p.2 (cOf x).events
  hgd : ∀ p ∈ gs, GIn (fun z => lo ≤ z ∧ z < w'.heap.size ∧ some z ≠ u.ownBlock ∧ some z ≠ ev.ownBlock) p
  hul : InB (lo ≤ ·) u
  hvl : InB (lo ≤ ·) ev
  huv : ∀ z, u.ownBlock = some z → ev.ownBlock ≠ some z
  hok : ∀ i, i < k → ∀ x, xs[i]? = some x → okA n root xs i x
  kw : Keep All w0 w'
/-- What is kept is: the blocks of one's own, what stood at the beginning, and what lies above. -/
theorem AuJ.keep {xs : List (List UInt8)} {n : Nat} {root : Dig} {bR bX bC b6 b7 b8 b9 b10 lo : Nat} {v : Value} {w0 : World} {u ev vb ve : Value} {gs : List (Value × List Value)} {k : Nat} {wa wb : World} {A : Nat → Prop}
    (h : AuJ xs n root bR bX bC b6 b7 b8 b9 b10 lo v w0 u ev vb ve gs k wa) (hk : Keep A wa wb) (hA : ∀ z, (z < w0.heap.size ∨ z = bR ∨ z = bX ∨ z = bC ∨ z = b6 ∨ z = b7 ∨ z = b8 ∨ z = b9 ∨ z = b10 ∨ lo ≤ z) → A z) :
    AuJ xs n root bR bX bC b6 b7 b8 b9 b10 lo v w0 u ev vb ve gs k wb where
  hR := hk.blk' h.hR (hA _ (by omega))
  hX := hk.blk' h.hX (hA _ (by omega))
  hC := hk.blk' h.hC (hA _ (by omega))
  h6 := hk.blk' h.h6 (hA _ (by omega))
  h7 := hk.blk' h.h7 (hA _ (by omega))
  h8 := hk.blk' h.h8 (hA _ (by omega))
  h9 := hk.blk' h.h9 (hA _ (by omega))
  h10 := hk.blk' h.h10 (hA _ (by omega))
  hu := h.hu.keep hk (fun z hz => hA z (by have := h.hul z hz; omega))
  hv := h.hv.keep hk (fun z hz => hA z (by have := h.hvl z hz; omega))
  hgl := h.hgl
  hgs := fun i p x h1 h2 => (h.hgs i p x h1 h2).keepN hk (((h.hgd p (List.mem_of_getElem? h1)).1).mono fun z hz => hA z (by omega)) (fun y hy => ((h.hgd p (List.mem_of_getElem? h1)).2 y hy).mono fun z hz => hA z (by omega))
  hgd := fun p hp => (h.hgd p hp).mono fun z hz => ⟨hz.1, by have := hk.size; omega, hz.2.2⟩
  hul := h.hul
  hvl := h.hvl
  huv := h.huv
  hok := h.hok
  kw := h.kw.outA (B := fun z => ¬ A z) (hk.mono fun z _ hz => Classical.not_not.1 hz) (fun z hz => Nat.le_of_not_lt fun hlt => hz (hA z (.inl hlt)))
end Go.Proofs.YtigehkfdfecfoaaDoor.B
