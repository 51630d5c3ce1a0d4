/-
  audit.Check: one round more.
-/
import Derived.Test.YtigehkfdfecfoaaDoorAud6
namespace Go.Proofs.YtigehkfdfecfoaaDoor.B
open Go
set_option linter.unusedVariables false
set_option maxHeartbeats 2000000
set_option maxRecDepth 100000
attribute [local irreducible] W OpsW OpsQ retP
attribute [local irreducible] numR cOf cmV dgR stV
theorem lastC_s {xs : List (List UInt8)} {k : Nat} {x : List UInt8} (h : xs[k]? = some x) : lastC xs (k + 1) = cOf x := by
  show (match xs[k]? with | some x => cOf x | none => Cm.zero) = _; rw [h]
theorem AuJ.next {xs : List (List UInt8)} {n : Nat} {root : Dig} {bR bX bC b6 b7 b8 b9 b10 lo : Nat} {v : Value} {w0 : World} {u ev vb0 ve0 u' ev' vb ve : Value} {gs : List (Value × List Value)} {vks : List Value} {k : Nat} {wd we : World} {x : List UInt8}
    (h : AuJ xs n root bR bX bC b6 b7 b8 b9 b10 lo v w0 u ev vb0 ve0 gs k wd) (hx : xs[k]? = some x) (hok : okA n root xs k x)
    (hk : Keep (fun z => z ≠ b8 ∧ z ≠ b9 ∧ z ≠ b10 ∧ some z ≠ u.ownBlock ∧ some z ≠ ev.ownBlock) wd we)
    (h8 : Blk we b8 (stV n u' nilV) 33) (h9 : Blk we b9 [ev'] 53) (h10 : Blk we b10 (cmV (cOf x) vb ve) 58)
    (hu : Own we 28 32 u' (k + 1) (rows dgR (statesA xs (k + 1)))) (hv : Own we 24 1 ev' (k + 1) ((gs ++ [(ve, vks)]).map (·.1)))
    (hr : RowsV wd ve vks (cOf x).events) (hp : GIn (fun z => lo ≤ z ∧ z < wd.heap.size ∧ some z ≠ u.ownBlock ∧ some z ≠ ev.ownBlock) (ve, vks))
    (hu' : InB (fun z => u.ownBlock = some z ∨ wd.heap.size ≤ z) u') (hv' : InB (fun z => ev.ownBlock = some z ∨ wd.heap.size ≤ z) ev') (huv' : ∀ z, u'.ownBlock = some z → ev'.ownBlock ≠ some z)
    (hne : (bR ≠ b8 ∧ bR ≠ b9 ∧ bR ≠ b10) ∧ (bX ≠ b8 ∧ bX ≠ b9 ∧ bX ≠ b10) ∧ (bC ≠ b8 ∧ bC ≠ b9 ∧ bC ≠ b10) ∧ (b6 ≠ b8 ∧ b6 ≠ b9 ∧ b6 ≠ b10) ∧ (b7 ≠ b8 ∧ b7 ≠ b9 ∧ b7 ≠ b10))
    (hlt : (bR < lo ∧ bX < lo ∧ bC < lo ∧ b6 < lo ∧ b7 < lo) ∧ (b8 < lo ∧ b9 < lo ∧ b10 < lo) ∧ (w0.heap.size ≤ b8 ∧ w0.heap.size ≤ b9 ∧ w0.heap.size ≤ b10) ∧ lo ≤ wd.heap.size) :
    AuJ xs n root bR bX bC b6 b7 b8 b9 b10 lo v w0 u' ev' vb ve (gs ++ [(ve, vks)]) (k + 1) we := by
  have low : ∀ z, z < lo → some z ≠ u.ownBlock ∧ some z ≠ ev.ownBlock := fun z hz => ⟨fun e => by have := h.hul z e.symm; omega, fun e => by have := h.hvl z e.symm; omega⟩
  have hall : ∀ p ∈ gs ++ [(ve, vks)], GIn (fun z => lo ≤ z ∧ z < wd.heap.size ∧ some z ≠ u.ownBlock ∧ some z ≠ ev.ownBlock) p := fun p hp' => by
    rcases List.mem_append.1 hp' with h1 | h1
    · exact h.hgd p h1
    · obtain rfl := List.mem_singleton.1 h1; exact hp
  have hrow : ∀ (i : Nat) p y, (gs ++ [(ve, vks)])[i]? = some p → xs[i]? = some y → RowsV wd p.1 p.2 (cOf y).events := fun i p y h1 h2 => by
    by_cases hi : i < gs.length
    · rw [List.getElem?_append_left hi] at h1; exact h.hgs i p y h1 h2
    · have hi2 := (List.getElem?_eq_some_iff.1 h1).1
      rw [List.length_append] at hi2
      simp only [List.length_cons, List.length_nil] at hi2
      have hik : i = gs.length := by omega
      rw [List.getElem?_append_right (by omega), hik, Nat.sub_self] at h1
      injection h1 with h1; subst h1
      rw [hik, h.hgl, hx] at h2
      injection h2 with h2; subst h2
      exact hr
  exact {
    hR := hk.blk' h.hR ⟨hne.1.1, hne.1.2.1, hne.1.2.2, low _ hlt.1.1⟩
    hX := hk.blk' h.hX ⟨hne.2.1.1, hne.2.1.2.1, hne.2.1.2.2, low _ hlt.1.2.1⟩
    hC := hk.blk' h.hC ⟨hne.2.2.1.1, hne.2.2.1.2.1, hne.2.2.1.2.2, low _ hlt.1.2.2.1⟩
    h6 := hk.blk' h.h6 ⟨hne.2.2.2.1.1, hne.2.2.2.1.2.1, hne.2.2.2.1.2.2, low _ hlt.1.2.2.2.1⟩
    h7 := hk.blk' h.h7 ⟨hne.2.2.2.2.1, hne.2.2.2.2.2.1, hne.2.2.2.2.2.2, low _ hlt.1.2.2.2.2⟩
    h8 := h8
    h9 := h9
    h10 := by rw [lastC_s hx]; exact h10
    hu := hu
    hv := hv
    hgl := by rw [List.length_append, h.hgl]; rfl
    hgs := fun i p y h1 h2 => (hrow i p y h1 h2).keepN hk ((hall p (List.mem_of_getElem? h1)).1.mono fun z hz => ⟨by omega, by omega, by omega, hz.2.2⟩) (fun q hq => ((hall p (List.mem_of_getElem? h1)).2 q hq).mono fun z hz => ⟨by omega, by omega, by omega, hz.2.2⟩)
    hgd := fun p hp' => (hall p hp').mono fun z hz => ⟨hz.1, by have := hk.size; omega, fun e => by
      rcases hu' z e.symm with h1 | h1
      · exact hz.2.2.1 h1.symm
      · omega, fun e => by
      rcases hv' z e.symm with h1 | h1
      · exact hz.2.2.2 h1.symm
      · omega⟩
    hul := fun z hz => by
      rcases hu' z hz with h1 | h1
      · exact h.hul z h1
      · show lo ≤ z; omega
    hvl := fun z hz => by
      rcases hv' z hz with h1 | h1
      · exact h.hvl z h1
      · show lo ≤ z; omega
    huv := huv'
    hok := fun i hi y hy => by
      by_cases hik : i < k
      · exact h.hok i hik y hy
      · obtain rfl : i = k := by omega
        rw [hx] at hy; injection hy with hy; subst hy; exact hok
    kw := h.kw.outA (B := fun z => z = b8 ∨ z = b9 ∨ z = b10 ∨ some z = u.ownBlock ∨ some z = ev.ownBlock) (hk.mono fun z _ hz => ⟨fun e => hz (.inl e), fun e => hz (.inr (.inl e)), fun e => hz (.inr (.inr (.inl e))), fun e => hz (.inr (.inr (.inr (.inl e)))), fun e => hz (.inr (.inr (.inr (.inr e))))⟩) (fun z hz => by
      rcases hz with rfl | rfl | rfl | h1 | h1
      · exact hlt.2.2.1.1
      · exact hlt.2.2.1.2.1
      · exact hlt.2.2.1.2.2
      · have := h.hul z h1.symm; omega
      · have := h.hvl z h1.symm; omega) }
end Go.Proofs.YtigehkfdfecfoaaDoor.B
