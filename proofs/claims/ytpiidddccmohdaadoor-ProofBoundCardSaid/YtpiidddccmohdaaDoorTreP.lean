/-
  trie: Prove.
-/
import Derived.Test.YtpiidddccmohdaaDoorTreK
namespace Go.Proofs.YtpiidddccmohdaaDoor.B
open Go
set_option linter.unusedVariables false
set_option maxHeartbeats 2000000
set_option maxRecDepth 100000
attribute [local irreducible] W OpsW OpsQ retP
theorem own_ne {w : World} {e1 e2 s1 s2 : Nat} {v u : Value} {n m : Nat} {xs ys : List Value} (h1 : Own w e1 s1 v n xs) (h2 : Own w e2 s2 u m ys) (he : e1 ≠ e2) {z : Nat} (hz : v.ownBlock = some z) : some z ≠ u.ownBlock := by
  intro hu
  rcases h1.2 with ⟨rfl, _⟩ | ⟨g, cap, cur, rfl, _, hg, _⟩
  · cases hz
  · rcases h2.2 with ⟨rfl, _⟩ | ⟨g2, cap2, cur2, rfl, _, hg2, _⟩
    · cases hu
    · obtain rfl : g = z := Option.some.inj hz
      obtain rfl : g = g2 := Option.some.inj hu
      rw [hg] at hg2
      injection hg2 with h; injection h with _ h
      exact he h
/-- Rows of bytes, each with a row of its own. -/
def RowsO (w : World) (lo : Nat) : List Value → List (List UInt8) → Prop
  | [], [] => True
  | v :: vs, b :: bs => OwnB w 5 v b ∧ InB (fun z => lo ≤ z) v ∧ RowsO w lo vs bs
  | _, _ => False
theorem RowsO.len {w : World} {lo : Nat} : ∀ {vs : List Value} {bs : List (List UInt8)}, RowsO w lo vs bs → vs.length = bs.length
  | [], [], _ => rfl
  | _ :: _, _ :: _, h => by rw [List.length_cons, List.length_cons, RowsO.len h.2.2]
  | [], _ :: _, h => h.elim
  | _ :: _, [], h => h.elim
theorem RowsO.k {w w' : World} {lo : Nat} {C : Nat → Prop} (hk : Keep C w w') (hC : ∀ (v : Value) (b : List UInt8) (z : Nat), OwnB w 5 v b → InB (fun z => lo ≤ z) v → v.ownBlock = some z → C z) : ∀ {vs : List Value} {bs : List (List UInt8)}, RowsO w lo vs bs → RowsO w' lo vs bs
  | [], [], _ => trivial
  | _ :: _, _ :: _, h => ⟨Own.keep h.1 hk (fun z hz => hC _ _ z h.1 h.2.1 hz), h.2.1, RowsO.k hk hC h.2.2⟩
  | [], _ :: _, h => h.elim
  | _ :: _, [], h => h.elim
theorem RowsO.snoc {w : World} {lo : Nat} {v : Value} {b : List UInt8} (h1 : OwnB w 5 v b) (h2 : InB (fun z => lo ≤ z) v) : ∀ {vs : List Value} {bs : List (List UInt8)}, RowsO w lo vs bs → RowsO w lo (vs ++ [v]) (bs ++ [b])
  | [], [], _ => ⟨h1, h2, trivial⟩
  | _ :: _, _ :: _, h => ⟨h.1, h.2.1, RowsO.snoc h1 h2 h.2.2⟩
  | [], _ :: _, h => h.elim
  | _ :: _, [], h => h.elim
theorem RowsO.mono {w : World} {lo lo' : Nat} (hl : lo' ≤ lo) : ∀ {vs : List Value} {bs : List (List UInt8)}, RowsO w lo vs bs → RowsO w lo' vs bs
  | [], [], _ => trivial
  | _ :: _, _ :: _, h => ⟨h.1, h.2.1.mono fun z hz => Nat.le_trans hl hz, RowsO.mono hl h.2.2⟩
  | [], _ :: _, h => h.elim
  | _ :: _, [], h => h.elim
theorem RowsO.get {w : World} {lo : Nat} : ∀ {vs : List Value} {bs : List (List UInt8)} {i : Nat} {b : List UInt8}, RowsO w lo vs bs → bs[i]? = some b → ∃ v, vs[i]? = some v ∧ OwnB w 5 v b ∧ InB (fun z => lo ≤ z) v
  | [], [], i, b, _, h => by cases h
  | v :: vs, c :: bs, 0, b, h, hb => by simp at hb; subst hb; exact ⟨v, rfl, h.1, h.2.1⟩
  | v :: vs, c :: bs, i + 1, b, h, hb => by rw [List.getElem?_cons_succ] at hb ⊢; exact RowsO.get h.2.2 hb
  | [], _ :: _, _, _, h, _ => h.elim
  | _ :: _, [], _, _, h, _ => h.elim
theorem wayT_sub : ∀ (T : Tre) (r : List UInt8) (L : Nat), T.wf L → T.short → ∀ x ∈ wayT T r, ∃ L', x.1.wf L' ∧ x.1.short := by
  intro T
  induction T with
  | no => intro r L _ _ x h; cases h
  | leaf b v => intro r L hw hs x h; rw [List.mem_singleton.1 (show x ∈ [((Tre.leaf b v, r) : Tre × List UInt8)] from h)]; exact ⟨L, hw, hs⟩
  | branch b k ih =>
    intro r L hw hs x h
    rw [wayT] at h
    rcases List.mem_cons.1 h with rfl | h
    · exact ⟨L, hw, hs⟩
    · split at h
      · cases h
      · exact ih _ _ _ (hw.2.2.1 _) (hs.2 _) x h
theorem wayT_len : ∀ (T : Tre) (r : List UInt8) (L : Nat), T.wf L → (wayT T r).length ≤ L + 1 := by
  intro T
  induction T with
  | no => intro r L _; exact Nat.zero_le _
  | leaf b v => intro r L _; show 1 ≤ L + 1; omega
  | branch b k ih =>
    intro r L hw
    rw [wayT, List.length_cons]
    split
    · simp
    · have := ih (r.getD b.length 0).toNat (r.drop (b.length + 1)) _ (hw.2.2.1 _)
      have := hw.1
      omega
def proveT (T : Tre) (key : Dig) : List (List UInt8) := (wayT T (nibs key.val)).map fun x => nodeB x.1
theorem ti_bssP : tinfo Tryd.prog 27 = some (some (.slice none 0 0), 1, 24) := by kernel_rfl
theorem ne_rows : (5 : Nat) ≠ 27 := by decide
theorem OwnB.one1 {w : World} {e : TypeId} {v : Value} {xs : List UInt8} (h : OwnB w e v xs) : one v = true := (OwnB.by_ h).one1
end Go.Proofs.YtpiidddccmohdaaDoor.B
