/-
  Slices: one's own (append), and any that are read.
-/
import Derived.Test.YtkmciohghhffnaaMem
namespace Go.Proofs.Ytkmciohghhffnaa.B
open Go
set_option linter.unusedVariables false

/-! ### A slice of one's own -/
abbrev Own (w : World) (e sz : Nat) (v : Value) (n : Nat) (xs : List Value) : Prop := w.ownsRow 0 e sz v n xs
/-- The block of a slice is one of these. -/
def InB (A : Nat → Prop) (v : Value) : Prop := ∀ b, v.ownBlock = some b → A b
theorem InB.mono {A A' : Nat → Prop} {v : Value} (h : InB A v) (hA : ∀ b, A b → A' b) : InB A' v := fun b hb => hA b (h b hb)
theorem InB.nil {A : Nat → Prop} : InB A (.slice none 0 0) := fun _ h => by cases h
theorem own_nil (w : World) (e sz : Nat) : Own w e sz (.slice none 0 0) 0 [] := World.ownsRow_nil w 0 e sz
theorem Own.base {w : World} {B e sz : Nat} {v : Value} {n : Nat} {xs : List Value} (h : w.ownsRow B e sz v n xs) : Own w e sz v n xs := by
  refine ⟨h.1, ?_⟩
  rcases h.2 with h2 | ⟨g, cap, cur, hv, hg, r⟩
  · exact .inl h2
  · exact .inr ⟨g, cap, cur, hv, Nat.zero_le _, r⟩
theorem Own.keep {w w' : World} {A : Nat → Prop} {e sz : Nat} {v : Value} {n : Nat} {xs : List Value} (h : Own w e sz v n xs) (hk : Keep A w w') (hA : InB A v) : Own w' e sz v n xs := by
  refine ⟨h.1, ?_⟩
  rcases h.2 with h2 | ⟨g, cap, cur, rfl, hg, hh, r⟩
  · exact .inl h2
  · exact .inr ⟨g, cap, cur, rfl, hg, hk.get hh (hA g rfl), r⟩
theorem Own.lt {w : World} {e sz : Nat} {v : Value} {n : Nat} {xs : List Value} (h : Own w e sz v n xs) : InB (· < w.heap.size) v := fun b hb => (World.ownsRow.lt h b hb).2
theorem Own.len {w : World} {e sz : Nat} {v : Value} {n : Nat} {xs : List Value} (h : Own w e sz v n xs) : xs.length = n * sz := h.1
/-- A row that was made whole is one's own. -/
theorem Own.blk {w : World} {e sz b n : Nat} {l : List Value} (h : Blk w b l e) (hl : l.length = n * sz) (hn : n ≤ maxLen) : Own w e sz (.slice (some ⟨b, 0, none⟩) n n) n l :=
  ⟨hl, .inr ⟨b, n, l.toArray, rfl, Nat.zero_le _, h, Nat.le_refl _, hn, by simpa using hl, by simp [← hl]⟩⟩
theorem Own.form {w : World} {e sz : Nat} {v : Value} {n : Nat} {xs : List Value} (h : Own w e sz v n xs) : ∃ a c, v = .slice a n c ∧ n ≤ c ∧ c ≤ maxLen := by
  rcases h.2 with ⟨rfl, rfl⟩ | ⟨g, cap, cur, rfl, _, _, h1, h2, _⟩
  · exact ⟨_, _, rfl, Nat.le_refl _, Nat.zero_le _⟩
  · exact ⟨_, _, rfl, h1, h2⟩

/-- A row of one's own was written behind a step that kept A. -/
theorem Keep.own {A : Nat → Prop} {w w1 w2 : World} {u : Value} (h : Keep A w w1) (h2 : Keep (fun b => some b ≠ u.ownBlock) w1 w2) (hb : InB (fun b => A b → w.heap.size ≤ b) u) : Keep A w w2 := by
  refine ⟨h2.os.trans h.os, h2.tape.trans h.tape, h2.output.trans h.output, Nat.le_trans h.size h2.size, fun k hk hA => ?_⟩
  rw [h2.blk k (Nat.lt_of_lt_of_le hk h.size) (fun e => by have := hb k e.symm hA; omega)]
  exact h.blk k hk hA

theorem run_app {P : Program} {w : World} {t ty e : TypeId} {z : Value} {sz by_ : Nat} {v : Value} {m k c : Nat} {xs news : List Value} {ad : Addr}
    (ht : P.underlying t = some (.slice e)) (hi : tinfo P e = some (some z, sz, by_)) (hzs : z.cells.size = sz) (hsz : 0 < sz)
    (hown : Own w e sz v m xs) (hl : news.length = k * sz) (hnews : ∀ (j : Nat) (u : Value), news[j]? = some u → w.cell? (ad.add j) = some u) (h1 : news.all one = true)
    (h63 : m + k ≤ maxLen) (hby : (m + k) * by_ ≤ 140737488355328) :
    ∃ v' w', (Builtin.append_ #[t, t] ty #[v, .slice (some ad) k c]).run P w = .ok v' w' ∧ Own w' e sz v' (m + k) (xs ++ news) ∧ Keep (fun b => some b ≠ v.ownBlock) w w' ∧
      InB (fun b => v.ownBlock = some b ∨ w.heap.size ≤ b) v' ∧ (v' = .slice none 0 0 ↔ v = .slice none 0 0 ∧ k = 0) := by
  obtain ⟨i, hi1, hi2, hi3, hi4⟩ := tinfo_info hi
  have h1' : ∀ u ∈ news, u.oneCell' = true := fun u hu => one_oneCell (List.all_eq_true.1 h1 u hu)
  rcases hown.2 with ⟨hv, hm⟩ | ⟨g, cap, cur, hv, _, hg, hnc, hcm, hcs, htake⟩
  · subst hv; subst hm
    have hx : xs = [] := List.eq_nil_of_length_eq_zero (by simpa using hown.1)
    subst hx
    obtain ⟨v', w', hr, ho, hgr, hn⟩ := run_append_own (P := P) w w.heap.size t ty e i z sz by_ ht hi1 hi2 hi3 hi4 hzs hsz _ 0 [] (World.ownsRow_nil w _ e sz) ad k c news hl hnews h1' h63 hby (Nat.le_refl _)
    exact ⟨v', w', hr, Own.base ho, Keep.grown hgr, fun b hb => .inr (ho.lt b hb).1, hn⟩
  · subst hv
    obtain ⟨v', w', hr, ho, hgr, hn⟩ := run_append_own (P := P) w 0 t ty e i z sz by_ ht hi1 hi2 hi3 hi4 hzs hsz _ m xs hown ad k c news hl hnews h1' h63 hby (Nat.zero_le _)
    refine ⟨v', w', hr, ho, Keep.grown hgr, ?_, hn⟩
    subst hi3
    by_cases hroom : m + k ≤ cap
    · have hfit : m * i.size + news.length ≤ cur.size := by rw [hl, hcs, ← Nat.add_mul]; exact Nat.mul_le_mul_right _ hroom
      have hr2 := run_append_room (P := P) w t ty e i ht hi1 g m cap cur hg ad k c news hl hnews h1' hroom hfit
      rw [hr] at hr2
      injection hr2 with e1 e2
      subst e1
      intro b hb
      exact .inl hb
    · have holds : ∀ j u, xs[j]? = some u → w.cell? ((⟨g, 0, none⟩ : Addr).add j) = some u := hown.cells (g := g) rfl
      have hr2 := run_append_grow (P := P) w t ty e i z ht hi1 hi2 ⟨g, 0, none⟩ m cap xs hown.1 holds ad k c news hl hnews (by omega) (by unfold maxLen at h63; omega) (growslice_fits (by omega) (by rw [hi4]; exact hby))
      rw [hr] at hr2
      injection hr2 with e1 e2
      subst e1
      intro b hb
      simp only [Value.ownBlock, Option.some.injEq] at hb
      exact .inr (by omega)

section
variable {f0 : Bool} {c0 : Ctx} {P : Program} {n : Nat} {ops : Array Oper} {F : Fr} {w : World} {K : Fr → World → Prop} {rest : List Oper} {dst : Option Tmp} {ty : TypeId} {pos : String} {after : Array Edge} {g : Option (Nat × Bool)}
/-- append of a slice's elements onto a slice of one's own. -/
theorem o_app {s x : Operand} {t e : TypeId} {z : Value} {sz by_ : Nat} {v : Value} {m k c : Nat} {xs : List Value} {ad : Addr} (news : List Value)
    (hs : ev F s = v) (hx : ev F x = .slice (some ad) k c) (ht : P.underlying t = some (.slice e)) (hi : tinfo P e = some (some z, sz, by_)) (hzs : z.cells.size = sz) (hsz : 0 < sz)
    (hown : Own w e sz v m xs) (hl : news.length = k * sz) (hnews : ∀ (j : Nat) (u : Value), news[j]? = some u → w.cell? (ad.add j) = some u) (h1 : news.all one = true)
    (h63 : m + k ≤ maxLen) (hby : (m + k) * by_ ≤ 140737488355328)
    (hg : wantedF ops F ⟨dst, .call ⟨.builtin .append, #[s, x], #[t, t]⟩, ty, pos, after, g⟩ = true)
    (h : ∀ v' w', Own w' e sz v' (m + k) (xs ++ news) → Keep (fun b => some b ≠ v.ownBlock) w w' → InB (fun b => v.ownBlock = some b ∨ w.heap.size ≤ b) v' → OpsW f0 c0 P n ops rest (updo n F dst v') w' K) :
    OpsW f0 c0 P n ops (⟨dst, .call ⟨.builtin .append, #[s, x], #[t, t]⟩, ty, pos, after, g⟩ :: rest) F w K := by
  obtain ⟨v', w', hr, ho, hk, hb, _⟩ := run_app (P := P) (ty := ty) (c := c) ht hi hzs hsz hown hl hnews h1 h63 hby
  refine op_run0 (v := v') (w' := w') ?_ hg (h v' w' ho hk hb)
  (try unfold Run1); simp [execOp, resolve, invoke, builtin, hs, hx, hr]
/-- append of one value: 'append(s, x)'. -/
theorem o_app1 {s x : Operand} {t e : TypeId} {z u : Value} {by_ : Nat} {v : Value} {m b : Nat} {xs : List Value} {e' : TypeId}
    (hs : ev F s = v) (hx : ev F x = .slice (some ⟨b, 0, none⟩) 1 1) (hb : Blk w b [u] e') (hu : one u = true) (ht : P.underlying t = some (.slice e)) (hi : tinfo P e = some (some z, 1, by_)) (hz : one z = true)
    (hown : Own w e 1 v m xs) (h63 : m + 1 ≤ maxLen) (hby : (m + 1) * by_ ≤ 140737488355328)
    (hg : wantedF ops F ⟨dst, .call ⟨.builtin .append, #[s, x], #[t, t]⟩, ty, pos, after, g⟩ = true)
    (h : ∀ v' w', Own w' e 1 v' (m + 1) (xs ++ [u]) → Keep (fun b => some b ≠ v.ownBlock) w w' → InB (fun b => v.ownBlock = some b ∨ w.heap.size ≤ b) v' → OpsW f0 c0 P n ops rest (updo n F dst v') w' K) :
    OpsW f0 c0 P n ops (⟨dst, .call ⟨.builtin .append, #[s, x], #[t, t]⟩, ty, pos, after, g⟩ :: rest) F w K :=
  o_app [u] hs hx ht hi (by rw [cells_one hz]; rfl) (by omega) hown rfl (fun j u' hj => by
    have hc := hb.cells 0 1 j u' (by simpa using hj)
    exact hc) (by simp [hu]) h63 hby hg h
end

/-! ### Any slice that is read -/
/-- Slice 'v' of 'n' elements, 'sz' cells each, has the cells 'cs'. -/
def Sl (w : World) (v : Value) (n sz : Nat) (cs : List Value) : Prop :=
  ∃ a c, v = .slice a n c ∧ n ≤ c ∧ c ≤ maxLen ∧ cs.length = n * sz ∧ (a = none → c = 0) ∧ (∀ x, a = some x → ∀ (i : Nat) (u : Value), cs[i]? = some u → x.spot = none ∧ w.cell? ⟨x.block, x.off + i, none⟩ = some u)
theorem Sl.keep {w w' : World} {A : Nat → Prop} {v : Value} {n sz : Nat} {cs : List Value} (h : Sl w v n sz cs) (hk : Keep A w w') (hA : InB A v) : Sl w' v n sz cs := by
  obtain ⟨a, c, rfl, h1, h2, h3, h4, h5⟩ := h
  exact ⟨a, c, rfl, h1, h2, h3, h4, fun x hx i u hu => ⟨(h5 x hx i u hu).1, hk.cell (h5 x hx i u hu).2 (hA x.block (by rw [hx]; rfl))⟩⟩
theorem Sl.nil (w : World) (sz : Nat) : Sl w (.slice none 0 0) 0 sz [] := ⟨none, 0, rfl, Nat.le_refl _, Nat.zero_le _, by simp, fun _ => rfl, fun x hx => by cases hx⟩
theorem Own.sl {w : World} {e sz : Nat} {v : Value} {n : Nat} {xs : List Value} (h : Own w e sz v n xs) : Sl w v n sz xs := by
  rcases h.2 with ⟨rfl, rfl⟩ | ⟨g, cap, cur, rfl, _, hg, h1, h2, h3, h4⟩
  · exact ⟨none, 0, rfl, Nat.le_refl _, Nat.zero_le _, by simpa using h.1, fun _ => rfl, fun x hx => by cases hx⟩
  · refine ⟨_, _, rfl, h1, h2, h.1, (fun e => by cases e), fun x hx i u hu => ?_⟩
    injection hx with hx; subst hx
    have := h.cells (g := g) rfl i u hu
    rw [Addr.add_lit] at this
    exact ⟨rfl, this⟩
theorem Sl.form {w : World} {v : Value} {n sz : Nat} {cs : List Value} (h : Sl w v n sz cs) : ∃ a c, v = .slice a n c ∧ n ≤ c ∧ c ≤ maxLen := by
  obtain ⟨a, c, h1, h2, h3, _⟩ := h; exact ⟨a, c, h1, h2, h3⟩
theorem Sl.len {w : World} {v : Value} {n sz : Nat} {cs : List Value} (h : Sl w v n sz cs) : cs.length = n * sz := by
  obtain ⟨a, c, _, _, _, h1, _⟩ := h; exact h1
/-- A slice with something in it: where it lies. -/
theorem Sl.at {w : World} {v : Value} {n sz : Nat} {cs : List Value} (h : Sl w v n sz cs) (hn : 0 < n * sz) : ∃ b off c, v = .slice (some ⟨b, off, none⟩) n c ∧ n ≤ c ∧ c ≤ maxLen ∧ ∀ (i : Nat) (u : Value), cs[i]? = some u → w.cell? ⟨b, off + i, none⟩ = some u := by
  obtain ⟨a, c, rfl, h1, h2, h3, h4, h5⟩ := h
  cases a with
  | none =>
    have := h4 rfl
    subst this
    obtain rfl : n = 0 := by omega
    simp at hn
  | some x =>
    obtain ⟨b, off, sp⟩ := x
    have h0 : 0 < cs.length := by omega
    have := (h5 _ rfl 0 cs[0] (by simp [h0])).1
    simp only at this
    subst this
    exact ⟨b, off, c, rfl, h1, h2, fun i u hu => (h5 _ rfl i u hu).2⟩

theorem Run1.val {P : Program} {F : Fr} {o : Oper} {w w' : World} {v v' : Value} (h : Run1 P F o w v w') (e : v = v') : Run1 P F o w v' w' := by subst e; exact h
section
variable {f0 : Bool} {c0 : Ctx} {P : Program} {n : Nat} {ops : Array Oper} {F : Fr} {w : World} {K : Fr → World → Prop} {rest : List Oper} {dst : Option Tmp} {ty : TypeId} {pos : String} {after : Array Edge} {g : Option (Nat × Bool)}
/-- append of any slice's elements onto a slice of one's own. -/
theorem o_appS {s x : Operand} {t e : TypeId} {z : Value} {sz by_ : Nat} {v vx : Value} {m k : Nat} {xs news : List Value}
    (hs : ev F s = v) (hx : ev F x = vx) (hsl : Sl w vx k sz news) (ht : P.underlying t = some (.slice e)) (hi : tinfo P e = some (some z, sz, by_)) (hzs : z.cells.size = sz) (hsz : Nat.blt 0 sz = true)
    (hown : Own w e sz v m xs) (h1 : news.all one = true)
    (h63 : m + k ≤ maxLen) (hby : (m + k) * by_ ≤ 140737488355328)
    (hg : wantedF ops F ⟨dst, .call ⟨.builtin .append, #[s, x], #[t, t]⟩, ty, pos, after, g⟩ = true)
    (h : ∀ v' w', Own w' e sz v' (m + k) (xs ++ news) → Keep (fun b => some b ≠ v.ownBlock) w w' → InB (fun b => v.ownBlock = some b ∨ w.heap.size ≤ b) v' → OpsW f0 c0 P n ops rest (updo n F dst v') w' K) :
    OpsW f0 c0 P n ops (⟨dst, .call ⟨.builtin .append, #[s, x], #[t, t]⟩, ty, pos, after, g⟩ :: rest) F w K := by
  have hsz' : 0 < sz := Nat.lt_of_lt_of_le (Nat.zero_lt_succ 0) (Nat.le_of_ble_eq_true hsz)
  obtain ⟨a, c, rfl, hkc, _, hl, hnone, hcell⟩ := hsl
  cases a with
  | none =>
    have := hnone rfl
    subst this
    obtain rfl : k = 0 := by omega
    have hn : news = [] := List.eq_nil_of_length_eq_zero (by simpa using hl)
    subst hn
    obtain ⟨i, hi1, hi2, hi3, hi4⟩ := tinfo_info hi
    obtain ⟨av, cv, hv, hmc, _⟩ := hown.form
    refine op_run0 (v := v) (w' := w) ?_ hg (h v w (by simpa using hown) (Keep.refl _) (fun b hb => .inl hb))
    unfold Run1
    subst hv
    cases av <;> simp [execOp, resolve, invoke, builtin, hs, hx, Builtin.append_, run_underlying ht, sizeOf, typeInfo, hi1, Builtin.lenOf, hmc, Builtin.firstCells, storeCells]
  | some ad =>
    refine o_app news hs hx ht hi hzs hsz' hown hl (fun j u hu => ?_) h1 h63 hby hg h
    obtain ⟨h2, h3⟩ := hcell ad rfl j u hu
    obtain ⟨b, off, sp⟩ := ad
    simp only at h2; subst h2
    rw [Addr.add_lit]; exact h3
end
end Go.Proofs.Ytkmciohghhffnaa.B
