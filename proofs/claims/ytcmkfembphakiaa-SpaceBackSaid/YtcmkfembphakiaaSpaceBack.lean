/-
  SpaceBack: extents, and what they say of a space.
-/
import Derived.Test.YtcmkfembphakiaaSpaceCalls
import Derived.Test.YtcmkfembphakiaaOfRow
namespace Go.Proofs.Ytcmkfembphakiaa.B
open Go
set_option linter.unusedVariables false
set_option maxHeartbeats 2000000
set_option maxRecDepth 100000
attribute [local irreducible] W OpsW OpsQ retP
/-- Extents as cells. -/
def exC : List (Nat × Nat) → List Value
  | [] => []
  | x :: l => .int .i64 x.1 :: .int .i64 x.2 :: exC l
theorem exC_len : ∀ l, (exC l).length = l.length * 2
  | [] => rfl
  | x :: l => by simp only [exC, List.length_cons, exC_len l]; omega
theorem exC_app : ∀ l m, exC (l ++ m) = exC l ++ exC m
  | [], m => rfl
  | x :: l, m => by simp only [exC, List.cons_append, exC_app l m]
theorem exC_take : ∀ l i, (exC l).take (i * 2) = exC (l.take i)
  | [], i => by simp [exC]
  | x :: l, 0 => by simp [exC]
  | x :: l, i + 1 => by rw [show (i + 1) * 2 = i * 2 + 1 + 1 by omega]; simp only [exC, List.take_succ_cons, exC_take l i]
theorem exC_drop : ∀ l i, (exC l).drop (i * 2) = exC (l.drop i)
  | [], i => by simp [exC]
  | x :: l, 0 => by simp [exC]
  | x :: l, i + 1 => by rw [show (i + 1) * 2 = i * 2 + 1 + 1 by omega]; simp only [exC, List.drop_succ_cons, exC_drop l i]
theorem exC_one : ∀ l, (exC l).all one = true
  | [] => rfl
  | x :: l => by simp only [exC, List.all_cons, exC_one l]; rfl
theorem exC_get {l : List (Nat × Nat)} {i : Nat} (hi : i < l.length) : (exC l)[i * 2]? = some (.int .i64 l[i].1) ∧ (exC l)[i * 2 + 1]? = some (.int .i64 l[i].2) := by
  have h := exC_drop l i
  rw [List.drop_eq_getElem_cons hi] at h
  constructor
  · have h2 := congrArg (fun x : List Value => x[0]?) h
    simpa [exC] using h2
  · have h2 := congrArg (fun x : List Value => x[1]?) h
    simpa [exC] using h2
/-- Where an extent lies in a slice that is read. -/
theorem ex_at {w : World} {l : List (Nat × Nat)} {a : Option Addr} {c : Nat} {i : Nat} (h : Sl w (.slice a l.length c) l.length 2 (exC l)) (hi : i < l.length) :
    ∃ b off, a = some ⟨b, off, none⟩ ∧ w.cell? ⟨b, off + i * 2, none⟩ = some (.int .i64 l[i].1) ∧ w.cell? ⟨b, off + i * 2 + 1, none⟩ = some (.int .i64 l[i].2) := by
  obtain ⟨b, off, c', e, _, _, hc⟩ := h.at (by omega)
  injection e with e1 e2 e3
  have hg := exC_get hi
  exact ⟨b, off, e1, by have := hc _ _ hg.1; exact this, by have := hc _ _ hg.2; exact this⟩
/-- The sectors that are taken by extents, and the first ones. -/
def exF (fs : Nat) (l : List (Nat × Nat)) (i : Nat) : Bool := decide (i < fs) || l.any fun x => decide (x.1 ≤ i ∧ i < x.1 + x.2)
theorem exF_t {fs : Nat} {l : List (Nat × Nat)} {i : Nat} : exF fs l i = true ↔ i < fs ∨ ∃ x ∈ l, x.1 ≤ i ∧ i < x.1 + x.2 := by
  unfold exF; simp
theorem exF_f {fs : Nat} {l : List (Nat × Nat)} {i : Nat} : exF fs l i = false ↔ ¬ i < fs ∧ ∀ x ∈ l, ¬ (x.1 ≤ i ∧ i < x.1 + x.2) := by
  rw [← Bool.not_eq_true, exF_t]
  constructor
  · intro h
    exact ⟨fun h1 => h (.inl h1), fun x hx h1 => h (.inr ⟨x, hx, h1⟩)⟩
  · rintro ⟨h1, h2⟩ (h | ⟨x, hx, h⟩)
    · exact h1 h
    · exact h2 x hx h
def apart (x y : Nat × Nat) : Prop := x.1 + x.2 ≤ y.1 ∨ y.1 + y.2 ≤ x.1
structure OkL (S fs : Nat) (l : List (Nat × Nat)) : Prop where
  ap : l.Pairwise apart
  lo : ∀ x ∈ l, fs ≤ x.1
  hi : ∀ x ∈ l, x.1 + x.2 ≤ S
  ne : ∀ x ∈ l, 1 ≤ x.2
theorem OkL.nil (S fs : Nat) : OkL S fs [] := ⟨List.Pairwise.nil, (fun _ h => absurd h (by simp)), (fun _ h => absurd h (by simp)), (fun _ h => absurd h (by simp))⟩
theorem free_apart {fs p n : Nat} {l : List (Nat × Nat)} (hn : 1 ≤ n) (hw : win (exF fs l) p n) {x : Nat × Nat} (hx : x ∈ l) (h1 : 1 ≤ x.2) : apart x (p, n) := by
  unfold apart
  rcases Nat.lt_or_ge p x.1 with hp | hp
  · rcases Nat.lt_or_ge x.1 (p + n) with hq | hq
    · have := (exF_f.1 (hw x.1 (by omega) (by omega))).2 x hx
      omega
    · exact .inr hq
  · have := (exF_f.1 (hw p (by omega) (by omega))).2 x hx
    simp only
    omega
theorem OkL.add {S fs p n : Nat} {l : List (Nat × Nat)} (h : OkL S fs l) (hn : 1 ≤ n) (hp : p + n ≤ S) (hw : win (exF fs l) p n) : OkL S fs (l ++ [(p, n)]) := by
  refine ⟨?_, ?_, ?_, ?_⟩
  · rw [List.pairwise_append]
    refine ⟨h.ap, List.pairwise_singleton _ _, fun x hx y hy => ?_⟩
    rw [List.mem_singleton] at hy
    subst hy
    exact free_apart hn hw hx (h.ne x hx)
  all_goals
    intro x hx
    rw [List.mem_append, List.mem_singleton] at hx
    rcases hx with hx | rfl
  · exact h.lo x hx
  · have := (exF_f.1 (hw p (by omega) (by omega))).1
    simp only; omega
  · exact h.hi x hx
  · exact hp
  · exact h.ne x hx
  · exact hn
theorem exF_add (fs p n : Nat) (l : List (Nat × Nat)) : turnF (exF fs l) p n true = exF fs (l ++ [(p, n)]) := by
  funext i
  rw [Bool.eq_iff_iff, exF_t]
  unfold turnF
  simp only [List.mem_append, List.mem_singleton]
  by_cases hc : p ≤ i ∧ i < p + n
  · rw [if_pos hc]
    exact ⟨fun _ => .inr ⟨_, .inr rfl, hc⟩, fun _ => rfl⟩
  · rw [if_neg hc, exF_t]
    constructor
    · rintro (h | ⟨x, hx, h⟩)
      · exact .inl h
      · exact .inr ⟨x, .inl hx, h⟩
    · rintro (h | ⟨x, hx | rfl, h⟩)
      · exact .inl h
      · exact .inr ⟨x, hx, h⟩
      · exact absurd h hc
theorem OkL.drop1 {S fs : Nat} {l m : List (Nat × Nat)} {x : Nat × Nat} (h : OkL S fs (l ++ x :: m)) : OkL S fs (l ++ m) ∧ turnF (exF fs (l ++ x :: m)) x.1 x.2 false = exF fs (l ++ m) := by
  have hs : ∀ y, y ∈ l ++ m → y ∈ l ++ x :: m := fun y hy => by
    rw [List.mem_append] at hy ⊢
    rcases hy with hy | hy
    · exact .inl hy
    · exact .inr (List.mem_cons_of_mem _ hy)
  refine ⟨⟨h.ap.sublist (List.Sublist.append_left (List.sublist_cons_self x m) l), fun y hy => h.lo y (hs y hy), fun y hy => h.hi y (hs y hy), fun y hy => h.ne y (hs y hy)⟩, ?_⟩
  have hx : x ∈ l ++ x :: m := by simp
  have hap : ∀ y, y ∈ l ++ m → apart x y := fun y hy => by
    have h1 := h.ap
    rw [List.pairwise_append, List.pairwise_cons] at h1
    rw [List.mem_append] at hy
    rcases hy with hy | hy
    · exact (h1.2.2 y hy x (by simp)).symm
    · exact h1.2.1.1 y hy
  funext i
  rw [Bool.eq_iff_iff, exF_t]
  unfold turnF
  by_cases hc : x.1 ≤ i ∧ i < x.1 + x.2
  · rw [if_pos hc]
    constructor
    · intro h'; cases h'
    · rintro (h' | ⟨y, hy, h'⟩)
      · have := h.lo x hx; omega
      · have := hap y hy; unfold apart at this; omega
  · rw [if_neg hc, exF_t]
    constructor
    · rintro (h' | ⟨y, hy, h'⟩)
      · exact .inl h'
      · rw [List.mem_append, List.mem_cons] at hy
        rcases hy with hy | rfl | hy
        · exact .inr ⟨y, List.mem_append.2 (.inl hy), h'⟩
        · exact absurd h' hc
        · exact .inr ⟨y, List.mem_append.2 (.inr hy), h'⟩
    · rintro (h' | ⟨y, hy, h'⟩)
      · exact .inl h'
      · exact .inr ⟨y, hs y hy, h'⟩
theorem and_65535 (a : Int) : ∃ m : Nat, m ≤ 65535 ∧ bitw .and .i64 a 65535 = (m : Int) := by
  have h : (BitVec.ofInt IntKind.i64.bits a &&& BitVec.ofInt IntKind.i64.bits 65535).toNat ≤ 65535 := by
    rw [BitVec.toNat_and]
    exact Nat.and_le_right
  refine ⟨_, h, ?_⟩
  show IntKind.i64.wrap ((BitVec.ofInt IntKind.i64.bits a &&& BitVec.ofInt IntKind.i64.bits 65535).toNat : Int) = _
  rw [wrap_i64 (by omega) (by omega)]
/-- Take of m + 1 sectors. -/
theorem sp_Take_ex {w : World} {b : Nat} {A : Nat → Prop} {sz fs m : Nat} {l : List (Nat × Nat)} (h : SpC w b A sz (exF fs l)) (hl : OkL sz fs l) :
    Ret Try.prog 8 [.pointer (some ⟨b, 0, none⟩), .int .i64 ((m + 1 : Nat) : Int)].toArray w fun r w' => ∃ (p : Nat) (e : Int), r = .tuple #[.int .i64 p, .int .i64 e] ∧
      ((e = 0 ∧ p + (m + 1) ≤ sz ∧ (∀ x ∈ l, apart x (p, m + 1)) ∧ OkL sz fs (l ++ [(p, m + 1)]) ∧ SpC w' b A sz (exF fs (l ++ [(p, m + 1)]))) ∨ (e ≠ 0 ∧ SpC w' b A sz (exF fs l))) ∧ Keep (fun k => ¬ A k) w w' := by
  refine Calls.mono (sp_Take' h) fun e w' ⟨u, he, p, e', h1, h2, h3, h4⟩ => ⟨u, he, ?_⟩
  rcases h2 with ⟨h5, _⟩ | ⟨_, h6, q, rfl, h7, h8, _⟩ | ⟨_, h5, h6, _⟩
  · omega
  · refine ⟨q, e', h1, .inl ⟨h6, ?_, ?_, ?_, ?_⟩, h4⟩
    · rw [Int.toNat_natCast] at h7; exact h7
    · rw [Int.toNat_natCast] at h8
      exact fun x hx => free_apart (by omega) h8 hx (hl.ne x hx)
    · rw [Int.toNat_natCast] at h7 h8
      exact hl.add (by omega) h7 h8
    · rw [if_pos h6, Int.toNat_natCast, Int.toNat_natCast, exF_add] at h3
      exact h3
  · refine ⟨0, e', by rw [h1, h5]; rfl, .inr ⟨by omega, ?_⟩, h4⟩
    rw [if_neg (by omega)] at h3
    exact h3
/-- An extent is released. -/
theorem sp_Release_ex {w : World} {b : Nat} {A : Nat → Prop} {sz fs : Nat} {l m : List (Nat × Nat)} {x : Nat × Nat} (h : SpC w b A sz (exF fs (l ++ x :: m))) (hl : OkL sz fs (l ++ x :: m)) :
    Ret Try.prog 10 [.pointer (some ⟨b, 0, none⟩), .int .i64 x.1, .int .i64 x.2].toArray w fun r w' => SpC w' b A sz (exF fs (l ++ m)) ∧ Keep (fun k => ¬ A k) w w' := by
  refine Calls.mono (sp_Release' (a := x.1) (n := x.2) h) fun e w' ⟨u, he, _, h2, h3⟩ => ⟨u, he, ?_, h3⟩
  have hx := hl.hi x (by simp)
  unfold fT at h2
  rw [if_neg (by unfold outS; omega), Int.toNat_natCast, Int.toNat_natCast, hl.drop1.2] at h2
  exact h2
end Go.Proofs.Ytcmkfembphakiaa.B
