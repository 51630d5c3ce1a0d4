/-
  SpaceCalls's walk.
-/
import Derived.Test.YtcmkfembphakiaaRef06
namespace Go.Proofs.Ytcmkfembphakiaa.B
open Go
set_option linter.unusedVariables false
attribute [local irreducible] W OpsW OpsQ retP
/-- The space's two blocks, and no others. -/
theorem SpC.shrink {w : World} {b : Nat} {A : Nat → Prop} {sz : Nat} {f : Nat → Bool} (h : SpC w b A sz f) : ∃ A' : Nat → Prop, SpC w b A' sz f ∧ ∀ k, A' k → A k ∧ k < w.heap.size := by
  obtain ⟨g, c, ws, ex, hB, hwc, hcm, hG, hgb, hAb, hAg, hrest⟩ := h
  refine ⟨fun k => k = b ∨ k = g, ⟨g, c, ws, ex, hB, hwc, hcm, hG, hgb, .inl rfl, .inr rfl, hrest⟩, fun k hk => ?_⟩
  rcases hk with rfl | rfl
  · exact ⟨hAb, hB.lt⟩
  · exact ⟨hAg, hG.lt⟩
theorem SpC.keep {w w' : World} {b : Nat} {A C : Nat → Prop} {sz : Nat} {f : Nat → Bool} (h : SpC w b A sz f) (hk : Keep C w w') (hA : ∀ k, A k → C k) : SpC w' b A sz f := by
  obtain ⟨g, c, ws, ex, hB, hwc, hcm, hG, hgb, hAb, hAg, hrest⟩ := h
  exact ⟨g, c, ws, ex, hk.blk' hB (hA _ hAb), hwc, hcm, hk.blk' hG (hA _ hAg), hgb, hAb, hAg, hrest⟩

abbrev outS (S : Nat) (a n : Int) : Prop := n < 0 ∨ a < 0 ∨ (S : Int) < a ∨ (S : Int) - a < n
def cT (S : Nat) (a n : Int) : Int := if outS S a n then 2 else 0
def fT (f : Nat → Bool) (S : Nat) (a n : Int) (tk : Bool) : Nat → Bool := if outS S a n then f else turnF f a.toNat n.toNat tk
theorem sp_Mark' {w : World} {b : Nat} {A : Nat → Prop} {sz : Nat} {f : Nat → Bool} {a n : Int} (h : SpC w b A sz f) :
    Ret Try.prog 14 [.pointer (some ⟨b, 0, none⟩), .int .i64 a, .int .i64 n].toArray w fun r w' => r = .int .i64 (cT sz a n) ∧ SpC w' b A sz (fT f sz a n true) ∧ Keep (fun k => ¬ A k) w w' := by
  refine Calls.mono (sp_Mark w b A sz f a n h) fun e w' ⟨u, he, hu⟩ => ⟨u, he, ?_⟩
  dsimp only at hu
  unfold cT fT
  by_cases hc : outS sz a n
  · rw [if_pos hc] at hu; rw [if_pos hc, if_pos hc]; obtain ⟨h1, rfl⟩ := hu; exact ⟨h1, h, Keep.refl _⟩
  · rw [if_neg hc] at hu; rw [if_neg hc, if_neg hc]; exact hu
theorem sp_Release' {w : World} {b : Nat} {A : Nat → Prop} {sz : Nat} {f : Nat → Bool} {a n : Int} (h : SpC w b A sz f) :
    Ret Try.prog 10 [.pointer (some ⟨b, 0, none⟩), .int .i64 a, .int .i64 n].toArray w fun r w' => r = .int .i64 (cT sz a n) ∧ SpC w' b A sz (fT f sz a n false) ∧ Keep (fun k => ¬ A k) w w' := by
  refine Calls.mono (sp_Release w b A sz f a n h) fun e w' ⟨u, he, hu⟩ => ⟨u, he, ?_⟩
  dsimp only at hu
  unfold cT fT
  by_cases hc : outS sz a n
  · rw [if_pos hc] at hu; rw [if_pos hc, if_pos hc]; obtain ⟨h1, rfl⟩ := hu; exact ⟨h1, h, Keep.refl _⟩
  · rw [if_neg hc] at hu; rw [if_neg hc, if_neg hc]; exact hu
theorem ref06_Turn' {w : World} {g n : Nat} {f : Nat → Bool} {a m : Int} {tk : Bool} (hn : n ≤ 65536) (h : FlC w g n f) :
    Ret Try.prog 12 [.slice (some ⟨g, 0, none⟩) n n, .int .i64 a, .int .i64 m, .bool tk].toArray w fun r w' => r = .int .i64 (cT n a m) ∧ FlC w' g n (fT f n a m tk) ∧ Keep (· ≠ g) w w' := by
  refine Calls.mono (ref06_Turn w g n f a m tk hn h) fun e w' ⟨u, he, hu⟩ => ⟨u, he, ?_⟩
  dsimp only at hu
  unfold cT fT
  by_cases hc : outS n a m
  · rw [if_pos hc] at hu; rw [if_pos hc, if_pos hc]; obtain ⟨h1, rfl⟩ := hu; exact ⟨h1, h, Keep.refl _⟩
  · rw [if_neg hc] at hu; rw [if_neg hc, if_neg hc]; exact hu
/-- What Take answers. -/
def TakeR (f : Nat → Bool) (S : Nat) (n p e : Int) : Prop :=
  (n < 1 ∧ p = 0 ∧ e = 1) ∨ (1 ≤ n ∧ e = 0 ∧ ∃ q : Nat, p = q ∧ q + n.toNat ≤ S ∧ win f q n.toNat ∧ ∀ x, x < q → ¬ win f x n.toNat) ∨ (1 ≤ n ∧ p = 0 ∧ e = 4 ∧ ∀ x, x + n.toNat ≤ S → ¬ win f x n.toNat)
theorem TakeR.unique {f : Nat → Bool} {S : Nat} {n p e p' e' : Int} (h : TakeR f S n p e) (h' : TakeR f S n p' e') : p = p' ∧ e = e' := by
  rcases h with ⟨h1, h2, h3⟩ | ⟨h1, h2, q, h3, h4, h5, h6⟩ | ⟨h1, h2, h3, h4⟩ <;> rcases h' with ⟨k1, k2, k3⟩ | ⟨k1, k2, q', k3, k4, k5, k6⟩ | ⟨k1, k2, k3, k4⟩
  · omega
  · omega
  · omega
  · omega
  · refine ⟨?_, by omega⟩
    rcases Nat.lt_trichotomy q q' with hq | hq | hq
    · exact absurd h5 (k6 q hq)
    · omega
    · exact absurd k5 (h6 q' hq)
  · exact absurd h5 (k4 q h4)
  · omega
  · exact absurd k5 (h4 q' k4)
  · omega
theorem sp_Take' {w : World} {b : Nat} {A : Nat → Prop} {sz : Nat} {f : Nat → Bool} {n : Int} (h : SpC w b A sz f) :
    Ret Try.prog 8 [.pointer (some ⟨b, 0, none⟩), .int .i64 n].toArray w fun r w' => ∃ p e : Int, r = .tuple #[.int .i64 p, .int .i64 e] ∧ TakeR f sz n p e ∧ SpC w' b A sz (if e = 0 then turnF f p.toNat n.toNat true else f) ∧ Keep (fun k => ¬ A k) w w' := by
  refine Calls.mono (sp_Take w b A sz f n h) fun e w' ⟨u, he, hu⟩ => ⟨u, he, ?_⟩
  dsimp only at hu
  by_cases hn : n < 1
  · rw [if_pos hn] at hu
    obtain ⟨h1, rfl⟩ := hu
    exact ⟨0, 1, h1, .inl ⟨hn, rfl, rfl⟩, by rw [if_neg (by omega)]; exact h, Keep.refl _⟩
  · rw [if_neg hn] at hu
    rcases hu with ⟨p, h1, h2, h3, h4, h5, h6⟩ | ⟨h1, h2, rfl⟩
    · exact ⟨p, 0, h4, .inr (.inl ⟨by omega, rfl, p, rfl, h1, h2, h3⟩), by rw [if_pos rfl]; exact h5, h6⟩
    · exact ⟨0, 4, h2, .inr (.inr ⟨by omega, rfl, rfl, h1⟩), by rw [if_neg (by omega)]; exact h, Keep.refl _⟩
theorem ref06_Take' {w : World} {g n : Nat} {f : Nat → Bool} {m : Int} (hn : n ≤ 65536) (h : FlC w g n f) :
    Ret Try.prog 15 [.slice (some ⟨g, 0, none⟩) n n, .int .i64 m].toArray w fun r w' => ∃ p e : Int, r = .tuple #[.int .i64 p, .int .i64 e] ∧ TakeR f n m p e ∧ w' = w := by
  refine Calls.mono (ref06_Take w g n f m hn h) fun e w' ⟨u, he, hu⟩ => ⟨u, he, ?_⟩
  dsimp only at hu
  by_cases hm : m < 1
  · rw [if_pos hm] at hu
    exact ⟨0, 1, hu.1, .inl ⟨hm, rfl, rfl⟩, hu.2⟩
  · rw [if_neg hm] at hu
    rcases hu with ⟨p, h1, h2, h3, h4, h5⟩ | ⟨h1, h2, h3⟩
    · exact ⟨p, 0, h4, .inr (.inl ⟨by omega, rfl, p, rfl, h1, h2, h3⟩), h5⟩
    · exact ⟨0, 4, h2, .inr (.inr ⟨by omega, rfl, rfl, h1⟩), h3⟩
theorem sp_New' {w : World} {sz fs : Int} (hz1 : -9223372036854775808 ≤ sz) (hz2 : sz ≤ 9223372036854775807) :
    Ret Try.prog 7 [.int .i64 sz, .int .i64 fs].toArray w fun r w' => ∃ (a : Option Addr) (e : Int), r = .tuple #[.pointer a, .int .i64 e] ∧
      (((sz < 1 ∨ 65536 < sz ∨ fs < 0 ∨ sz < fs) ∧ a = none ∧ e = 2 ∧ w' = w) ∨ (¬ (sz < 1 ∨ 65536 < sz ∨ fs < 0 ∨ sz < fs) ∧ ∃ b, a = some ⟨b, 0, none⟩ ∧ e = 0 ∧ w.heap.size ≤ b ∧ SpC w' b (fun k => w.heap.size ≤ k) sz.toNat (fun i => decide (i < fs.toNat)) ∧ Keep All w w')) := by
  refine Calls.mono (sp_New w sz fs hz1 hz2) fun e w' ⟨u, he, hu⟩ => ⟨u, he, ?_⟩
  dsimp only at hu
  by_cases hc : sz < 1 ∨ 65536 < sz ∨ fs < 0 ∨ sz < fs
  · rw [if_pos hc] at hu
    exact ⟨none, 2, hu.1, .inl ⟨hc, rfl, rfl, hu.2⟩⟩
  · rw [if_neg hc] at hu
    obtain ⟨b, h1, h2, h3, h4⟩ := hu
    exact ⟨_, 0, h1, .inr ⟨hc, b, rfl, rfl, h2, h3, h4⟩⟩
theorem SpC.out {w : World} {b : Nat} {A : Nat → Prop} {sz : Nat} {f : Nat → Bool} (h : SpC w b A sz f) : ∀ i, sz ≤ i → f i = false := by
  obtain ⟨g, c, ws, ex, hB, hwc, hcm, hG, hgb, hAb, hAg, h1, h2, h3, h4, h5, h6⟩ := h
  exact h6
theorem ti_bool : tinfo Try.prog 4 = some (some (.bool false), 1, 1) := by kernel_rfl
theorem cnt_full {f : Nat → Bool} : ∀ n, (∀ i, i < n → f i = true) → cnt f n = n
  | 0, _ => rfl
  | n + 1, h => by rw [cnt_s, cnt_full n (fun i hi => h i (by omega)), if_pos (h n (by omega))]
/-- A call: what, at, n. -/
abbrev Cas (w : World) (v : Value) (xs : List (Int × Int × Int)) : Prop := SlR w v 3 (fun cs y => cs = [.int .i64 y.1, .int .i64 y.2.1, .int .i64 y.2.2]) xs
end Go.Proofs.Ytcmkfembphakiaa.B
