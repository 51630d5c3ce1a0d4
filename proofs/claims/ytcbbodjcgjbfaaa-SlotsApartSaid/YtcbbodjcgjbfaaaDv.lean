/-
  A disk as what is seen of it.
-/
import Derived.Test.YtcbbodjcgjbfaaaOne
namespace Go.Proofs.Ytcbbodjcgjbfaaa.B
open Go
set_option linter.unusedVariables false
set_option maxHeartbeats 2000000
set_option maxRecDepth 100000
attribute [local irreducible] W OpsW OpsQ retP
/-- The disk at b shows the sectors M; it has had at most n writes; it is apart from the blocks K. -/
def DV (w : World) (K : Nat → Prop) (b N : Nat) (M : List Sec) (n : Nat) (w' : World) : Prop := ∃ L T, One w K b N L T 0 w' ∧ seen L T = M ∧ T.length ≤ n ∧ M.length = N
section
variable {w : World} {K : Nat → Prop} {b N n : Nat} {M : List Sec} {w' : World}
theorem DV.kw (h : DV w K b N M n w') : Keep All w w' := by obtain ⟨_, _, h, _⟩ := h; exact h.kw
theorem DV.len (h : DV w K b N M n w') : M.length = N := by obtain ⟨_, _, _, _, _, h⟩ := h; exact h
theorem DV.keep {w2 : World} (h : DV w K b N M n w') (hk : Keep All w' w2) : DV w K b N M n w2 := by
  obtain ⟨L, T, h1, h2⟩ := h; exact ⟨L, T, h1.keep hk, h2⟩
theorem DV.mono {K' : Nat → Prop} (h : DV w K b N M n w') (hK : ∀ j, K' j → K j) : DV w K' b N M n w' := by
  obtain ⟨L, T, h1, h2⟩ := h; exact ⟨L, T, h1.mono hK, h2⟩
theorem DV.fresh {wa wb : World} {b0 : Nat} (h : DV w K b N M n w') (hk : Keep All w' wa) (hb : w'.heap.size ≤ b0) (hk2 : Keep (· ≠ b0) wa wb) (hlt : b0 < wb.heap.size) : DV w (fun j => K j ∨ j = b0) b N M n wb := by
  obtain ⟨L, T, h1, h2⟩ := h; exact ⟨L, T, h1.fresh hk hb hk2 hlt, h2⟩
theorem DV.other {w2 : World} {b0 : Nat} (h : DV w K b N M n w') (hK : K b0) (hb : w.heap.size ≤ b0) (hk : Keep (· ≠ b0) w' w2) : DV w K b N M n w2 := by
  obtain ⟨L, T, h1, h2⟩ := h; exact ⟨L, T, h1.other hK hb hk, h2⟩
theorem DV.write (h : DV w K b N M n w') (at_ : Int) (s : Sec) (hn : n < 1000000) :
    Ret Try.prog 7 [.pointer (some ⟨b, 0, none⟩), .int .i64 at_, .agg (secR s).toArray].toArray w' fun r w2 => r = .int .i64 (if 0 ≤ at_ ∧ at_ < N then 0 else 2) ∧
      DV w K b N (if 0 ≤ at_ ∧ at_ < N then M.set at_.toNat s else M) (n + 1) w2 ∧ Keep K w' w2 := by
  obtain ⟨L, T, h1, h2, h3, h4⟩ := h
  refine (h1.write at_ s (by omega)).mono fun e w2 ⟨u, he, hu, hD, hk⟩ => ⟨u, he, hu, ?_, hk⟩
  by_cases hr : 0 ≤ at_ ∧ at_ < N
  · rw [if_pos ⟨hr, by decide⟩, if_pos ⟨hr, by decide⟩] at hD
    rw [if_pos hr]
    exact ⟨L, _, hD, by rw [seen_snoc, h2], by rw [List.length_append]; simp; omega, by rw [List.length_set]; exact h4⟩
  · rw [if_neg (fun h => hr h.1), if_neg (fun h => hr h.1)] at hD
    rw [if_neg hr]
    exact ⟨L, T, hD, h2, by omega, h4⟩
theorem DV.read (h : DV w K b N M n w') (at_ : Int) (hn : n < 1000000) :
    Ret Try.prog 14 [.pointer (some ⟨b, 0, none⟩), .int .i64 at_].toArray w' fun r w2 => ∃ (s : Sec) (e : Int), r = .tuple #[.agg (secR s).toArray, .int .i64 e] ∧
      (((0 ≤ at_ ∧ at_ < N) ∧ e = 0 ∧ M[at_.toNat]? = some s) ∨ (¬ (0 ≤ at_ ∧ at_ < N) ∧ e = 2 ∧ s = Sec.zero)) ∧ Keep All w' w2 := by
  obtain ⟨L, T, ⟨A, h1, _⟩, rfl, h3, h4⟩ := h
  exact dk_Read w' b A N L T 0 at_ h1 (by omega)
end
theorem DV.new (w : World) (sz : Int) (h1 : 1 ≤ sz) (h2 : sz ≤ 65536) :
    Ret Try.prog 6 [.int .i64 sz].toArray w fun r w' => ∃ b : Nat, r = .tuple #[.pointer (some ⟨b, 0, none⟩), .int .i64 0] ∧ DV w (fun _ => False) b sz.toNat (List.replicate sz.toNat Sec.zero) 0 w' := by
  refine (dk_New w sz).mono fun e w' ⟨u, he, a, e', hu, hc⟩ => ⟨u, he, ?_⟩
  obtain ⟨_, b, rfl, rfl, hb, hD, hk⟩ := hc.resolve_left (fun h => by omega)
  obtain ⟨A, hD2, hA⟩ := hD.shrink
  exact ⟨b, hu, _, [], ⟨A, hD2, fun j hj => ⟨(hA j hj).1, (hA j hj).2, fun h => h⟩, fun j hj => hj.elim, hk⟩, rfl, Nat.le_refl _, by simp⟩
end Go.Proofs.Ytcbbodjcgjbfaaa.B
