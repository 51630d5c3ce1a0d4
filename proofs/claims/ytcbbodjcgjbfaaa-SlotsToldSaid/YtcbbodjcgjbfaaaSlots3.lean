/-
  slots over a disk as it is seen.
-/
import Derived.Test.YtcbbodjcgjbfaaaSlots2
import Derived.Test.YtcbbodjcgjbfaaaDv
namespace Go.Proofs.Ytcbbodjcgjbfaaa.B
open Go
set_option linter.unusedVariables false
set_option maxHeartbeats 2000000
set_option maxRecDepth 100000
attribute [local irreducible] W OpsW OpsQ retP
section
variable {w : World} {K : Nat → Prop} {b N n : Nat} {M : List Sec} {w' : World}
theorem DV.sread (h : DV w K b N M n w') (slot : Int) (hN : 2 ≤ N) (hn : n < 1000000) :
    Ret Try.prog 9 [.pointer (some ⟨b, 0, none⟩), .int .i64 slot].toArray w' fun u w2 => u = optR (rdS M slot) ∧ Keep All w' w2 := by
  obtain ⟨L, T, ⟨A, h1, _⟩, rfl, h3, h4⟩ := h
  exact sl_Read w' b A N L T 0 slot h1 hN (by omega)
theorem DV.sfind (h : DV w K b N M n w') (d : Dig) (hN : 2 ≤ N) (hn : n < 1000000) :
    Ret Try.prog 10 [.pointer (some ⟨b, 0, none⟩), .agg (dgR d).toArray].toArray w' fun u w2 => u = .tuple #[.agg (refR ((findS M d).getD Rf.zero)).toArray, .int .i64 (if (findS M d).isSome then 0 else 7)] ∧ Keep All w' w2 := by
  obtain ⟨L, T, ⟨A, h1, _⟩, rfl, h3, h4⟩ := h
  exact sl_Find w' b A N L T 0 d h1 hN (by omega)
theorem DV.swrite (h : DV w K b N M n w') (epoch : Nat) (r : Rf) (hN : 2 ≤ N) (hn : n < 1000000) (he : epoch < 2 ^ 64) :
    Ret Try.prog 11 [.pointer (some ⟨b, 0, none⟩), .int .u64 epoch, .agg (refR r).toArray].toArray w' fun u w2 => u = .int .i64 (if r.may then 0 else 1) ∧
      DV w K b N (if r.may then M.set (epoch % 2) (laidS r) else M) (n + 1) w2 ∧ Keep K w' w2 := by
  obtain ⟨L, T, ⟨A, h1, h5, h6, h7⟩, rfl, h3, h4⟩ := h
  refine (sl_Write w' b A N L T epoch r h1 (fun k hk => (h5 k hk).2.1) hN (by omega) he).mono fun e w2 ⟨u, he, hu, hD, hk⟩ => ⟨u, he, hu, ?_⟩
  obtain ⟨hO, hkK⟩ := One.step h5 h6 h7 hD (fun j hj => hj) hk
  refine ⟨?_, hkK⟩
  by_cases hm : r.may
  · rw [if_pos hm] at hO ⊢
    exact ⟨L, _, hO, by rw [seen_snoc], by rw [List.length_append]; simp; omega, by rw [List.length_set]; exact h4⟩
  · rw [if_neg hm] at hO ⊢
    exact ⟨L, T, hO, rfl, by omega, h4⟩
end
end Go.Proofs.Ytcbbodjcgjbfaaa.B
