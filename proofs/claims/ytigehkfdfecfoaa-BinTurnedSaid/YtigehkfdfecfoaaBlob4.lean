/-
  blob: Read.
-/
import Derived.Test.YtigehkfdfecfoaaBlob3
namespace Go.Proofs.Ytigehkfdfecfoaa.B
open Go
set_option linter.unusedVariables false
set_option maxHeartbeats 2000000
set_option maxRecDepth 100000
attribute [local irreducible] W OpsW OpsQ retP
theorem subSl_own {a : Option Addr} {sz l h m n c k : Nat} (hk : (subSl a sz l h m).ownBlock = some k) : (Value.slice a n c).ownBlock = some k := by
  unfold subSl at hk
  cases a with
  | none => split at hk <;> cases hk
  | some x =>
    have e : (x.add (l * sz)).block = x.block := by unfold Addr.add; split <;> rfl
    split at hk
    · exact hk
    · have hk : (x.add (l * sz)).block = k := Option.some.inj hk
      rw [e] at hk; exact congrArg some hk
theorem By.sec {w : World} {b : Nat} {s : Sec} {e : TypeId} (h : Blk w b (secR s) e) : By w (.slice (some ⟨b, 0, none⟩) 64 64) s.val := by
  have hl := s.2
  have := By.of_at (w := w) (b := b) (off := 0) (c := 64) (bs := s.val) (fun j u hj => by rw [Nat.zero_add]; exact h.cell hj) (by omega) (by unfold maxLen; omega)
  rwa [hl] at this
theorem take_flat {M : List Sec} {a k : Nat} {s : Sec} (h : M[a + k]? = some s) : flatS ((M.drop a).take (k + 1)) = flatS ((M.drop a).take k) ++ s.val := by
  have h1 : (M.drop a)[k]? = some s := by rw [List.getElem?_drop]; exact h
  obtain ⟨h2, h3⟩ := List.getElem?_eq_some_iff.1 h1
  rw [List.take_succ_eq_append_getElem h2, flatS_app, h3]
  simp [flatS]
theorem ofR_iff {r : Rf} {bs : List UInt8} (h : (bs.length : Int) = r.len) : ofR r.at_ bs = r ↔ tagD 3 [bs] = r.dig := by
  obtain ⟨d, a, l⟩ := r
  unfold ofR
  constructor
  · intro e; injection e
  · intro e
    have h : (bs.length : Int) = l := h
    have e : tagD 3 [bs] = d := e
    rw [e, h]
end Go.Proofs.Ytigehkfdfecfoaa.B
