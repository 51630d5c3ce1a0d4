/-
  A slice of bytes, converted to its own type, whatever marks its row bears.
-/
import Derived.Test.YtnjepmdgbkhoaaaStr
import Derived.Test.YtnjepmdgbkhoaaaMono
namespace Go.Proofs.Ytnjepmdgbkhoaaa.B
open Go
section
variable {f0 : Bool} {c0 : Ctx} {P : Program} {F : Fr} {w : World} {dst : Option Tmp} {ty : TypeId} {pos : String} {after : Array Edge} {g : Option (Nat × Bool)} {n : Nat} {ops : Array Oper} {K : Fr → World → Prop} {rest : List Oper}
theorem o_convM {t e : TypeId} {x : Operand} {b m c B : Nat} {cs : List Value} (hx : ev F x = .slice (some ⟨b, 0, none⟩) m c) (hB : RowM w b cs e) (hBb : B ≤ b) (ht : P.underlying t = some (.slice e)) (he : P.underlying e = some (.int .u8))
    (hg : wantedF ops F ⟨dst, .convert t t x, ty, pos, after, g⟩ = true)
    (h : ∀ w', KeepM B w w' → RowM w' b cs e → w'.heap.size = w.heap.size → OpsW f0 c0 P n ops rest (updo n F dst (.slice (some ⟨b, 0, none⟩) m c)) w' K) :
    OpsW f0 c0 P n ops (⟨dst, .convert t t x, ty, pos, after, g⟩ :: rest) F w K := by
  obtain ⟨fz, hB⟩ := hB
  have hsh : w.shape? b = some (e, cs.length) := by unfold World.shape?; rw [hB]; simp
  have hfr : (w.freeze ⟨b, cs.length, none⟩ 1).heap = w.heap.modify b fun
      | .cells c elem (lo, hi) => .cells c elem (if lo == hi then (cs.length, cs.length + 1) else (min lo cs.length, max hi (cs.length + 1)))
      | o => o := by
    unfold World.freeze; rw [if_neg (by decide)]; rfl
  have hown : ∃ fz', (w.freeze ⟨b, cs.length, none⟩ 1).heap[b]? = some (.cells cs.toArray e fz') := by
    rw [hfr, Array.getElem?_modify, if_pos rfl, hB]
    obtain ⟨lo, hi⟩ := fz
    exact ⟨_, rfl⟩
  refine op_run0 (v := .slice (some ⟨b, 0, none⟩) m c) (w' := w.freeze ⟨b, cs.length, none⟩ 1) ?_ hg (h _ ⟨⟨?_, ?_, ?_, ?_, fun k hk hne => ?_⟩, fun k cs' e' hr => ?_⟩ hown ?_)
  · (try unfold Run1); simp [execOp, hx, convert, run_underlying ht, run_underlying he, markStringish, hsh]
  · unfold World.freeze; rw [if_neg (by decide)]
  · unfold World.freeze; rw [if_neg (by decide)]
  · unfold World.freeze; rw [if_neg (by decide)]
  · rw [hfr]; simp
  · rw [hfr, Array.getElem?_modify, if_neg (fun e => by omega)]
  · obtain ⟨fz2, hr⟩ := hr
    by_cases hk : b = k
    · subst hk
      rw [hB] at hr
      injection hr with hr
      injection hr with h1 h2 h3
      have h1 : cs = cs' := by simpa using h1
      subst h1; subst h2
      exact hown
    · exact ⟨fz2, by rw [hfr, Array.getElem?_modify, if_neg hk]; exact hr⟩
  · rw [hfr]; simp
end
theorem By.of_rowM {w : World} {b : Nat} {bs : List UInt8} {e : TypeId} (h : RowM w b (bs.map c8) e) (hm : bs.length ≤ maxLen) : By w (.slice (some ⟨b, 0, none⟩) bs.length bs.length) bs :=
  ⟨_, _, rfl, Nat.le_refl _, hm, by simp, (fun e => by cases e), fun x hx i u hu => by injection hx with hx; subst hx; exact ⟨rfl, by rw [Nat.zero_add]; exact h.cell hu⟩⟩
end Go.Proofs.Ytnjepmdgbkhoaaa.B
