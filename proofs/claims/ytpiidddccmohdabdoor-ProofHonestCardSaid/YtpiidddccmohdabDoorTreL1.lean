/-
  sporranlaw08: speaks.
-/
import Derived.Test.YtpiidddccmohdabDoorTreW6
import Derived.Test.YtpiidddccmohdabDoorTreI2
namespace Go.Proofs.YtpiidddccmohdabDoor.B
open Go
theorem run_append_grow_zeros {P : Program} {w : World} (t tn ty e : TypeId) (i : TypeInfo) (z : Value) (k kn : IntKind) (ht : P.underlying t = some (.slice e)) (htn : P.underlying tn = some (.int kn)) (hi : P.info? e = some i) (hz : i.zero = some z)
    (b : Addr) (sLen sCap : Nat) (olds : List Value) (hlo : olds.length = sLen * i.size) (holds : ∀ j v, olds[j]? = some v → w.cell? (b.add j) = some v) (n : Nat) (h0 : 0 < n) (hs : 0 < i.size)
    (hg : sCap < sLen + n) (h63 : ((sLen + n : Nat) : Int) ≤ 9223372036854775807) (h48 : n * i.bytes ≤ 281474976710656) (hfit : Builtin.nextslicecap (sLen + n) sCap * i.bytes ≤ 281474976710656) :
    (Builtin.append_ #[t, tn] ty #[.slice (some b) sLen sCap, .int k n]).run P w =
      .ok (.slice (some ⟨w.heap.size, 0, none⟩) (sLen + n) (grownCap w (sLen + n) sCap e))
        (w.drew.alloc (.cells (olds.toArray ++ Builtin.zeroCells z.cells n ++ Builtin.zeroCells z.cells (grownCap w (sLen + n) sCap e - (sLen + n))) e)) := by
  have hn : ¬ (sLen + n ≤ sCap) := by omega
  have hw : IntKind.i64.wrap (n : Int) = n := by rw [IntKind.wrap_i64]; omega
  have h63' : ¬ (9223372036854775807 < ((sLen : Int) + (n : Int))) := by omega
  have h48' : ¬ (281474976710656 < Builtin.nextslicecap (sLen + n) sCap * i.bytes) := by omega
  have h48i : ¬ (281474976710656 < (n : Int) * (i.bytes : Int)) := by
    rw [← Int.natCast_mul]
    omega
  have hneg : ¬ ((n : Int) < 0) := by omega
  have hns : ¬ (n * i.size = 0) := Nat.mul_ne_zero (by omega) (by omega)
  have hfo := run_firstCells_some (P := P) w.drew i.size sLen b sLen sCap olds hlo (by simpa using holds)
  simp [Builtin.append_, run_underlying ht, run_underlying htn, sizeOf, typeInfo, zeroValue, hi, hz, asInt, asIntOf, hw, hneg, hns, Builtin.lenOf, hn, h63', h48', h48i, Question.forced, hfo, newRow, grownCap]
theorem zeroCells_list {z : Value} (hz : one z = true) (n : Nat) : (Builtin.zeroCells z.cells n).toList = List.replicate n z := by
  rw [cells_one hz]
  unfold Builtin.zeroCells
  apply List.ext_getElem
  · simp
  · intro i h1 h2; simp [Nat.mod_one]
section
variable {f0 : Bool} {c0 : Ctx} {P : Program} {n : Nat} {ops : Array Oper} {F : Fr} {w : World} {K : Fr → World → Prop} {rest : List Oper} {dst : Option Tmp} {ty : TypeId} {pos : String} {after : Array Edge} {g : Option (Nat × Bool)}
/-- append of zeros to a slice that has no room. -/
theorem o_zerosG {s x : Operand} {t tn e eb : TypeId} {z : Value} {by_ m k : Nat} {kn : IntKind} {b : Nat} {l : List Value}
    (hs : ev F s = .slice (some ⟨b, 0, none⟩) m m) (hx : ev F x = .int .i64 k) (hB : Blk w b l eb) (hl : l.length = m) (ht : P.underlying t = some (.slice e)) (htn : P.underlying tn = some (.int kn)) (hi : tinfo P e = some (some z, 1, by_)) (hz : one z = true) (h0 : 0 < k) (h63 : m + k ≤ maxLen) (hby : k * by_ ≤ 281474976710656)
    (hfit : Builtin.nextslicecap (m + k) m * by_ ≤ 281474976710656)
    (hg : wantedF ops F ⟨dst, .call ⟨.builtin .append, #[s, x], #[t, tn]⟩, ty, pos, after, g⟩ = true)
    (h : ∀ w' b' c l', b' = w.heap.size → Blk w' b' (l ++ List.replicate k z ++ l') e → l'.length = c - (m + k) → m + k ≤ c → c ≤ maxLen → Keep All w w' → w'.heap.size = b' + 1 → OpsW f0 c0 P n ops rest (updo n F dst (.slice (some ⟨b', 0, none⟩) (m + k) c)) w' K) :
    OpsW f0 c0 P n ops (⟨dst, .call ⟨.builtin .append, #[s, x], #[t, tn]⟩, ty, pos, after, g⟩ :: rest) F w K := by
  obtain ⟨i, hi1, hi2, hi3, hi4⟩ := tinfo_info hi
  have hr := run_append_grow_zeros (P := P) (w := w) t tn ty e i z .i64 kn ht htn hi1 hi2 ⟨b, 0, none⟩ m m l (by rw [hl, hi3, Nat.mul_one]) hB.all k h0 (by omega) (by omega) (by unfold maxLen at h63; omega) (by rw [hi4]; exact hby) (by rw [hi4]; exact hfit)
  have hge := grownCap_ge w (m + k) m e
  have hle := grownCap_le_maxLen w (m + k) m e h63
  refine op_run0 (v := .slice (some ⟨w.heap.size, 0, none⟩) (m + k) (grownCap w (m + k) m e)) ?_ hg (h (w.drew.alloc (.cells (l.toArray ++ Builtin.zeroCells z.cells k ++ Builtin.zeroCells z.cells (grownCap w (m + k) m e - (m + k))) e)) w.heap.size (grownCap w (m + k) m e) (List.replicate (grownCap w (m + k) m e - (m + k)) z) rfl ?_ (by simp) hge hle ((Keep.drawn w).trans (Keep.alloc w.drew _)) ?_)
  · (try unfold Run1); simp [execOp, resolve, invoke, builtin, hs, hx, hr]
  · show _ = _
    have e1 : l.toArray ++ Builtin.zeroCells z.cells k ++ Builtin.zeroCells z.cells (grownCap w (m + k) m e - (m + k)) = (l ++ List.replicate k z ++ List.replicate (grownCap w (m + k) m e - (m + k)) z).toArray := by
      apply Array.ext'
      simp [zeroCells_list hz]
    rw [e1]
    exact heap_alloc_new w.drew _
  · exact size_alloc w.drew _
end
set_option linter.unusedVariables false
set_option maxHeartbeats 2000000
set_option maxRecDepth 100000
attribute [local irreducible] W OpsW OpsQ retP
def speakT : Tre := putTT .no Dig.zero []
theorem nibs_zero : ∀ n, nibs (List.replicate n 0) = List.replicate (2 * n) 0
  | 0 => rfl
  | n + 1 => by
    have h := nibs_zero n
    rw [show 2 * (n + 1) = 2 * n + 1 + 1 by omega, List.replicate_succ, List.replicate_succ, List.replicate_succ, ← h]; rfl
theorem speakB : nodeB speakT = [0, 64] ++ List.replicate 65 0 := by
  have e : nibs Dig.zero.val = List.replicate 64 0 := nibs_zero 32
  show (encN 0 ++ encB (nibs Dig.zero.val)) ++ encB [] = _
  rw [e]
  unfold encB
  rw [List.length_replicate]
  unfold encN
  rfl
theorem speak_short : speakT.short := ⟨by rw [show nibs Dig.zero.val = List.replicate 64 0 from nibs_zero 32, List.length_replicate]; decide, Nat.zero_le _⟩
theorem dgR_zeroL : dgR Dig.zero = List.replicate 32 (c8 0) := by unfold dgR Dig.zero; rw [List.map_replicate]
end Go.Proofs.YtpiidddccmohdabDoor.B
