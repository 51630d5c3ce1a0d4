/-
  trie: a node's bytes, its digest, the root.
-/
import Derived.Test.YtpiidddccmohdaaDoorTreW5
import Derived.Test.YtpiidddccmohdaaDoorMTag
import Derived.Test.YtpiidddccmohdaaDoorTagD
namespace Go.Proofs.YtpiidddccmohdaaDoor.B
open Go
set_option linter.unusedVariables false
set_option maxHeartbeats 2000000
set_option maxRecDepth 100000
attribute [local irreducible] W OpsW OpsQ retP
theorem rowsB_none (w : World) : SlR w (.slice none 0 0) 1 (RowB w) [] := ⟨none, 0, rfl, Nat.le_refl _, Nat.zero_le _, fun _ => rfl, fun x hx => by cases hx⟩
def maskTo (K : Nat → Tre) : Nat → Nat
  | 0 => 0
  | n + 1 => maskTo K n + if (K n).isNo = true then 0 else 2 ^ n
theorem maskTo_lt (K : Nat → Tre) : ∀ n, maskTo K n < 2 ^ n
  | 0 => Nat.lt_add_one 0
  | n + 1 => by
    have h := maskTo_lt K n
    unfold maskTo
    rw [Nat.pow_succ]
    split <;> omega
/-- A node's bytes. -/
def nodeB : Tre → List UInt8
  | .no => []
  | .leaf b v => (encN 0 ++ encB b) ++ encB v
  | .branch b k => ((encN 1 ++ encB b) ++ encN (maskTo k 16)) ++ (List.range 16).flatMap fun i => if (k i).isNo = true then [] else (tagD 4 [nodeB (k i)]).val
def digsTo (K : Nat → Tre) (n : Nat) : List UInt8 := (List.range n).flatMap fun i => if (K i).isNo = true then [] else (tagD 4 [nodeB (K i)]).val
theorem nodeB_br (b : List UInt8) (k : Nat → Tre) : nodeB (.branch b k) = ((encN 1 ++ encB b) ++ encN (maskTo k 16)) ++ digsTo k 16 := by rw [nodeB]; rfl
theorem digsTo_s (K : Nat → Tre) (n : Nat) : digsTo K (n + 1) = digsTo K n ++ if (K n).isNo = true then [] else (tagD 4 [nodeB (K n)]).val := by
  unfold digsTo; rw [List.range_succ, List.flatMap_append]; simp
theorem digsTo_len (K : Nat → Tre) : ∀ n, (digsTo K n).length ≤ 32 * n
  | 0 => Nat.le_refl _
  | n + 1 => by
    have h := digsTo_len K n
    rw [digsTo_s, List.length_append]
    split
    · rw [List.length_nil]; omega
    · rw [(tagD 4 [nodeB (K n)]).2]; omega
/-- Its beginnings and values are short. -/
def Tre.short : Tre → Prop
  | .no => True
  | .leaf b v => b.length ≤ 64 ∧ v.length ≤ 1000
  | .branch b k => b.length ≤ 64 ∧ ∀ i, (k i).short
theorem Tre.short_of : ∀ (T : Tre) (L : Nat), L ≤ 64 → T.wf L → (∀ r v, r.length = L → nib16 r → T.get r = some v → v.length ≤ 1000) → T.short := by
  intro T
  induction T with
  | no => intro L _ _ _; trivial
  | leaf b v => intro L hL hw h; exact ⟨by rw [hw.1]; exact hL, h b v hw.1 hw.2 (if_pos rfl)⟩
  | branch b k ih =>
    intro L hL hw h
    have hlt := hw.1
    refine ⟨by omega, fun i => ?_⟩
    by_cases hi : 16 ≤ i
    · rw [hw.2.2.2.1 i hi]; trivial
    · have hi16 : i < 16 := by omega
      refine ih i (L - b.length - 1) (by omega) (hw.2.2.1 i) fun r v hr hn hg => h (b ++ i.toUInt8 :: r) v (by rw [List.length_append, List.length_cons]; omega) (fun x hx => ?_) (by rw [Tre.get_br, u8_of hi16]; exact hg)
      rcases List.mem_append.1 hx with h | h
      · exact hw.2.1 x h
      · rcases List.mem_cons.1 h with rfl | h
        · rw [u8_of hi16]; exact hi16
        · exact hn x h
theorem nodeB_len {T : Tre} (h : T.short) : (nodeB T).length ≤ 2000 := by
  cases T with
  | no => exact Nat.zero_le _
  | leaf b v =>
    have h1 := encN_len10 (v := 0) (by decide)
    have h2 := encB_len b (by have := h.1; omega)
    have h3 := encB_len v (by have := h.2; omega)
    have := h.1; have := h.2
    rw [nodeB, List.length_append, List.length_append]; omega
  | branch b k =>
    have h1 := encN_len10 (v := 1) (by decide)
    have h2 := encB_len b (by have := h.1; omega)
    have h3 := encN_len10 (v := maskTo k 16) (by have := maskTo_lt k 16; omega)
    have h4 := digsTo_len k 16
    have := h.1
    rw [nodeB_br, List.length_append, List.length_append, List.length_append]; omega
theorem shl16 : ∀ k : Fin 16, IntKind.u64.wrap (1 * 2 ^ (min ((k.val : Int)).toNat IntKind.u64.bits)) = ((2 ^ k.val : Nat) : Int) := by decide
theorem or_pow {m k : Nat} (h : m < 2 ^ k) : m ||| 2 ^ k = m + 2 ^ k := by
  have := Nat.two_pow_add_eq_or_of_lt h 1
  rw [Nat.mul_one] at this
  rw [Nat.or_comm, ← this, Nat.add_comm]
theorem mask_or (K : Nat → Tre) (k : Nat) (hk : k < 16) (hn : K k ≠ .no) : bitw .or .u64 ((maskTo K k : Nat) : Int) ((2 ^ k : Nat) : Int) = ((maskTo K (k + 1) : Nat) : Int) := by
  have h1 := maskTo_lt K k
  have h2 : 2 ^ k < 2 ^ 16 := Nat.pow_lt_pow_right (by decide) hk
  rw [bitw_or rfl _ _ (by show _ < 2 ^ 64; omega) (by show _ < 2 ^ 64; omega), or_pow h1]
  show _ = ((maskTo K k + (if (K k).isNo = true then 0 else 2 ^ k) : Nat) : Int)
  rw [Tre.notNo.2 hn, if_neg (by decide)]
def rootT (T : Tre) : Dig := if T.isNo = true then tagD 5 [] else tagD 4 [nodeB T]
end Go.Proofs.YtpiidddccmohdaaDoor.B
