/-
  trie: keys.
-/
import Derived.Test.YtpiidddccmohdabDoorTreW6
namespace Go.Proofs.YtpiidddccmohdabDoor.B
open Go
section
variable {f0 : Bool} {c0 : Ctx} {P : Program} {n : Nat} {ops : Array Oper} {F : Fr} {w : World} {K : Fr → World → Prop} {rest : List Oper} {dst : Option Tmp} {ty : TypeId} {pos : String} {after : Array Edge} {g : Option (Nat × Bool)}
/-- append to a slice that has no room: a new row. -/
theorem o_appFull {s x : Operand} {t e : TypeId} {z : Value} {by_ : Nat} {m k c : Nat} {a : Option Addr} {xs news : List Value} {ad : Addr}
    (hs : ev F s = .slice a m m) (hsl : Sl w (.slice a m m) m 1 xs) (hx : ev F x = .slice (some ad) k c) (ht : P.underlying t = some (.slice e)) (hi : tinfo P e = some (some z, 1, by_)) (hz : one z = true)
    (hl : news.length = k) (hnews : ∀ (j : Nat) (u : Value), news[j]? = some u → w.cell? (ad.add j) = some u) (h1 : news.all one = true) (hk0 : 0 < k)
    (h63 : m + k ≤ maxLen) (hby : (m + k) * by_ ≤ 140737488355328)
    (hg : wantedF ops F ⟨dst, .call ⟨.builtin .append, #[s, x], #[t, t]⟩, ty, pos, after, g⟩ = true)
    (h : ∀ v' w', Own w' e 1 v' (m + k) (xs ++ news) → Keep All w w' → InB (fun b => w.heap.size ≤ b) v' → OpsW f0 c0 P n ops rest (updo n F dst v') w' K) :
    OpsW f0 c0 P n ops (⟨dst, .call ⟨.builtin .append, #[s, x], #[t, t]⟩, ty, pos, after, g⟩ :: rest) F w K := by
  obtain ⟨a', c', ea, h5, h6, h7, h8, h9⟩ := hsl
  injection ea with ea1 ea2 ea3; subst ea1; subst ea3
  rw [Nat.mul_one] at h7
  cases a with
  | none =>
    have hm := h8 rfl
    subst hm
    obtain rfl : xs = [] := List.eq_nil_of_length_eq_zero h7
    obtain ⟨v', w', hr, ho, hk, hb, _⟩ := run_app (P := P) (ty := ty) (c := c) ht hi (by rw [cells_one hz]; rfl) (by decide) (own_nil w e 1) (by rw [hl, Nat.mul_one]) hnews h1 h63 hby
    refine op_run0 (v := v') (w' := w') ?_ hg (h v' w' ho (hk.mono fun z _ _ h => by cases h) (hb.mono fun z hz => by
      rcases hz with h | h
      · cases h
      · exact h))
    (try unfold Run1); simp [execOp, resolve, invoke, builtin, hs, hx, hr]
  | some b =>
    obtain ⟨i, hi1, hi2, hi3, hi4⟩ := tinfo_info hi
    have holds : ∀ j u, xs[j]? = some u → w.cell? (b.add j) = some u := fun j u hu => by
      obtain ⟨hsp, hc⟩ := h9 b rfl j u hu
      obtain ⟨bb, bo, bs⟩ := b
      cases hsp
      rw [Addr.add_lit]; exact hc
    have hr := run_append_grow (P := P) w t ty e i z ht hi1 hi2 b m m xs (by rw [hi3, Nat.mul_one]; exact h7) holds ad k c news (by rw [hi3, Nat.mul_one]; exact hl) hnews (by omega) (by unfold maxLen at h63; omega) (growslice_fits (by omega) (by rw [hi4]; exact hby))
    have hge := grownCap_ge w (m + k) m e
    have hcm := grownCap_le_maxLen w (m + k) m e h63
    have hzs : z.cells.size = 1 := by rw [cells_one hz]; rfl
    refine op_run0 (v := .slice (some ⟨w.heap.size, 0, none⟩) (m + k) (grownCap w (m + k) m e)) (w' := w.drew.alloc (.cells (xs.toArray ++ news.toArray ++ Builtin.zeroCells z.cells (grownCap w (m + k) m e - (m + k))) e)) ?_ hg (h _ _ ⟨by rw [List.length_append]; omega, .inr ⟨w.heap.size, _, _, rfl, Nat.zero_le _, heap_alloc_new w.drew _, hge, hcm, ?_, ?_⟩⟩ ((Keep.drawn w).trans (Keep.alloc w.drew _)) (fun z hz => by
      have : w.heap.size = z := Option.some.inj hz; omega))
    · (try unfold Run1); simp [execOp, resolve, invoke, builtin, hs, hx, hr]
    · simp only [Array.size_append, List.size_toArray, size_zeroCells, hzs]; omega
    · simp only [Array.toList_append, List.append_assoc, Nat.mul_one]
      rw [← List.append_assoc]
      exact List.take_left' (by rw [List.length_append]; omega)
end
set_option linter.unusedVariables false
set_option maxHeartbeats 2000000
set_option maxRecDepth 100000
attribute [local irreducible] W OpsW OpsQ retP
theorem NodeB.mono {B C : Nat → Prop} {w : World} (hB : ∀ z, B z → C z) : ∀ {T : Tre} {v : Value}, NodeB B w T v → NodeB C w T v := by
  intro T
  induction T with
  | no => intro v h; exact h
  | leaf beg val => rintro v ⟨b, vb, vv, e, h1, h2, h3, h4, h5, h6⟩; exact ⟨b, vb, vv, e, h1, h2, h3, hB _ h4, fun h => (h5 h).mono hB, fun h => (h6 h).mono hB⟩
  | branch beg kids ih => rintro v ⟨b, vb, vv, bk, ps, e, h1, h2, h3, h4, h5, h7, h8, h9, h6⟩; exact ⟨b, vb, vv, bk, ps, e, h1, h2, h3, h4, h5, hB _ h7, hB _ h8, fun h => (h9 h).mono hB, fun i p hp => ih i (h6 i p hp)⟩
/-! ### The keys -/
def packStep (d : List UInt8) (i : Nat) (x : UInt8) : List UInt8 := d.set (i / 2) (((d.getD (i / 2) 0).toNat * 16 % 256 ||| x.toNat).toUInt8)
def packTo (r : List UInt8) : Nat → List UInt8
  | 0 => List.replicate 32 0
  | k + 1 => packStep (packTo r k) k (r.getD k 0)
theorem packTo_len (r : List UInt8) : ∀ k, (packTo r k).length = 32
  | 0 => List.length_replicate ..
  | k + 1 => by unfold packTo packStep; rw [List.length_set, packTo_len r k]
def packDig (r : List UInt8) : Dig := ⟨packTo r r.length, packTo_len r _⟩
def keysT : Tre → List UInt8 → List (List UInt8)
  | .no, _ => []
  | .leaf b _, a => [a ++ b]
  | .branch b k, a => (List.range 16).flatMap fun i => keysT (k i) ((a ++ b) ++ [i.toUInt8])
def keysTo (K : Nat → Tre) (a : List UInt8) (n : Nat) : List (List UInt8) := (List.range n).flatMap fun i => keysT (K i) (a ++ [i.toUInt8])
theorem keysTo_s (K : Nat → Tre) (a : List UInt8) (n : Nat) : keysTo K a (n + 1) = keysTo K a n ++ keysT (K n) (a ++ [n.toUInt8]) := by
  unfold keysTo; rw [List.range_succ, List.flatMap_append]; simp
theorem keysTo_le (K : Nat → Tre) (a : List UInt8) (n : Nat) (h : n ≤ 16) : (keysTo K a n).length ≤ (keysTo K a 16).length := by
  obtain ⟨j, hj⟩ : ∃ j, 16 = n + j := ⟨16 - n, by omega⟩
  unfold keysTo
  rw [hj, List.range_add, List.flatMap_append, List.length_append]; omega
theorem or_u8 (x y : UInt8) : bitw .or .u8 (((x.toNat * 16 % 256 : Nat) : Nat) : Int) ((y.toNat : Nat) : Int) = ((((x.toNat * 16 % 256 ||| y.toNat).toUInt8).toNat : Nat) : Int) := by
  have h1 : x.toNat * 16 % 256 < 2 ^ 8 := by omega
  have h2 : y.toNat < 2 ^ 8 := y.toNat_lt
  have h3 := Nat.or_lt_two_pow h1 h2
  rw [bitw_or rfl _ _ h1 h2, toU8_lt h3]
theorem shl_u8 (x : UInt8) : IntKind.u8.wrap (((x.toNat : Nat) : Int) * 2 ^ (min ((4 : Int)).toNat IntKind.u8.bits)) = (((x.toNat * 16 % 256 : Nat)) : Int) := by
  rw [show (min ((4 : Int)).toNat IntKind.u8.bits) = 4 from rfl]
  show (((x.toNat : Nat) : Int) * 2 ^ 4) % 256 = _
  omega
theorem quo2 (k : Nat) (h : k < 2 ^ 20) : IntKind.i64.wrap (Int.tdiv (k : Int) 2) = ((k / 2 : Nat) : Int) := by
  rw [Int.tdiv_eq_ediv_of_nonneg (by omega), wrap_i64 (by omega) (by omega)]; omega
theorem ti_dgK : tinfo Tryd.prog 24 = some (some (.agg (List.replicate 32 (c8 0)).toArray), 32, 32) := by kernel_rfl
end Go.Proofs.YtpiidddccmohdabDoor.B
