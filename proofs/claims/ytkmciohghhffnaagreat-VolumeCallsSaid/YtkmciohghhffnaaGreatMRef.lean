/-
  Texts merged (mtpl.py): RefR Blob1.
-/
import Derived.Test.YtkmciohghhffnaaGreatMPack
import Derived.Test.YtkmciohghhffnaaGreatMLib
import Derived.Test.YtkmciohghhffnaaGreatU64
/-! Refs: their bytes, and how these are read back; the sector that tells one. -/
namespace Go.Proofs.YtkmciohghhffnaaGreat.B
open Go
set_option linter.unusedVariables false
set_option maxHeartbeats 2000000
set_option maxRecDepth 100000
attribute [local irreducible] W OpsW OpsQ retP
/-- A Ref: a digest, a place, a length. -/
structure Rf where
  dig : Dig
  at_ : Int
  len : Int
deriving DecidableEq
def Rf.zero : Rf := ⟨Dig.zero, 0, 0⟩
def refR (r : Rf) : List Value := dgR r.dig ++ [.int .i64 r.at_, .int .i64 r.len]
theorem refR_len (r : Rf) : (refR r).length = 34 := by unfold refR; rw [List.length_append, dgR_len]; rfl
theorem refR_one (r : Rf) : (refR r).all one = true := by unfold refR; rw [List.all_append, dgR_one]; rfl
theorem refR_32 (r : Rf) : (refR r)[32]? = some (.int .i64 r.at_) := by
  unfold refR; rw [List.getElem?_append_right (by rw [dgR_len]; exact Nat.le_refl _), dgR_len]; rfl
theorem refR_33 (r : Rf) : (refR r)[33]? = some (.int .i64 r.len) := by
  unfold refR; rw [List.getElem?_append_right (by rw [dgR_len]; decide), dgR_len]; rfl
theorem refR_dig (r : Rf) {j : Nat} {v : Value} (h : (dgR r.dig)[j]? = some v) : (refR r)[j]? = some v := by
  unfold refR; rw [List.getElem?_append_left (List.getElem?_eq_some_iff.1 h).1]; exact h
theorem refR_zero : refR Rf.zero = List.replicate 32 (c8 0) ++ [.int .i64 0, .int .i64 0] := by
  unfold refR dgR Rf.zero Dig.zero; rw [List.map_replicate]
theorem refR_setD (r : Rf) (d : Dig) : splice (refR r) 0 (dgR d) = refR ⟨d, r.at_, r.len⟩ := by
  unfold splice refR
  rw [List.take_zero, List.nil_append, Nat.zero_add, dgR_len, List.drop_left' (dgR_len _)]
theorem refR_set32 (r : Rf) (a : Int) : (refR r).set 32 (.int .i64 a) = refR ⟨r.dig, a, r.len⟩ := by
  unfold refR
  rw [List.set_append_right _ _ (by rw [dgR_len]; exact Nat.le_refl _), dgR_len]; rfl
theorem refR_set33 (r : Rf) (a : Int) : (refR r).set 33 (.int .i64 a) = refR ⟨r.dig, r.at_, a⟩ := by
  unfold refR
  rw [List.set_append_right _ _ (by rw [dgR_len]; decide), dgR_len]; rfl
theorem refR_inj {r s : Rf} : refR r = refR s ↔ r = s := by
  refine ⟨fun h => ?_, fun h => by rw [h]⟩
  unfold refR at h
  obtain ⟨h1, h2⟩ := List.append_inj h (by rw [dgR_len, dgR_len])
  have h1 := dgR_inj.1 h1
  injection h2 with h2 h3
  injection h3 with h3 _
  injection h2 with _ h2
  injection h3 with _ h3
  obtain ⟨d, a, l⟩ := r
  obtain ⟨d', a', l'⟩ := s
  simp only at h1 h2 h3
  rw [h1, h2, h3]
/-- A Ref's bytes. -/
def encR (r : Rf) : List UInt8 := r.dig.val ++ encN (u64 r.at_) ++ encN (u64 r.len)
theorem encR_len (r : Rf) : (encR r).length ≤ 52 := by
  have h1 := encN_len10 (u64_lt r.at_)
  have h2 := encN_len10 (u64_lt r.len)
  have h3 := r.dig.2
  unfold encR; rw [List.length_append, List.length_append, h3]; omega
/-- Bytes, aa_ many aa_ asked. -/
def tkR (n : Nat) (bs : List UInt8) (bad : Bool) : List UInt8 × List UInt8 × Bool := if bad = true ∨ bs.length < n then ([], [], true) else (bs.take n, bs.drop n, bad)
def digR (bs : List UInt8) (bad : Bool) : Dig × List UInt8 × Bool := if h : bad = true ∨ bs.length < 32 then (Dig.zero, [], true) else (⟨bs.take 32, by simp; omega⟩, bs.drop 32, bad)
/-- A Ref is read. -/
def rfR (bs : List UInt8) (bad : Bool) : Rf × List UInt8 × Bool :=
  let d := digR bs bad
  let n := numR 65535 d.2.1 d.2.2
  let m := numR 65536 n.2.1 n.2.2
  (if m.2.2 = true then Rf.zero else ⟨d.1, n.1, m.1⟩, m.2.1, m.2.2)
/-- It can be taken aa_ it is put. -/
def Rf.may (r : Rf) : Prop := 0 ≤ r.at_ ∧ r.at_ ≤ 65535 ∧ 0 ≤ r.len ∧ r.len ≤ 65536
instance (r : Rf) : Decidable r.may := inferInstanceAs (Decidable (_ ∧ _))
theorem numR_bad {most : Nat} {bs : List UInt8} : (numR most bs true).2.2 = true := by unfold numR; split <;> rfl
theorem digR_bad {bs : List UInt8} : (digR bs true).2.2 = true := by unfold digR; rw [dif_pos (.inl rfl)]
theorem rfR_enc {r : Rf} (h : r.may) (rest : List UInt8) : rfR (encR r ++ rest) false = (r, rest, false) := by
  obtain ⟨h1, h2, h3, h4⟩ := h
  have hd : digR (encR r ++ rest) false = (r.dig, encN (u64 r.at_) ++ (encN (u64 r.len) ++ rest), false) := by
    unfold digR encR
    have hl := r.dig.2
    rw [dif_neg (by simp [hl])]
    have e : r.dig.val ++ encN (u64 r.at_) ++ encN (u64 r.len) ++ rest = r.dig.val ++ (encN (u64 r.at_) ++ (encN (u64 r.len) ++ rest)) := by simp
    rw [Prod.mk.injEq, Prod.mk.injEq]
    exact ⟨Subtype.ext ((congrArg (List.take 32) e).trans (List.take_left' hl)), by rw [e]; exact List.drop_left' hl, rfl⟩
  have ha : u64 r.at_ ≤ 65535 := by unfold u64; omega
  have hb : u64 r.len ≤ 65536 := by unfold u64; omega
  unfold rfR
  simp only [hd]
  rw [numR_some (dec_enc _ 65535 _ (u64_lt _) ha)]
  simp only
  rw [numR_some (dec_enc _ 65536 _ (u64_lt _) hb)]
  have e1 : ((u64 r.at_ : Nat) : Int) = r.at_ := by unfold u64; omega
  have e2 : ((u64 r.len : Nat) : Int) = r.len := by unfold u64; omega
  simp [e1, e2]
theorem rfR_ok {bs : List UInt8} {bad : Bool} (h : (rfR bs bad).2.2 = false) : (rfR bs bad).1.may := by
  unfold rfR at h ⊢
  simp only at h ⊢
  rw [if_neg (by rw [h]; simp)]
  have h1 := numR_le 65535 (digR bs bad).2.1 (digR bs bad).2.2
  have h2 := numR_le 65536 (numR 65535 (digR bs bad).2.1 (digR bs bad).2.2).2.1 (numR 65535 (digR bs bad).2.1 (digR bs bad).2.2).2.2
  exact ⟨Int.natCast_nonneg _, by show ((numR 65535 _ _).1 : Int) ≤ 65535; omega, Int.natCast_nonneg _, by show ((numR 65536 _ _).1 : Int) ≤ 65536; omega⟩
/-! ### The sector that tells a Ref -/
def laidB (r : Rf) : List UInt8 := 1 :: encR r ++ List.replicate (63 - (encR r).length) 0
theorem laidB_len (r : Rf) : (laidB r).length = 64 := by
  have := encR_len r
  unfold laidB; simp; omega
/-- The Ref that a sector's bytes tell. -/
def told (s : List UInt8) : Option Rf :=
  let k := numR 1 s false
  let t := rfR k.2.1 k.2.2
  if t.2.2 = true ∨ laidB t.1 ≠ s then none else some t.1
theorem told_iff {s : List UInt8} {r : Rf} : told s = some r ↔ r.may ∧ laidB r = s := by
  unfold told
  simp only
  constructor
  · intro h
    split at h
    · cases h
    · rename_i hn
      injection h with h
      subst h
      refine ⟨rfR_ok (by simpa using fun e => hn (.inl e)), Decidable.byContradiction fun e => hn (.inr e)⟩
  · rintro ⟨h1, rfl⟩
    have hk : numR 1 (laidB r) false = (1, encR r ++ List.replicate (63 - (encR r).length) 0, false) := by
      refine numR_some ?_
      have := dec_enc 1 1 (encR r ++ List.replicate (63 - (encR r).length) 0) (by decide) (by decide)
      rw [encN_last (by decide)] at this
      exact this
    rw [hk]
    simp only
    rw [rfR_enc h1, if_neg (by simp)]
theorem laidB_inj {r s : Rf} (hr : r.may) (hs : s.may) (h : laidB r = laidB s) : r = s := by
  have h1 := told_iff.2 ⟨hr, rfl⟩
  have h2 := told_iff.2 ⟨hs, rfl⟩
  rw [h, h2] at h1
  injection h1 with h1; exact h1.symm
/-! ### The document's reading -/
/-- A number: at most k bytes, of weight wt on, behind n. -/
def numS : Nat → Bool → Nat → Nat → Nat → List UInt8 → Option (Nat × Nat)
  | 0, _, _, _, _, _ => none
  | _ + 1, _, _, _, _, [] => none
  | k + 1, fst, i, n, wt, x :: xs => if x.toNat < 128 then (if fst = false ∧ x = 0 then none else some (n + x.toNat * wt, i + 1)) else numS k false (i + 1) (n + x.toNat % 128 * wt) (128 * wt) xs
theorem numS_cons {k : Nat} {fst : Bool} {i n wt : Nat} {x : UInt8} {xs : List UInt8} : numS (k + 1) fst i n wt (x :: xs) = if x.toNat < 128 then (if fst = false ∧ x = 0 then none else some (n + x.toNat * wt, i + 1)) else numS k false (i + 1) (n + x.toNat % 128 * wt) (128 * wt) xs := rfl
theorem numS_nil {k : Nat} {fst : Bool} {i n wt : Nat} : numS k fst i n wt [] = none := by cases k <;> rfl
theorem numS_0 {fst : Bool} {i n wt : Nat} {l : List UInt8} : numS 0 fst i n wt l = none := by cases l <;> rfl
/-- What stands there is a number's bytes. -/
theorem numS_some : ∀ (k : Nat) (fst : Bool) (i n wt : Nat) (l : List UInt8) (v e : Nat), 0 < wt → numS k fst i n wt l = some (v, e) → ∃ y rest, l = encN y ++ rest ∧ v = n + y * wt ∧ e = i + (encN y).length ∧ y < 128 ^ k ∧ (fst = false → 0 < y)
  | k + 1, fst, i, n, wt, x :: xs, v, e, hw, h => by
    unfold numS at h
    by_cases hx : x.toNat < 128
    · rw [if_pos hx] at h
      split at h
      · cases h
      · rename_i hn
        injection h with h
        injection h with h1 h2
        refine ⟨x.toNat, xs, by rw [encN_last hx]; simp, h1.symm, by rw [encN_last hx]; exact h2.symm, Nat.lt_of_lt_of_le hx (by rw [Nat.pow_succ]; exact Nat.le_mul_of_pos_left _ (Nat.pow_pos (by decide))), fun hf => ?_⟩
        rcases Nat.eq_zero_or_pos x.toNat with h0 | h0
        · exact absurd ⟨hf, UInt8.toNat_inj.1 h0⟩ hn
        · exact h0
    · rw [if_neg hx] at h
      obtain ⟨y, rest, h1, h2, h3, h4, h5⟩ := numS_some k false (i + 1) _ _ xs v e (by omega) h
      have hy := h5 rfl
      have hxl := x.toNat_lt
      have e1 : (x.toNat % 128 + 128 * y) % 128 = x.toNat % 128 := by omega
      have e2 : (x.toNat % 128 + 128 * y) / 128 = y := by omega
      refine ⟨x.toNat % 128 + 128 * y, rest, ?_, ?_, ?_, ?_, fun _ => by omega⟩
      · rw [encN_more (by omega), e1, e2, h1, List.cons_append]
        congr 1
        apply UInt8.toNat_inj.1
        simp; omega
      · rw [h2, Nat.add_mul, show y * (128 * wt) = 128 * y * wt by rw [← Nat.mul_assoc, Nat.mul_comm y 128], Nat.add_assoc]
      · rw [h3, encN_more (v := x.toNat % 128 + 128 * y) (by omega), e2, List.length_cons]; omega
      · rw [Nat.pow_succ]; omega
theorem numS_enc : ∀ (k : Nat) (fst : Bool) (i n wt y : Nat) (rest : List UInt8), y < 128 ^ (k + 1) → (fst = false → 0 < y) → numS (k + 1) fst i n wt (encN y ++ rest) = some (n + y * wt, i + (encN y).length) := by
  intro k
  induction k with
  | zero =>
    intro fst i n wt y rest h hf
    have hy : y < 128 := by simpa using h
    rw [encN_last hy, List.singleton_append]
    unfold numS
    have e : y.toUInt8.toNat = y := by simp; omega
    rw [if_pos (by omega), if_neg, e]
    · rfl
    · rintro ⟨h1, h2⟩
      have := hf h1
      rw [h2] at e
      have : (0 : UInt8).toNat = 0 := rfl
      omega
  | succ k ih =>
    intro fst i n wt y rest h hf
    by_cases hy : y < 128
    · rw [encN_last hy, List.singleton_append]
      unfold numS
      have e : y.toUInt8.toNat = y := by simp; omega
      rw [if_pos (by omega), if_neg, e]
      · rfl
      · rintro ⟨h1, h2⟩
        have := hf h1
        rw [h2] at e
        have : (0 : UInt8).toNat = 0 := rfl
        omega
    · rw [encN_more (by omega), List.cons_append]
      unfold numS
      have e : (y % 128 + 128).toUInt8.toNat = y % 128 + 128 := by simp; omega
      rw [if_neg (by omega), ih false (i + 1) _ _ (y / 128) rest (by rw [Nat.pow_succ] at h; omega) (fun _ => by omega), e]
      rw [Option.some.injEq, Prod.mk.injEq, List.length_cons]
      refine ⟨?_, by omega⟩
      have e2 : (y % 128 + 128) % 128 = y % 128 := by omega
      rw [e2]
      have e3 : y * wt = (y % 128 + 128 * (y / 128)) * wt := by rw [Nat.mod_add_div]
      rw [e3, Nat.add_mul, show 128 * (y / 128) * wt = y / 128 * (128 * wt) by rw [Nat.mul_comm 128, Nat.mul_assoc], Nat.add_assoc]
/-- The document's reading of a sector. -/
def rtold (s : List UInt8) : Option Rf :=
  if s.getD 0 0 ≠ 1 then none else
  match numS 4 true 33 0 1 (s.drop 33) with
  | none => none
  | some (n, e) => match numS 4 true e 0 1 (s.drop e) with
    | none => none
    | some (m, e2) => if h : ((s.drop 1).take 32).length = 32 then
        (if (Rf.mk ⟨(s.drop 1).take 32, h⟩ n m).may ∧ (∀ x ∈ s.drop e2, x = 0) then some ⟨⟨(s.drop 1).take 32, h⟩, n, m⟩ else none) else none
theorem numS_top {i : Nat} {l : List UInt8} {v e : Nat} (h : numS 4 true i 0 1 l = some (v, e)) : ∃ rest, l = encN v ++ rest ∧ e = i + (encN v).length ∧ v < 2 ^ 64 := by
  obtain ⟨y, rest, h1, h2, h3, h4, _⟩ := numS_some 4 true i 0 1 l v e (by decide) h
  obtain rfl : v = y := by omega
  exact ⟨rest, h1, h3, Nat.lt_trans h4 (by decide)⟩
theorem rtold_iff {s : List UInt8} (hl : s.length = 64) {r : Rf} : rtold s = some r ↔ r.may ∧ laidB r = s := by
  constructor
  · intro h
    unfold rtold at h
    split at h
    · cases h
    · rename_i h1
      split at h
      · cases h
      · rename_i n e hn
        split at h
        · cases h
        · rename_i m e2 hm
          split at h
          · rename_i hd
            split at h
            · rename_i hmay
              injection h with h
              subst h
              refine ⟨hmay.1, ?_⟩
              obtain ⟨r1, e1, he, hn64⟩ := numS_top hn
              obtain ⟨r2, e3, he2, hm64⟩ := numS_top hm
              have hr1 : s.drop e = r1 := by rw [he, ← List.drop_drop, e1, List.drop_left]
              have hr2 : s.drop e2 = r2 := by rw [he2, ← List.drop_drop, e3, List.drop_left]
              have hrep : r2 = List.replicate r2.length 0 := List.eq_replicate_iff.2 ⟨rfl, fun x hx => hmay.2 x (by rw [hr2]; exact hx)⟩
              obtain ⟨x, t, rfl⟩ : ∃ x t, s = x :: t := by
                cases s with
                | nil => cases hl
                | cons x t => exact ⟨x, t, rfl⟩
              have hx : x = 1 := by simpa using h1
              subst hx
              have ht : t = t.take 32 ++ (encN n ++ (encN m ++ r2)) := by
                rw [← e3, hr1, ← e1]
                exact (List.take_append_drop 32 t).symm
              have hE : encR ⟨⟨((1 :: t).drop 1).take 32, hd⟩, n, m⟩ = t.take 32 ++ encN n ++ encN m := by
                unfold encR
                simp only [u64_nat hn64, u64_nat hm64, List.drop_succ_cons, List.drop_zero]
              have hlen : 63 - (t.take 32 ++ encN n ++ encN m).length = r2.length := by
                have h63 : t.length = 63 := by simpa using hl
                have := congrArg List.length ht
                simp only [List.length_append] at this ⊢
                omega
              unfold laidB
              rw [hE, hlen, ← hrep]
              conv => rhs; rw [ht]
              simp
            · cases h
          · cases h
  · rintro ⟨hm, rfl⟩
    have hd := r.dig.2
    have ha : u64 r.at_ < 2 ^ 64 := u64_lt _
    have hb : u64 r.len < 2 ^ 64 := u64_lt _
    have hal : u64 r.at_ < 128 ^ 4 := by obtain ⟨h1, h2, _⟩ := hm; unfold u64; omega
    have hbl : u64 r.len < 128 ^ 4 := by obtain ⟨_, _, h1, h2⟩ := hm; unfold u64; omega
    have e0 : laidB r = 1 :: (r.dig.val ++ (encN (u64 r.at_) ++ (encN (u64 r.len) ++ List.replicate (63 - (encR r).length) 0))) := by
      unfold laidB; rw [show encR r = r.dig.val ++ encN (u64 r.at_) ++ encN (u64 r.len) from rfl]; simp
    have e1 : (laidB r).drop 33 = encN (u64 r.at_) ++ (encN (u64 r.len) ++ List.replicate (63 - (encR r).length) 0) := by
      rw [e0, List.drop_succ_cons]; exact List.drop_left' hd
    have e2 : (laidB r).drop (33 + (encN (u64 r.at_)).length) = encN (u64 r.len) ++ List.replicate (63 - (encR r).length) 0 := by
      rw [← List.drop_drop, e1, List.drop_left]
    have e3 : (laidB r).drop (33 + (encN (u64 r.at_)).length + (encN (u64 r.len)).length) = List.replicate (63 - (encR r).length) 0 := by
      rw [← List.drop_drop, e2, List.drop_left]
    have e4 : ((laidB r).drop 1).take 32 = r.dig.val := by
      rw [e0, List.drop_succ_cons, List.drop_zero]; exact List.take_left' hd
    have z1 : ((u64 r.at_ : Nat) : Int) = r.at_ := by obtain ⟨h1, h2, _⟩ := hm; unfold u64; omega
    have z2 : ((u64 r.len : Nat) : Int) = r.len := by obtain ⟨_, _, h1, h2⟩ := hm; unfold u64; omega
    unfold rtold
    rw [if_neg (by rw [e0]; simp), e1, numS_enc 3 true 33 0 1 _ _ hal (fun h => by cases h)]
    simp only
    rw [e2, numS_enc 3 true _ 0 1 _ _ hbl (fun h => by cases h)]
    simp only [Nat.zero_add, Nat.mul_one]
    rw [e3, dif_pos (by rw [e4]; exact hd)]
    have hR : (Rf.mk ⟨((laidB r).drop 1).take 32, by rw [e4]; exact hd⟩ (u64 r.at_ : Nat) (u64 r.len : Nat)) = r := by
      obtain ⟨d, a, l⟩ := r
      simp only at z1 z2
      rw [Rf.mk.injEq]
      exact ⟨Subtype.ext e4, z1, z2⟩
    rw [hR, if_pos ⟨hm, fun x hx => (List.mem_replicate.1 hx).2⟩]
theorem rtold_eq {s : List UInt8} (hl : s.length = 64) : rtold s = told s := by
  apply Option.ext
  intro r
  exact (rtold_iff hl).trans told_iff.symm
end Go.Proofs.YtkmciohghhffnaaGreat.B
/-! blob: a Ref is put, and taken. -/
namespace Go.Proofs.YtkmciohghhffnaaGreat.B
open Go
set_option linter.unusedVariables false
set_option maxHeartbeats 2000000
set_option maxRecDepth 100000
attribute [local irreducible] W OpsW OpsQ retP
theorem InC.keep' {w w' : World} {b : Nat} {A C : Nat → Prop} {bs : List UInt8} {bad : Bool} (h : InC w b A bs bad) (hk : Keep C w w') (hb : C b) (hA : ∀ k, k < w.heap.size → A k → C k) : InC w' b A bs bad := by
  obtain ⟨vb, h1, ⟨a, c, rfl, h2, h3, h4, h5, h6⟩, h7⟩ := h
  exact ⟨_, hk.blk' h1 hb, ⟨a, c, rfl, h2, h3, h4, h5, fun x hx i u hu => ⟨(h6 x hx i u hu).1, hk.cell (h6 x hx i u hu).2 (hA _ (World.block_lt_of_cell? w _ (h6 x hx i u hu).2) (h7 _ (by rw [hx]; rfl)))⟩⟩, h7⟩

theorem okC_int {P : Program} {t : TypeId} {k : IntKind} {d : Nat} (h : P.underlying t = some (.int k)) (n : Int) : okC P (d + 1) t [.int k n] := by
  unfold okC; rw [h]; exact ⟨n, rfl⟩

theorem in_Wrong (w : World) (b : Nat) (A : Nat → Prop) (bs : List UInt8) (bad : Bool) (h : InC w b A bs bad) :
    Ret Tryz.prog 41 [.pointer (some ⟨b, 0, none⟩)].toArray w fun r w' => r = .bool bad ∧ w' = w := by
  obtain ⟨vb, hB, hx, hA⟩ := h
  refine enter (fn := Tryz.f41) (n := 7) Tryz.func41 rfl rfl (by simp) ?_
  refine W_seq ?_
  refine W_region ?_
  refine o_asc rfl ?_
  refine ops_nil ?_
  refine W_seq ?_
  refine W_region ?_
  refine o_mvt rfl ?_
  refine op_run (r_nilCheck rfl) rfl ?_
  refine op_run (r_fieldAddr rfl rfl rfl rfl rfl) rfl ?_
  refine op_run (r_load rfl rfl rfl (hB.cell rfl)) rfl ?_
  refine o_ast rfl ?_
  refine ops_nil ?_
  refine W_ret ?_
  refine ret1 (.bool bad) rfl ?_ ?_; rfl
  exact ⟨rfl, rfl⟩

theorem digR_snd (bs : List UInt8) (bad : Bool) : (digR bs bad).2 = (tkR 32 bs bad).2 := by unfold digR tkR; split <;> rfl
theorem digR_fst (bs : List UInt8) (bad : Bool) : splice (List.replicate 32 (c8 0)) 0 (((tkR 32 bs bad).1.map c8).take (min (tkR 32 bs bad).1.length 32)) = dgR (digR bs bad).1 := by
  unfold digR tkR
  split
  · rfl
  · rename_i h
    have hl : (bs.take 32).length = 32 := by rw [List.length_take]; omega
    simp only [hl, Nat.min_self]
    rw [List.take_of_length_le (by rw [List.length_map, hl]; exact Nat.le_refl _), splice_all (by rw [List.length_map, hl]; rfl)]
    rfl
theorem in_take' (w : World) (b : Nat) (A : Nat → Prop) (bs : List UInt8) (bad : Bool) (n : Nat) (hn : n < 2 ^ 63) (hAb : ¬ A b) (h : InC w b A bs bad) :
    Ret Tryz.prog 61 [.pointer (some ⟨b, 0, none⟩), .int .i64 n].toArray w fun r w' => By w' r (tkR n bs bad).1 ∧ InB A r ∧ InC w' b A (tkR n bs bad).2.1 (tkR n bs bad).2.2 ∧ Keep (· ≠ b) w w' := by
  refine (in_take w b A bs bad n hn hAb h).mono fun e w' ⟨u, he, hu⟩ => ⟨u, he, ?_⟩
  dsimp only at hu
  unfold tkR
  split
  · rename_i hc
    rw [if_pos hc] at hu
    obtain ⟨rfl, h1, h2⟩ := hu
    exact ⟨Sl.nil _ _, InB.nil, h1, h2⟩
  · rename_i hc
    rw [if_neg hc] at hu
    exact hu

theorem in_Digest (w : World) (b : Nat) (A : Nat → Prop) (bs : List UInt8) (bad : Bool) (hAb : ¬ A b) (hAl : ∀ k, A k → k < w.heap.size) (h : InC w b A bs bad) :
    Ret Tryz.prog 62 [.pointer (some ⟨b, 0, none⟩)].toArray w fun r w' => r = .agg (dgR (digR bs bad).1).toArray ∧ InC w' b A (digR bs bad).2.1 (digR bs bad).2.2 ∧ Keep (· ≠ b) w w' := by
  have hbl : b < w.heap.size := by obtain ⟨_, hB, _⟩ := h; exact hB.lt
  refine enter (fn := Tryz.f62) (n := 8) Tryz.func62 rfl rfl (by simp) ?_
  refine W_seq ?_
  refine W_region ?_
  refine o_alloc rfl rfl rfl ?_; intro w1 b1 e1 hB1 hk1 hs1
  have h1 : InC w1 b A bs bad := h.keep' hk1 trivial (fun _ _ _ => trivial)
  refine ops_nil ?_
  refine W_seq ?_
  refine W_held (Keep (fun k => k ≠ b ∧ k ≠ b1) w1) (by kernel_rfl) (Keep.drawn w1 |>.all) (fun hS => ?_)
  refine any_run 0 (fun w' hS' => (r_sliceA rfl rfl rfl)) rfl (by kernel_rfl) (by kernel_rfl) (by kernel_rfl) rfl hS ?_
  refine any_mvt 1 rfl (by kernel_rfl) (by kernel_rfl) (by kernel_rfl) rfl hS ?_
  refine any_one 2 (by kernel_rfl) (one_of rfl ?_)
  refine op_call rfl rfl rfl (in_take' _ b A bs bad 32 (by decide) hAb (h1.keep' (Keep.drawn w1) trivial (fun _ _ _ => trivial))) ?_; rintro v3 w3 ⟨hby, hin3, hI3, hk3⟩
  refine ops_nil ⟨hS.trans (hk3.mono fun k _ h => h.1), fun hS => ?_⟩
  have hB1 : Blk w1 b1 (List.replicate 32 (c8 0)) 29 := hB1
  have hB3 := hk3.blk' ((Keep.drawn w1).blk' hB1 trivial) (show b1 ≠ b by omega)
  refine any_one 3 (by kernel_rfl) (one_of rfl ?_)
  refine o_copy (cs := ((tkR 32 bs bad).1.map c8)) rfl rfl (hby) rfl rfl (hB3) (by exact Nat.le_refl _) (all_c8 _) rfl ?_; intro w5 hB5 hk5 hs5
  refine ops_nil ⟨hS.trans (hk5.mono fun k _ h => h.2), fun hS => ?_⟩
  rw [digR_fst] at hB5
  refine any_done (by kernel_rfl) ?_
  refine W_seq ?_
  refine W_region ?_
  refine op_run (r_loadA (dgR (digR bs bad).1) rfl rfl rfl (by first | rfl | (rw [binV_len]; rfl) | (rw [dgR_len]; rfl) | (rw [refR_len]; rfl) | (rw [secR_len]; rfl) | (rw [List.length_map, tagF_len]; rfl)) (hB5.all)) rfl ?_
  refine o_storeA (cs := dgR (digR bs bad).1) rfl rfl (by first | rfl | exact binV_one _ | exact dgR_one _ | exact refR_one _ | exact secR_one _ | exact all_c8 _) (by first | rfl | (rw [binV_len]; rfl) | (rw [dgR_len]; rfl) | (rw [refR_len]; rfl) | (rw [secR_len]; rfl) | (rw [List.length_map, tagF_len]; rfl)) hB5 (by rw [dgR_len]; exact Nat.le_refl _) rfl ?_; intro w8 hB8 hk8 hs8
  rw [splice_all (by rw [dgR_len])] at hB8
  refine ops_nil ?_
  refine W_ret ?_
  refine retA (dgR (digR bs bad).1) rfl rfl rfl rfl (by first | rfl | (rw [binV_len]; rfl) | (rw [dgR_len]; rfl) | (rw [refR_len]; rfl) | (rw [secR_len]; rfl) | (rw [List.length_map, tagF_len]; rfl)) hB8.all ?_
  refine ⟨rfl, ?_, ?_⟩
  · rw [digR_snd]
    exact (hI3.keep' hk5 (by omega) (fun k _ hA e => by have := hAl k hA; omega)).keep' hk8 (by omega) (fun k _ hA e => by have := hAl k hA; omega)
  · exact ((hk1.all.trans hS).trans (hk8.mono fun k _ h => h.2)).mono fun k hk h => ⟨h, by omega⟩


end Go.Proofs.YtkmciohghhffnaaGreat.B
