/-
  Commits as bytes: the plain law.
-/
import Derived.Test.YtigehkfdfecfoaaDoorPackCan
namespace Go.Proofs.YtigehkfdfecfoaaDoor.B
open Go
set_option linter.unusedVariables false
set_option maxHeartbeats 2000000
set_option maxRecDepth 100000
attribute [local irreducible] W OpsW OpsQ retP
attribute [local irreducible] numR
structure Cm where
  epoch : Nat
  prev : Rf
  vols : Rf
  idx : Rf
  bins : List Bn
  state : Dig
  events : List (List UInt8)
deriving DecidableEq
def Cm.zero : Cm := ⟨0, Rf.zero, Rf.zero, Rf.zero, [], Dig.zero, []⟩
def encC (c : Cm) : List UInt8 := encN c.epoch ++ (encR c.prev ++ (encR c.vols ++ (encR c.idx ++ (encN c.bins.length ++ (c.bins.flatMap encBn ++ (c.state.val ++ (encN c.events.length ++ c.events.flatMap encB)))))))
def rdC (bs : List UInt8) : Cm × List UInt8 × Bool :=
  let a := numR 18446744073709551615 bs false
  let p := rfR a.2.1 a.2.2
  let v := rfR p.2.1 p.2.2
  let i := rfR v.2.1 v.2.2
  let b := manyR bnR i.2.1 i.2.2
  let s := digR b.2.1 b.2.2
  let e := manyR (bytsR 65536) s.2.1 s.2.2
  (⟨a.1, p.1, v.1, i.1, b.1, s.1, e.1⟩, e.2.1, e.2.2)
structure Cm.fit (c : Cm) : Prop where
  epoch : c.epoch < 2 ^ 64
  prev : c.prev.may
  vols : c.vols.may
  idx : c.idx.may
  bins : ∀ x ∈ c.bins, x.may
  nbins : c.bins.length ≤ 65536
  nev : c.events.length ≤ 65536
  events : ∀ x ∈ c.events, x.length ≤ 65536
theorem rdC_enc {c : Cm} (h : c.fit) (rest : List UInt8) : rdC (encC c ++ rest) = (c, rest, false) := by
  have e : encC c ++ rest = encN c.epoch ++ (encR c.prev ++ (encR c.vols ++ (encR c.idx ++ (encN c.bins.length ++ (c.bins.flatMap encBn ++ (c.state.val ++ (encN c.events.length ++ (c.events.flatMap encB ++ rest)))))))) := by
    unfold encC; simp only [List.append_assoc]
  rw [e]
  have h64 := h.epoch
  unfold rdC
  simp only
  rw [numR_enc h.epoch (by omega)]
  simp only
  rw [rfR_enc h.prev]
  simp only
  rw [rfR_enc h.vols]
  simp only
  rw [rfR_enc h.idx]
  simp only
  rw [manyR_enc bnR encBn c.bins _ h.nbins fun x hx r => bnR_enc (h.bins x hx) r]
  simp only
  rw [digR_enc]
  simp only
  rw [manyR_enc (bytsR 65536) encB c.events _ h.nev fun x hx r => bytsR_enc (h.events x hx) (by have := h.events x hx; omega) r]
theorem rdC_can {bs r : List UInt8} {c : Cm} (h : rdC bs = (c, r, false)) : bs = encC c ++ r ∧ c.fit := by
  unfold rdC at h
  simp only at h
  injection h with h1 h; injection h with h2 h3
  generalize hA : numR 18446744073709551615 bs false = A at h1 h2 h3
  obtain ⟨a1, a2, a3⟩ := A
  simp only at h1 h2 h3
  generalize hP : rfR a2 a3 = P at h1 h2 h3
  obtain ⟨p1, p2, p3⟩ := P
  simp only at h1 h2 h3
  generalize hV : rfR p2 p3 = V at h1 h2 h3
  obtain ⟨v1, v2, v3⟩ := V
  simp only at h1 h2 h3
  generalize hI : rfR v2 v3 = I at h1 h2 h3
  obtain ⟨i1, i2, i3⟩ := I
  simp only at h1 h2 h3
  generalize hB : manyR bnR i2 i3 = B at h1 h2 h3
  obtain ⟨b1, b2, b3⟩ := B
  simp only at h1 h2 h3
  generalize hS : digR b2 b3 = S at h1 h2 h3
  obtain ⟨s1, s2, s3⟩ := S
  simp only at h1 h2 h3
  generalize hE : manyR (bytsR 65536) s2 s3 = E at h1 h2 h3
  obtain ⟨e1, e2, e3⟩ := E
  simp only at h1 h2 h3
  subst h3; subst h2
  obtain ⟨rfl, ke, kel, kem⟩ := manyR_can (bytsR 65536) encB (Q := fun x => x.length ≤ 65536) (fun bs x r h => ⟨(bytsR_can h).2.1, (bytsR_can h).2.2⟩) hE
  obtain ⟨rfl, ks⟩ := digR_can hS
  obtain ⟨rfl, kb, kbl, kbm⟩ := manyR_can bnR encBn (Q := Bn.may) (fun bs x r h => ⟨(bnR_can h).2.1, (bnR_can h).2.2⟩) hB
  obtain ⟨rfl, ki, kim⟩ := rfR_can hI
  obtain ⟨rfl, kv, kvm⟩ := rfR_can hV
  obtain ⟨rfl, kp, kpm⟩ := rfR_can hP
  obtain ⟨_, ka, _, ka64⟩ := numR_can hA
  subst h1
  refine ⟨?_, ⟨ka64, kpm, kvm, kim, kbm, kbl, kel, kem⟩⟩
  rw [ka, kp, kv, ki, kb, ks, ke]
  unfold encC
  simp only [List.append_assoc]
/-- The bins' numbers rise. -/
def rising : Int → List Bn → Prop
  | _, [] => True
  | last, x :: l => last < x.number ∧ rising x.number l
instance rising.dec : (last : Int) → (l : List Bn) → Decidable (rising last l)
  | _, [] => .isTrue trivial
  | last, x :: l => match Int.decLt last x.number, rising.dec x.number l with
    | .isTrue h, .isTrue k => .isTrue ⟨h, k⟩
    | .isFalse h, _ => .isFalse fun hh => h hh.1
    | _, .isFalse k => .isFalse fun hh => k hh.2
/-- It may be, but for its size. -/
def Cm.right (c : Cm) : Prop := (rising (-1) c.bins ∧ ∀ x ∈ c.bins, x.may) ∧ c.prev.may ∧ c.vols.may ∧ c.idx.may ∧ 0 < c.epoch
instance (c : Cm) : Decidable c.right := inferInstanceAs (Decidable (_ ∧ _))
/-- What was read is a commit. -/
def okRd (r : Cm × List UInt8 × Bool) (n : Nat) : Prop := rising (-1) r.1.bins ∧ r.2.1 = [] ∧ r.2.2 = false ∧ r.1.epoch ≠ 0 ∧ n ≤ 65536
instance (r : Cm × List UInt8 × Bool) (n : Nat) : Decidable (okRd r n) := inferInstanceAs (Decidable (_ ∧ _))
def decC (bs : List UInt8) : Option Cm := if okRd (rdC bs) bs.length then some (rdC bs).1 else none
theorem encBn_pos (b : Bn) : 1 ≤ (encBn b).length := by
  have := encN_pos (u64 b.number)
  unfold encBn; simp only [List.length_append]; omega
theorem encB_pos (b : List UInt8) : 1 ≤ (encB b).length := by
  have := encN_pos b.length
  unfold encB; rw [List.length_append]; omega
theorem encB_ge' (b : List UInt8) : b.length ≤ (encB b).length := by unfold encB; rw [List.length_append]; omega
theorem flatMap_ge {α : Type} {f : α → List UInt8} (h : ∀ x, 1 ≤ (f x).length) : ∀ l : List α, l.length ≤ (l.flatMap f).length
  | [] => Nat.zero_le _
  | x :: l => by have := flatMap_ge h l; have := h x; rw [List.flatMap_cons, List.length_append, List.length_cons]; omega
theorem flatMap_mem {α : Type} {f : α → List UInt8} {x : α} : ∀ {l : List α}, x ∈ l → (f x).length ≤ (l.flatMap f).length
  | y :: l, h => by
    rw [List.flatMap_cons, List.length_append]
    rcases List.mem_cons.1 h with rfl | h
    · omega
    · have := flatMap_mem (f := f) h; omega
theorem right_fit {c : Cm} (h : c.right) (he : c.epoch < 2 ^ 64) (hl : (encC c).length ≤ 65536) : c.fit := by
  obtain ⟨⟨_, h2⟩, h3, h4, h5, _⟩ := h
  have e : (encC c).length = (encN c.epoch).length + ((encR c.prev).length + ((encR c.vols).length + ((encR c.idx).length + ((encN c.bins.length).length + ((c.bins.flatMap encBn).length + (c.state.val.length + ((encN c.events.length).length + (c.events.flatMap encB).length))))))) := by
    unfold encC; simp only [List.length_append]
  have k1 := flatMap_ge encBn_pos c.bins
  have k2 := flatMap_ge encB_pos c.events
  exact ⟨he, h3, h4, h5, h2, by omega, by omega, fun x hx => by have := flatMap_mem (f := encB) hx; have := encB_ge' x; omega⟩
theorem decC_iff {bs : List UInt8} {c : Cm} : decC bs = some c ↔ (c.right ∧ c.epoch < 2 ^ 64) ∧ encC c = bs ∧ bs.length ≤ 65536 := by
  unfold decC
  constructor
  · intro h
    by_cases hc : okRd (rdC bs) bs.length
    · rw [if_pos hc] at h
      injection h with h
      generalize hr : rdC bs = R at hc h
      obtain ⟨c', l, b⟩ := R
      subst h
      obtain ⟨h1, h2, h3, h4, h5⟩ := hc
      simp only at h1 h2 h3 h4
      subst h2; subst h3
      obtain ⟨k1, k2⟩ := rdC_can hr
      exact ⟨⟨⟨⟨h1, k2.bins⟩, k2.prev, k2.vols, k2.idx, Nat.pos_of_ne_zero h4⟩, k2.epoch⟩, by rw [k1, List.append_nil], h5⟩
    · rw [if_neg hc] at h; cases h
  · rintro ⟨⟨h1, h2⟩, rfl, h3⟩
    have hf := right_fit h1 h2 h3
    have hr := rdC_enc hf []
    rw [List.append_nil] at hr
    have hc : okRd (rdC (encC c)) (encC c).length := by
      rw [hr]
      have h0 := h1.2.2.2.2
      exact ⟨h1.1.1, rfl, rfl, Nat.pos_iff_ne_zero.1 h0, h3⟩
    rw [if_pos hc, hr]
theorem encC_inj {c d : Cm} (hc : c.right) (hc64 : c.epoch < 2 ^ 64) (hd : d.right) (hd64 : d.epoch < 2 ^ 64) (hl : (encC c).length ≤ 65536) (h : encC c = encC d) : c = d := by
  have h1 := decC_iff.2 ⟨⟨hc, hc64⟩, rfl, hl⟩
  have h2 := decC_iff.2 ⟨⟨hd, hd64⟩, rfl, h ▸ hl⟩
  rw [h, h2] at h1
  injection h1 with h1; exact h1.symm
/-- No beginning of a commit is one. -/
theorem decC_cut {c : Cm} (hc : c.right) (hc64 : c.epoch < 2 ^ 64) (hl : (encC c).length ≤ 65536) {k : Nat} (hk : k < (encC c).length) : decC ((encC c).take k) = none := by
  cases hd : decC ((encC c).take k) with
  | none => rfl
  | some d =>
    exfalso
    obtain ⟨⟨h1, h2⟩, h3, h4⟩ := decC_iff.1 hd
    have hf := right_fit h1 h2 (by rw [h3]; exact h4)
    have e : encC c = encC d ++ (encC c).drop k := by rw [h3, List.take_append_drop]
    have r1 := rdC_enc (right_fit hc hc64 hl) []
    rw [List.append_nil, e, rdC_enc hf] at r1
    injection r1 with _ r1; injection r1 with r1 _
    have := congrArg List.length r1
    rw [List.length_drop] at this
    simp at this; omega
end Go.Proofs.YtigehkfdfecfoaaDoor.B
