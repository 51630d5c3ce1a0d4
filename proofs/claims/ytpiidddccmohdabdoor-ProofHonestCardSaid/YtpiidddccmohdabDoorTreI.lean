/-
  The document's items: keys and values in rows.
-/
import Derived.Test.YtpiidddccmohdabDoorMTag
import Derived.Test.YtpiidddccmohdabDoorRowsK
namespace Go.Proofs.YtpiidddccmohdabDoor.B
open Go
set_option linter.unusedVariables false
set_option maxHeartbeats 2000000
set_option maxRecDepth 100000
attribute [local irreducible] W OpsW OpsQ retP
/-! ### The plain law -/
def lessB : List UInt8 → List UInt8 → Bool
  | a :: l, b :: r => if a = b then lessB l r else decide (a.toNat < b.toNat)
  | _, _ => false
theorem lessB_at : ∀ (i : Nat) (a b : List UInt8) (x y : UInt8), a.take i = b.take i → a[i]? = some x → b[i]? = some y → x ≠ y → lessB a b = decide (x.toNat < y.toNat)
  | 0, x' :: l, y' :: r, x, y, _, hx, hy, hne => by
    simp at hx hy; subst hx; subst hy
    unfold lessB; rw [if_neg hne]
  | i + 1, x' :: l, y' :: r, x, y, ht, hx, hy, hne => by
    rw [List.take_succ_cons, List.take_succ_cons] at ht
    injection ht with h1 h2
    subst h1
    unfold lessB; rw [if_pos rfl]
    exact lessB_at i l r x y h2 (by simpa using hx) (by simpa using hy) hne
  | 0, [], _, x, y, _, hx, _, _ => by simp at hx
  | 0, _ :: _, [], x, y, _, _, hy, _ => by simp at hy
  | i + 1, [], _, x, y, _, hx, _, _ => by simp at hx
  | i + 1, _ :: _, [], x, y, _, _, hy, _ => by simp at hy
theorem lessB_self : ∀ a, lessB a a = false
  | [] => rfl
  | x :: l => by unfold lessB; rw [if_pos rfl]; exact lessB_self l
abbrev It := Dig × List UInt8
def putGo (key : Dig) (val : List UInt8) : Bool → List It → List It
  | d, [] => if d = true then [] else [(key, val)]
  | d, x :: l => ((if (!d && !lessB x.1.val key.val) = true then [(key, val)] else []) ++ if x.1 ≠ key then [x] else []) ++ putGo key val (d || !lessB x.1.val key.val) l
def putI (l : List It) (key : Dig) (val : List UInt8) : List It := putGo key val false l
def dropI (l : List It) (key : Dig) : List It := l.filter fun x => x.1 ≠ key
def lookI (l : List It) (key : Dig) : Option (List UInt8) := match l with
  | [] => none
  | x :: l => if x.1 = key then some x.2 else lookI l key
def findI (key : Dig) : List It → Nat → Int
  | [], _ => -1
  | x :: l, i => if x.1 = key then (i : Int) else findI key l (i + 1)
theorem findI_look (key : Dig) : ∀ (l : List It) (i : Nat), decide (0 ≤ findI key l i) = (lookI l key).isSome
  | [], i => rfl
  | x :: l, i => by
    unfold findI lookI
    by_cases h : x.1 = key
    · rw [if_pos h, if_pos h]; exact decide_eq_true (by omega)
    · rw [if_neg h, if_neg h]; exact findI_look key l (i + 1)
theorem look_app (a b : List It) (k : Dig) : lookI (a ++ b) k = (lookI a k).or (lookI b k) := by
  induction a with
  | nil => rfl
  | cons x a ih =>
    show (if x.1 = k then some x.2 else lookI (a ++ b) k) = Option.or (if x.1 = k then some x.2 else lookI a k) (lookI b k)
    by_cases h : x.1 = k
    · rw [if_pos h, if_pos h]; rfl
    · rw [if_neg h, if_neg h]; exact ih
theorem look_putGo (key : Dig) (val : List UInt8) (k : Dig) : ∀ (l : List It) (d : Bool), lookI (putGo key val d l) k = if k = key then (if d = true then none else some val) else lookI l k
  | [], d => by
    unfold putGo
    by_cases hd : d = true
    · rw [if_pos hd]
      by_cases h : k = key
      · rw [if_pos h, if_pos hd]; rfl
      · rw [if_neg h]
    · rw [if_neg hd]
      show (if key = k then some val else lookI [] k) = _
      by_cases h : k = key
      · rw [if_pos h, if_pos h.symm, if_neg hd]
      · rw [if_neg h, if_neg (fun e => h e.symm)]
  | x :: l, d => by
    unfold putGo
    rw [look_app, look_app, look_putGo key val k l]
    by_cases h : k = key
    · subst h
      have e2 : lookI (if x.1 ≠ k then [x] else []) k = none := by
        by_cases e : x.1 = k
        · rw [if_neg (fun h => h e)]; rfl
        · rw [if_pos e]; show (if x.1 = k then _ else _) = _; rw [if_neg e]; rfl
      rw [e2, if_pos rfl, if_pos rfl]
      cases d <;> cases lessB x.1.val k.val <;> simp [lookI]
    · have e1 : lookI (if (!d && !lessB x.1.val key.val) = true then [(key, val)] else []) k = none := by
        split
        · show (if key = k then _ else _) = _; rw [if_neg (fun e => h e.symm)]; rfl
        · rfl
      rw [e1, if_neg h, if_neg h]
      show (Option.or none (lookI (if x.1 ≠ key then [x] else []) k)).or (lookI l k) = if x.1 = k then some x.2 else lookI l k
      by_cases e : x.1 = key
      · rw [if_neg (fun h => h e), if_neg (fun e2 => h (by rw [← e2, e]))]; rfl
      · rw [if_pos e]
        show (Option.or none (if x.1 = k then some x.2 else lookI [] k)).or _ = _
        by_cases e3 : x.1 = k
        · rw [if_pos e3, if_pos e3]; rfl
        · rw [if_neg e3, if_neg e3]; rfl
theorem look_putI (l : List It) (key k : Dig) (val : List UInt8) : lookI (putI l key val) k = if k = key then some val else lookI l k := by
  unfold putI; rw [look_putGo]; rfl
theorem look_dropI (key k : Dig) : ∀ l : List It, lookI (dropI l key) k = if k = key then none else lookI l k
  | [] => by
    show none = if k = key then none else none
    split <;> rfl
  | x :: l => by
    have ih := look_dropI key k l
    unfold dropI at ih ⊢
    rw [List.filter_cons]
    by_cases e : x.1 = key
    · rw [if_neg (by simp [e]), ih]
      by_cases h : k = key
      · rw [if_pos h, if_pos h]
      · rw [if_neg h, if_neg h]
        conv => rhs; unfold lookI
        rw [if_neg (fun e2 => h (by rw [← e2, e]))]
    · rw [if_pos (by simp [e])]
      conv => lhs; unfold lookI
      conv => rhs; rhs; unfold lookI
      rw [ih]
      by_cases e3 : x.1 = k
      · rw [if_pos e3, if_neg (fun h => e (by rw [e3, h])), if_pos e3]
      · rw [if_neg e3, if_neg e3]
theorem putGo_mem (key : Dig) (val : List UInt8) : ∀ (l : List It) (d : Bool) (y : It), y ∈ putGo key val d l → y = (key, val) ∨ y ∈ l
  | [], d, y, h => by
    unfold putGo at h; split at h
    · cases h
    · exact .inl (List.mem_singleton.1 h)
  | x :: l, d, y, h => by
    unfold putGo at h
    rcases List.mem_append.1 h with h | h
    · rcases List.mem_append.1 h with h | h
      · split at h
        · exact .inl (List.mem_singleton.1 h)
        · cases h
      · split at h
        · exact .inr (by rw [List.mem_singleton.1 h]; exact List.mem_cons_self ..)
        · cases h
    · exact (putGo_mem key val l _ y h).imp id fun h => List.mem_cons_of_mem _ h
theorem putGo_len (key : Dig) (val : List UInt8) : ∀ (l : List It) (d : Bool), (putGo key val d l).length ≤ l.length + (if d = true then 0 else 1)
  | [], d => by unfold putGo; split <;> simp
  | x :: l, d => by
    have ih := putGo_len key val l (d || !lessB x.1.val key.val)
    unfold putGo
    rw [List.length_append, List.length_append, List.length_cons]
    have h2 : (if x.1 ≠ key then [x] else []).length ≤ 1 := by split <;> simp
    cases hd : d <;> cases hb : lessB x.1.val key.val <;> rw [hd, hb] at ih <;> simp only [Bool.not_true, Bool.not_false, Bool.and_true, Bool.and_false, Bool.true_or, Bool.false_or, if_true, Bool.false_eq_true, if_false, List.length_nil, List.length_singleton] at ih ⊢ <;> omega
theorem putI_len (l : List It) (key : Dig) (val : List UInt8) : (putI l key val).length ≤ l.length + 1 := putGo_len key val l false
theorem dropI_len (l : List It) (key : Dig) : (dropI l key).length ≤ l.length := List.length_filter_le _ _
theorem look_mem : ∀ {l : List It} {k : Dig} {v : List UInt8}, lookI l k = some v → (k, v) ∈ l
  | [], k, v, h => by cases h
  | x :: l, k, v, h => by
    unfold lookI at h
    by_cases e : x.1 = k
    · rw [if_pos e] at h; injection h with h
      have : x = (k, v) := Prod.ext e h
      rw [this]; exact List.mem_cons_self ..
    · rw [if_neg e] at h; exact List.mem_cons_of_mem _ (look_mem h)
/-! ### Rows -/
theorem Sl.oneI {w : World} {v : Value} {n sz : Nat} {cs : List Value} (h : Sl w v n sz cs) : one v = true := by obtain ⟨_, _, rfl, _⟩ := h.form; rfl
abbrev Iv := Dig × Value
def itR (x : Iv) : List Value := dgR x.1 ++ [x.2]
theorem itR_len (x : Iv) : (itR x).length = 33 := by unfold itR; rw [List.length_append, dgR_len]; rfl
def Prs (w : World) : List Iv → List It → Prop
  | [], [] => True
  | x :: xs, y :: ys => x.1 = y.1 ∧ By w x.2 y.2 ∧ Prs w xs ys
  | _, _ => False
theorem Prs.len {w : World} : ∀ {xs : List Iv} {ys : List It}, Prs w xs ys → xs.length = ys.length
  | [], [], _ => rfl
  | _ :: _, _ :: _, h => by rw [List.length_cons, List.length_cons, Prs.len h.2.2]
  | [], _ :: _, h => h.elim
  | _ :: _, [], h => h.elim
theorem Prs.k {w w' : World} (hk : Keep All w w') : ∀ {xs : List Iv} {ys : List It}, Prs w xs ys → Prs w' xs ys
  | [], [], _ => trivial
  | _ :: _, _ :: _, h => ⟨h.1, Sl.k h.2.1 hk, Prs.k hk h.2.2⟩
  | [], _ :: _, h => h.elim
  | _ :: _, [], h => h.elim
theorem Prs.snoc {w : World} {k : Dig} {v : Value} {b : List UInt8} (hb : By w v b) : ∀ {xs : List Iv} {ys : List It}, Prs w xs ys → Prs w (xs ++ [(k, v)]) (ys ++ [(k, b)])
  | [], [], _ => ⟨rfl, hb, trivial⟩
  | _ :: _, _ :: _, h => ⟨h.1, h.2.1, Prs.snoc hb h.2.2⟩
  | [], _ :: _, h => h.elim
  | _ :: _, [], h => h.elim
theorem Prs.get {w : World} : ∀ {xs : List Iv} {ys : List It} {i : Nat} {y : It}, Prs w xs ys → ys[i]? = some y → ∃ vv, xs[i]? = some (y.1, vv) ∧ By w vv y.2
  | [], [], i, y, _, h => by cases h
  | x :: xs, z :: ys, 0, y, h, hy => by
    simp at hy; subst hy
    exact ⟨x.2, by rw [List.getElem?_cons_zero, ← h.1], h.2.1⟩
  | x :: xs, z :: ys, i + 1, y, h, hy => by
    rw [List.getElem?_cons_succ] at hy ⊢
    exact Prs.get h.2.2 hy
  | [], _ :: _, _, _, h, _ => h.elim
  | _ :: _, [], _, _, h, _ => h.elim
theorem itR_one {x : Iv} (h : one x.2 = true) : (itR x).all one = true := by
  unfold itR; rw [List.all_append]; simp only [List.all_cons, List.all_nil, Bool.and_true, Bool.and_eq_true]
  exact ⟨all_c8 _, h⟩
def ItIn (w : World) (v : Value) (l : List It) : Prop := ∃ its, Sl w v l.length 33 (rows itR its) ∧ Prs w its l
theorem ItIn.k {w w' : World} {v : Value} {l : List It} (h : ItIn w v l) (hk : Keep All w w') : ItIn w' v l := by
  obtain ⟨its, h1, h2⟩ := h; exact ⟨its, Sl.k h1 hk, h2.k hk⟩
theorem ItIn.form {w : World} {v : Value} {l : List It} (h : ItIn w v l) : ∃ a c, v = .slice a l.length c ∧ l.length ≤ c ∧ c ≤ maxLen := by
  obtain ⟨its, h1, _⟩ := h; exact h1.form
theorem ItIn.at {w : World} {v : Value} {l : List It} (h : ItIn w v l) {k : Nat} {y : It} (hy : l[k]? = some y) : ∃ b off c vv, v = .slice (some ⟨b, off, none⟩) l.length c ∧ By w vv y.2 ∧
    ∀ (j : Nat) (u : Value), (itR (y.1, vv))[j]? = some u → w.cell? ((⟨b, off + k * 33, none⟩ : Addr).add j) = some u := by
  obtain ⟨its, h1, h2⟩ := h
  have hl := h2.len
  obtain ⟨vv, hx, hb⟩ := h2.get hy
  obtain ⟨hkl, hxe⟩ := List.getElem?_eq_some_iff.1 hx
  obtain ⟨a, c, rfl, _⟩ := h1.form
  rw [← hl] at h1
  obtain ⟨b, off, rfl, hc⟩ := rows_at' itR_len h1 hkl (by decide)
  rw [hxe] at hc
  exact ⟨b, off, c, vv, rfl, hb, hc⟩
end Go.Proofs.YtpiidddccmohdabDoor.B
