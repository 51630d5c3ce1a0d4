/-
  Quotas, names, as calls go on (plain).
-/
import Derived.Test.YtkmciohghhffnaaVLaw1
namespace Go.Proofs.Ytkmciohghhffnaa.B
open Go
set_option linter.unusedVariables false
set_option maxHeartbeats 2000000
set_option maxRecDepth 100000
attribute [local irreducible] W OpsW OpsQ retP
/-- No volume has more blocks than its quota. -/
def BlQ (l : AL) : Prop := ∀ x ∈ l, (x.2.bl.length : Int) ≤ x.2.q
theorem BlQ.nil : BlQ [] := fun x hx => by cases hx
theorem setP_len0 {α β : Type} [DecidableEq α] {l : List (α × β)} {k : α} (v : β) (h : lookP l k ≠ none) : (setP l k v).length = l.length := by
  unfold setP
  rw [if_pos (Option.isSome_iff_ne_none.2 h), List.length_map]
theorem mem_putA {l : AL} {nm : List UInt8} {bl : List (Int × Bk)} {x : List UInt8 × VA} (h : x ∈ putA l nm bl) : x ∈ l ∨ ∃ v, (nm, v) ∈ l ∧ x = (nm, { v with bl := bl }) := by
  obtain ⟨y, hy, rfl⟩ := List.mem_map.1 h
  by_cases hn : y.1 = nm
  · rw [if_pos hn]; exact .inr ⟨y.2, by rw [← hn]; exact hy, by rw [hn]⟩
  · rw [if_neg hn]; exact .inl hy
theorem nd_look {α β : Type} [DecidableEq α] {l : List (α × β)} {k : α} {v v' : β} (h : (l.map (·.1)).Nodup) (h1 : (k, v) ∈ l) (h2 : lookP l k = some v') : v = v' := by
  induction l with
  | nil => cases h1
  | cons x l ih =>
    rw [List.map_cons, List.nodup_cons] at h
    unfold lookP at h2
    rcases List.mem_cons.1 h1 with h1 | h1
    · rw [← h1, if_pos rfl] at h2; exact Option.some.inj h2
    · have hne : x.1 ≠ k := fun e => h.1 (by rw [e]; exact List.mem_map.2 ⟨_, h1, rfl⟩)
      rw [if_neg hne] at h2
      exact ih h.2 h1 h2
theorem BlQ.step {l : AL} (h : BlQ l) (hN : (l.map (·.1)).Nodup) (c : CallV) : BlQ (stepD l c) := by
  unfold stepD
  split
  · rcases setR_cases l c.name c.number (decide (c.what = 0)) c.finger with hh | ⟨v, hv, _, _, _, _, ⟨_, e⟩ | ⟨_, hq, e⟩⟩
    · rw [hh.1]; exact h
    · rw [e]; intro x hx
      rcases mem_putA hx with hx | ⟨v', hv', rfl⟩
      · exact h x hx
      · obtain rfl := nd_look hN hv' hv
        have h1 := h _ hv'
        have h2 : (delP v'.bl c.number).length ≤ v'.bl.length := List.length_filter_le _ _
        show ((delP v'.bl c.number).length : Int) ≤ v'.q
        have h1 : (v'.bl.length : Int) ≤ v'.q := h1
        omega
    · rw [e]; intro x hx
      rcases mem_putA hx with hx | ⟨v', hv', rfl⟩
      · exact h x hx
      · obtain rfl := nd_look hN hv' hv
        have h1 : (v'.bl.length : Int) ≤ v'.q := h _ hv'
        show ((setP v'.bl c.number c.finger).length : Int) ≤ v'.q
        by_cases hn : lookP v'.bl c.number = none
        · have h2 := setP_len v'.bl c.number c.finger
          have h3 : ¬ v'.q ≤ v'.bl.length := fun hc => hq ⟨hn, hc⟩
          omega
        · rw [setP_len0 _ hn]; exact h1
  · split
    · unfold creL
      by_cases he : creE l c.name c.quota = 0
      · rw [if_pos he]; intro x hx
        rcases List.mem_append.1 hx with hx | hx
        · exact h x hx
        · rw [List.mem_singleton.1 hx]; exact (creE_ok he).1.2.1
      · rw [if_neg he]; exact h
    · split
      · by_cases he : copE l c.name c.other c.quota = 0
        · obtain ⟨_, _, v, hv, hq⟩ := copE_ok he
          rw [copL_ok he hv]; intro x hx
          rcases List.mem_append.1 hx with hx | hx
          · exact h x hx
          · rw [List.mem_singleton.1 hx]; exact hq
        · rw [copL_err he]; exact h
      · exact fun x hx => h x (List.mem_filter.1 hx).1
/-- Names are names, quotas are quotas. -/
def NQ (l : AL) : Prop := ∀ x ∈ l, mayQ x.1 x.2.q
theorem NQ.nil : NQ [] := fun x hx => by cases hx
theorem NQ.step {l : AL} (h : NQ l) (c : CallV) : NQ (stepD l c) := by
  unfold stepD
  split
  · rcases setR_cases l c.name c.number (decide (c.what = 0)) c.finger with hh | ⟨v, hv, _, _, _, _, ⟨_, e⟩ | ⟨_, hq, e⟩⟩
    · rw [hh.1]; exact h
    · rw [e]; intro x hx
      rcases mem_putA hx with hx | ⟨v', hv', rfl⟩
      · exact h x hx
      · exact h (c.name, v') hv'
    · rw [e]; intro x hx
      rcases mem_putA hx with hx | ⟨v', hv', rfl⟩
      · exact h x hx
      · exact h (c.name, v') hv'
  · split
    · unfold creL
      by_cases he : creE l c.name c.quota = 0
      · rw [if_pos he]; intro x hx
        rcases List.mem_append.1 hx with hx | hx
        · exact h x hx
        · rw [List.mem_singleton.1 hx]; exact (creE_ok he).1
      · rw [if_neg he]; exact h
    · split
      · by_cases he : copE l c.name c.other c.quota = 0
        · obtain ⟨hm, _, v, hv, hq⟩ := copE_ok he
          rw [copL_ok he hv]; intro x hx
          rcases List.mem_append.1 hx with hx | hx
          · exact h x hx
          · rw [List.mem_singleton.1 hx]; exact hm
        · rw [copL_err he]; exact h
      · exact fun x hx => h x (List.mem_filter.1 hx).1
theorem nq_take {os : List CallV} : ∀ (k : Nat), NQ (runD [] (os.take k))
  | 0 => by rw [List.take_zero]; exact NQ.nil
  | k + 1 => by
    by_cases hk : k < os.length
    · rw [List.take_succ_eq_append_getElem hk, runD_snoc]; exact (nq_take k).step _
    · rw [show os.take (k + 1) = os.take k by rw [List.take_of_length_le (by omega), List.take_of_length_le (by omega)]]; exact nq_take k
end Go.Proofs.Ytkmciohghhffnaa.B
