/-
  How many keys; sporranref03.Same.
-/
import Derived.Test.YtpiidddccmohdabDoorTreK
import Derived.Test.YtpiidddccmohdabDoorTreL3
namespace Go.Proofs.YtpiidddccmohdabDoor.B
open Go
set_option linter.unusedVariables false
set_option maxHeartbeats 2000000
set_option maxRecDepth 100000
attribute [local irreducible] W OpsW OpsQ retP
theorem ti_dg : tinfo Tryd.prog 24 = some (some (.agg (List.replicate 32 (c8 0)).toArray), 32, 32) := by kernel_rfl
theorem len_le_of {α : Type} [DecidableEq α] : ∀ {a b : List α}, a.Nodup → (∀ x ∈ a, x ∈ b) → a.length ≤ b.length
  | [], b, _, _ => Nat.zero_le _
  | x :: a, b, hn, hs => by
    obtain ⟨h1, h2⟩ := List.nodup_cons.1 hn
    have hx := hs x (List.mem_cons_self ..)
    have := len_le_of (b := b.erase x) h2 fun y hy => (List.mem_erase_of_ne (fun e => h1 (by rw [← e]; exact hy))).2 (hs y (List.mem_cons_of_mem _ hy))
    rw [List.length_erase_of_mem hx] at this
    have hp := List.length_pos_of_mem hx
    rw [List.length_cons]; omega
theorem keysT_mem : ∀ (T : Tre) (L : Nat) (a x : List UInt8), T.wf L → x ∈ keysT T a → ∃ r v, x = a ++ r ∧ r.length = L ∧ nib16 r ∧ T.get r = some v := by
  intro T
  induction T with
  | no => intro L a x _ h; cases h
  | leaf b v =>
    intro L a x hw h
    have h : x ∈ [a ++ b] := h
    exact ⟨b, v, List.mem_singleton.1 h, hw.1, hw.2, if_pos rfl⟩
  | branch b k ih =>
    intro L a x hw h
    have h : x ∈ (List.range 16).flatMap fun i => keysT (k i) ((a ++ b) ++ [i.toUInt8]) := h
    obtain ⟨i, hi, hx⟩ := List.mem_flatMap.1 h
    have hi16 : i < 16 := List.mem_range.1 hi
    obtain ⟨r, v, rfl, hr, hn, hg⟩ := ih i _ _ x (hw.2.2.1 i) hx
    have hlt := hw.1
    refine ⟨b ++ i.toUInt8 :: r, v, by simp, by rw [List.length_append, List.length_cons]; omega, fun y hy => ?_, by rw [Tre.get_br, u8_of hi16]; exact hg⟩
    rcases List.mem_append.1 hy with h | h
    · exact hw.2.1 y h
    · rcases List.mem_cons.1 h with rfl | h
      · rw [u8_of hi16]; exact hi16
      · exact hn y h
theorem keysT_has : ∀ (T : Tre) (a r v : List UInt8), (∀ x ∈ r, x.toNat < 16) → T.get r = some v → a ++ r ∈ keysT T a := by
  intro T
  induction T with
  | no => intro a r v _ h; cases h
  | leaf b u =>
    intro a r v _ h
    have h : (if b = r then some u else none) = some v := h
    by_cases e : b = r
    · subst e; exact List.mem_singleton.2 rfl
    · rw [if_neg e] at h; cases h
  | branch b k ih =>
    intro a r v hn h
    obtain ⟨y, r', rfl, hg⟩ := Tre.get_some h
    have hy := hn y (List.mem_append.2 (.inr (List.mem_cons_self ..)))
    show _ ∈ (List.range 16).flatMap fun i => keysT (k i) ((a ++ b) ++ [i.toUInt8])
    refine List.mem_flatMap.2 ⟨y.toNat, List.mem_range.2 hy, ?_⟩
    have := ih y.toNat ((a ++ b) ++ [y]) r' v (fun x hx => hn x (List.mem_append.2 (.inr (List.mem_cons_of_mem _ hx)))) hg
    rw [show (y.toNat).toUInt8 = y from UInt8.toNat_inj.1 (u8_of hy)]
    simpa using this
theorem keysT_pre : ∀ (T : Tre) (a x : List UInt8), x ∈ keysT T a → a <+: x := by
  intro T
  induction T with
  | no => intro a x h; cases h
  | leaf b v => intro a x h; rw [List.mem_singleton.1 (show x ∈ [a ++ b] from h)]; exact List.prefix_append _ _
  | branch b k ih =>
    intro a x h
    obtain ⟨i, _, hx⟩ := List.mem_flatMap.1 (show x ∈ (List.range 16).flatMap fun i => keysT (k i) ((a ++ b) ++ [i.toUInt8]) from h)
    exact (List.prefix_append a (b ++ [i.toUInt8])).trans (by have := ih i _ x hx; simpa using this)
theorem flat_nodup {α β : Type} {f : α → List β} : ∀ {l : List α}, l.Nodup → (∀ x ∈ l, (f x).Nodup) → (∀ x ∈ l, ∀ y ∈ l, x ≠ y → ∀ z, z ∈ f x → z ∉ f y) → (l.flatMap f).Nodup
  | [], _, _, _ => List.nodup_nil
  | x :: l, hn, h1, h2 => by
    obtain ⟨a1, a2⟩ := List.nodup_cons.1 hn
    rw [List.flatMap_cons]
    refine List.nodup_append.2 ⟨h1 x (List.mem_cons_self ..), flat_nodup a2 (fun y hy => h1 y (List.mem_cons_of_mem _ hy)) (fun y hy z hz => h2 y (List.mem_cons_of_mem _ hy) z (List.mem_cons_of_mem _ hz)), fun z hz w hw e => ?_⟩
    subst e
    obtain ⟨y, hy, hzy⟩ := List.mem_flatMap.1 hw
    exact h2 x (List.mem_cons_self ..) y (List.mem_cons_of_mem _ hy) (fun e => a1 (by rw [e]; exact hy)) z hz hzy
theorem keysT_nodup : ∀ (T : Tre) (a : List UInt8), (keysT T a).Nodup := by
  intro T
  induction T with
  | no => intro a; exact List.nodup_nil
  | leaf b v => intro a; exact List.nodup_cons.2 ⟨(fun h => by cases h), List.nodup_nil⟩
  | branch b k ih =>
    intro a
    show ((List.range 16).flatMap fun i => keysT (k i) ((a ++ b) ++ [i.toUInt8])).Nodup
    refine flat_nodup List.nodup_range (fun i _ => ih i _) fun i hi j hj hij z hz hz2 => hij ?_
    obtain ⟨s, hs⟩ := keysT_pre _ _ _ hz
    obtain ⟨t, ht⟩ := keysT_pre _ _ _ hz2
    have e := hs.trans ht.symm
    simp only [List.append_assoc] at e
    have e := List.append_cancel_left (List.append_cancel_left e)
    injection e with e
    have := congrArg UInt8.toNat e
    rwa [u8_of (List.mem_range.1 hi), u8_of (List.mem_range.1 hj)] at this
theorem lookI_some : ∀ {l : List It} {k : Dig}, k ∈ l.map (·.1) → ∃ v, lookI l k = some v
  | x :: l, k, h => by
    unfold lookI
    by_cases e : x.1 = k
    · exact ⟨_, if_pos e⟩
    · rw [if_neg e]
      rcases List.mem_cons.1 (show k ∈ x.1 :: l.map (·.1) from h) with h | h
      · exact absurd h.symm e
      · exact lookI_some h
  | [], k, h => by cases h
/-- No more keys than items. -/
theorem Agree.keys_le {T : Tre} {l : List It} (h : Agree T l) (hw : T.wf 64) : (keysT T []).length ≤ l.length := by
  have := len_le_of (b := l.map fun x => nibs x.1.val) (keysT_nodup T []) fun x hx => by
    obtain ⟨r, v, hxr, hr, hn, hg⟩ := keysT_mem T 64 [] x hw hx
    rw [List.nil_append] at hxr
    subst hxr
    obtain ⟨d, hd, rfl⟩ := nibs_surj 32 x (by omega) hn
    have h1 := h ⟨d, hd⟩
    rw [hg] at h1
    exact List.mem_map.2 ⟨_, look_mem h1.symm, rfl⟩
  rwa [List.length_map] at this
/-- As many keys as items, where no key comes twice. -/
theorem Agree.keys_eq {T : Tre} {l : List It} (h : Agree T l) (hw : T.wf 64) (hn : (l.map (·.1)).Nodup) : (keysT T []).length = l.length := by
  refine Nat.le_antisymm (h.keys_le hw) ?_
  have hn2 : (l.map fun x => nibs x.1.val).Nodup := by
    have e : (l.map fun x => nibs x.1.val) = (l.map (·.1)).map fun d => nibs d.val := by rw [List.map_map]; rfl
    rw [e]
    clear e h
    generalize l.map (·.1) = ks at hn
    induction ks with
    | nil => exact List.nodup_nil
    | cons d ks ih =>
      obtain ⟨h1, h2⟩ := List.nodup_cons.1 hn
      rw [List.map_cons]
      refine List.nodup_cons.2 ⟨fun hm => ?_, ih h2⟩
      obtain ⟨d2, hd2, e⟩ := List.mem_map.1 hm
      exact h1 (by rw [← Subtype.ext (nibs_inj e)]; exact hd2)
  have := len_le_of (b := keysT T []) hn2 fun x hx => by
    obtain ⟨y, hy, rfl⟩ := List.mem_map.1 hx
    obtain ⟨v, hv⟩ := lookI_some (List.mem_map.2 ⟨y, hy, rfl⟩)
    have := keysT_has T [] (nibs y.1.val) v (nibs_16 _) (by rw [h y.1, hv])
    rwa [List.nil_append] at this
  rwa [List.length_map] at this
end Go.Proofs.YtpiidddccmohdabDoor.B
