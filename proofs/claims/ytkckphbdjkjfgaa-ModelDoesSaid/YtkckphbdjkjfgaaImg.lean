/-
  model: Images.
-/
import Derived.Test.YtkckphbdjkjfgaaModT
import Derived.Test.YtkckphbdjkjfgaaSrtI
import Derived.Test.YtkckphbdjkjfgaaGate
namespace Go.Proofs.Ytkckphbdjkjfgaa.B
open Go
set_option linter.unusedVariables false
set_option maxHeartbeats 2000000
set_option maxRecDepth 100000
attribute [local irreducible] W OpsW OpsQ retP
/-- A volume's image. -/
structure Img where
  nm : List UInt8
  q : Int
  fr : Bool
  bl : List (Int × Bk)
def nbR (p : Int × Bk) : List Value := .int .i64 p.1 :: blkR p.2
theorem nbR_len (p : Int × Bk) : (nbR p).length = 49 := by unfold nbR; rw [List.length_cons, blkR_len]
theorem nbR_one (p : Int × Bk) : (nbR p).all one = true := by unfold nbR; rw [List.all_cons, blkR_one]; rfl
def imR (y : Img × Value) : List Value := [strA y.1.nm, .int .i64 y.1.q, .bool y.1.fr, y.2]
theorem imR_len (y : Img × Value) : (imR y).length = 4 := rfl
theorem ti_nb : tinfo Try.prog 76 = some (some (.agg (nbR (0, Bk.zero)).toArray), 49, 56) := by kernel_rfl
theorem ti_im : tinfo Try.prog 41 = some (some (.agg #[.string ⟨#[]⟩, .int .i64 0, .bool false, .slice none 0 0]), 4, 56) := by kernel_rfl
def blkS (bl : List (Int × Bk)) : List (Int × Bk) := (sortI (bl.map (·.1))).map fun n => (n, (lookP bl n).getD Bk.zero)
theorem blkS_len (bl : List (Int × Bk)) : (blkS bl).length = bl.length := by unfold blkS sortI; rw [List.length_map, List.length_mergeSort, List.length_map]
def imgOf (l : AL) (nm : List UInt8) : Img := match lookP l nm with
  | some v => ⟨nm, v.q, v.fr, blkS v.bl⟩
  | none => ⟨nm, 0, false, []⟩
theorem imgOf_some {l : AL} {nm : List UInt8} {v : VA} (h : lookP l nm = some v) : imgOf l nm = ⟨nm, v.q, v.fr, blkS v.bl⟩ := by unfold imgOf; rw [h]
def namesD (l : AL) : List (List UInt8) := sortS (l.map (·.1))
theorem namesD_len (l : AL) : (namesD l).length = l.length := by unfold namesD sortS; rw [List.length_mergeSort, List.length_map]
/-- All images. -/
def imgD (l : AL) : List Img := (namesD l).map (imgOf l)
structure ImgsO (w : World) (v : Value) (L : List Img) (ys : List (Img × Value)) : Prop where
  e : ys.map (·.1) = L
  o : Own w 41 4 v L.length (rows imR ys)
  b : ∀ y ∈ ys, Own w 76 49 y.2 y.1.bl.length (rows nbR y.1.bl)
theorem ImgsO.k {w w' : World} {v : Value} {L : List Img} {ys : List (Img × Value)} (h : ImgsO w v L ys) (hk : Keep All w w') : ImgsO w' v L ys :=
  ⟨h.e, h.o.keep hk (fun _ _ => trivial), fun y hy => (h.b y hy).keep hk (fun _ _ => trivial)⟩
theorem own_ne {w : World} {e e' sz sz' n n' : Nat} {v v' : Value} {xs xs' : List Value} (h : Own w e sz v n xs) (h' : Own w e' sz' v' n' xs') (hne : e ≠ e') : InB (fun z => some z ≠ v.ownBlock) v' := by
  intro z hz hzv
  rcases h.2 with ⟨rfl, _⟩ | ⟨g, cap, cur, rfl, _, hg, _⟩
  · cases hzv
  rcases h'.2 with ⟨rfl, _⟩ | ⟨g', cap', cur', rfl, _, hg', _⟩
  · cases hz
  have e1 : g' = z := by simpa [Value.ownBlock] using hz
  have e2 : z = g := by simpa [Value.ownBlock] using hzv
  subst e1; subst e2
  rw [hg] at hg'
  have := Option.some.inj hg'
  injection this with _ h3
  exact hne h3
theorem own_neB {w : World} {b e sz n : Nat} {t : TypeId} {cs : List Value} {v : Value} {xs : List Value} (h : Blk w b cs t) (h' : Own w e sz v n xs) (hne : t ≠ e) : InB (fun z => z ≠ b) v := by
  intro z hz e1
  rcases h'.2 with ⟨rfl, _⟩ | ⟨g', cap', cur', rfl, _, hg', _⟩
  · cases hz
  have e2 : g' = z := by simpa [Value.ownBlock] using hz
  subst e2; subst e1
  have h1 : w.heap[g']? = some (.cells cs.toArray t) := h
  rw [h1] at hg'
  have := Option.some.inj hg'
  injection this with _ h3
  exact hne h3
theorem own_neM {α : Type} {kv : α → Value} {w : World} {b e sz n : Nat} {l : List (α × Value)} {v : Value} {xs : List Value} (h : MapG kv w b l) (h' : Own w e sz v n xs) : InB (fun z => z ≠ b) v := by
  intro z hz e1
  rcases h'.2 with ⟨rfl, _⟩ | ⟨g', cap', cur', rfl, _, hg', _⟩
  · cases hz
  have e2 : g' = z := by simpa [Value.ownBlock] using hz
  subst e2; subst e1
  obtain ⟨es, cl, h1, _⟩ := h
  rw [h1] at hg'; cases hg'
theorem own_neMod {w : World} {mb bm e sz n : Nat} {l : ModL} {v : Value} {xs : List Value} (h : ModW w mb bm l) (h' : Own w e sz v n xs) : InB (fun z => ¬ ModB bm l z) v := by
  intro z hz hB
  rcases hB with e1 | ⟨x, hx, e1⟩
  · exact own_neM h.vs h' z hz e1
  · exact own_neM (h.v x hx).2 h' z hz e1
theorem ImgsO.kM {w w' : World} {mb bm : Nat} {l : ModL} {v : Value} {L : List Img} {ys : List (Img × Value)} (h : ImgsO w v L ys) (hM : ModW w mb bm l) (hk : Keep (fun z => ¬ ModB bm l z) w w') : ImgsO w' v L ys :=
  ⟨h.e, h.o.keep hk (own_neMod hM h.o), fun y hy => (h.b y hy).keep hk (own_neMod hM (h.b y hy))⟩
def BlkN (n : Nat) (l : AL) : Prop := ∀ x ∈ l, x.2.bl.length ≤ n ∧ ∀ p ∈ x.2.bl, 0 ≤ p.1 ∧ p.1 < 1048576
theorem BlkN.up {n : Nat} {l : AL} (h : BlkN n l) : BlkN (n + 1) l := fun x hx => ⟨Nat.le_succ_of_le (h x hx).1, (h x hx).2⟩
theorem BlkN.put {n : Nat} {l : AL} (h : BlkN n l) (nm : List UInt8) {bl : List (Int × Bk)} (hb : bl.length ≤ n ∧ ∀ p ∈ bl, 0 ≤ p.1 ∧ p.1 < 1048576) : BlkN n (putA l nm bl) := by
  intro x hx
  obtain ⟨y, hy, rfl⟩ := List.mem_map.1 hx
  by_cases hn : y.1 = nm
  · rw [if_pos hn]; exact hb
  · rw [if_neg hn]; exact h y hy
theorem setP_mem {α β : Type} [DecidableEq α] {l : List (α × β)} {k : α} {v : β} {x : α × β} (h : x ∈ setP l k v) : x = (k, v) ∨ x ∈ l := by
  unfold setP at h
  split at h
  · obtain ⟨y, hy, rfl⟩ := List.mem_map.1 h
    by_cases hk : y.1 = k
    · rw [if_pos hk]; exact .inl rfl
    · rw [if_neg hk]; exact .inr hy
  · rcases List.mem_append.1 h with h | h
    · exact .inr h
    · exact .inl (List.mem_singleton.1 h)
theorem setP_len {α β : Type} [DecidableEq α] (l : List (α × β)) (k : α) (v : β) : (setP l k v).length ≤ l.length + 1 := by
  unfold setP
  split
  · rw [List.length_map]; omega
  · rw [List.length_append]; exact Nat.le_refl _
theorem blk_step {n : Nat} {l : AL} (h : BlkN n l) (o : OpV) : BlkN (n + 1) (doD l o).2 := by
  have add : ∀ (nm : List UInt8) (v : VA), (v.bl.length ≤ n ∧ ∀ p ∈ v.bl, 0 ≤ p.1 ∧ p.1 < 1048576) → BlkN (n + 1) (l ++ [(nm, v)]) := fun nm v hv x hx => by
    rcases List.mem_append.1 hx with hx | hx
    · exact h.up x hx
    · rw [List.mem_singleton.1 hx]; exact ⟨Nat.le_succ_of_le hv.1, hv.2⟩
  unfold doD
  by_cases h1 : o.kind = 1
  · rw [if_pos h1]
    show BlkN (n + 1) (if _ then _ else _)
    split
    · exact add _ _ ⟨Nat.zero_le _, fun p hp => by cases hp⟩
    · exact h.up
  rw [if_neg h1]
  by_cases h2 : o.kind = 2
  · rw [if_pos h2]
    split
    · exact fun x hx => h.up x (List.mem_filter.1 hx).1
    · exact h.up
  rw [if_neg h2]
  by_cases h3 : o.kind = 3 ∨ o.kind = 4 ∨ o.kind = 5
  · rw [if_pos h3]
    by_cases hf : findD l o = 0
    · obtain ⟨v, hv, h0, h9, _⟩ := findD_ok hf
      have hvm := h _ (lookP_mem hv)
      rw [blockD_ok hf hv]
      split
      · exact h.up
      · split
        · exact h.up.put _ ⟨Nat.le_succ_of_le (Nat.le_trans (List.length_filter_le _ _) hvm.1), fun p hp => hvm.2 p (List.mem_filter.1 hp).1⟩
        · split
          · exact h.up
          · refine h.up.put _ ⟨Nat.le_trans (setP_len _ _ _) (Nat.succ_le_succ hvm.1), fun p hp => ?_⟩
            rcases setP_mem hp with rfl | hp
            · exact ⟨h0, h9⟩
            · exact hvm.2 p hp
    · rw [blockD_err hf]; exact h.up
  rw [if_neg h3]
  by_cases h4 : o.kind = 6 ∨ o.kind = 7
  · rw [if_pos h4]
    show BlkN (n + 1) (copD l o).2
    cases hv : lookP l o.name with
    | none => rw [copD_none hv]; exact h.up
    | some v =>
      rw [copD_some hv]
      show BlkN (n + 1) (ite (addE l o.other (if o.kind = 6 then v.q else o.quota) 0 v.bl.length = 0) _ _)
      by_cases he : addE l o.other (if o.kind = 6 then v.q else o.quota) 0 v.bl.length = 0
      · rw [if_pos he]; exact add _ _ (h _ (lookP_mem hv))
      · rw [if_neg he]; exact h.up
  rw [if_neg h4]
  split <;> exact h.up
theorem blk_run : ∀ (os : List OpV) (n : Nat) (l : AL), BlkN n l → BlkN (n + os.length) (runD l os)
  | [], _, _, h => h
  | o :: os, n, l, h => by
    have := blk_run os (n + 1) _ (blk_step h o)
    rw [show n + 1 + os.length = n + (o :: os).length by simp; omega] at this
    exact this
end Go.Proofs.Ytkckphbdjkjfgaa.B
