/-
  A model in memory: its volumes.
-/
import Derived.Test.YtkckphbdjkjfgaaMod1
namespace Go.Proofs.Ytkckphbdjkjfgaa.B
open Go
set_option linter.unusedVariables false
set_option maxHeartbeats 2000000
set_option maxRecDepth 100000
attribute [local irreducible] W OpsW OpsQ retP
section
variable {α β : Type} [DecidableEq α]
def lookP : List (α × β) → α → Option β
  | [], _ => none
  | x :: l, k => if x.1 = k then some x.2 else lookP l k
def setP (l : List (α × β)) (k : α) (v : β) : List (α × β) := if (lookP l k).isSome = true then l.map (fun x => if x.1 = k then (k, v) else x) else l ++ [(k, v)]
def mapP {γ : Type} (f : β → γ) (l : List (α × β)) : List (α × γ) := l.map fun x => (x.1, f x.2)
theorem getA_look (f : β → Value) (k : α) : ∀ l : List (α × β), getA (mapP f l) k = (lookP l k).map f
  | [] => rfl
  | x :: l => by
    show (if x.1 = k then some (f x.2) else getA (mapP f l) k) = _
    unfold lookP
    split
    · rfl
    · exact getA_look f k l
theorem lookP_mem {k : α} {v : β} : ∀ {l : List (α × β)}, lookP l k = some v → (k, v) ∈ l
  | [], h => by cases h
  | x :: l, h => by
    unfold lookP at h
    split at h
    · rename_i e
      cases h
      exact List.mem_cons.2 (.inl (by rw [← e]))
    · exact List.mem_cons_of_mem _ (lookP_mem h)
theorem lookP_none {k : α} : ∀ {l : List (α × β)}, lookP l k = none → ∀ x ∈ l, x.1 ≠ k
  | [], _, x, hx => by cases hx
  | y :: l, h, x, hx => by
    unfold lookP at h
    split at h
    · cases h
    · rename_i hne
      rcases List.mem_cons.1 hx with rfl | hx
      · exact hne
      · exact lookP_none h x hx
theorem lookP_at {l : List (α × β)} {x : α × β} (hn : (l.map (·.1)).Nodup) (hx : x ∈ l) : lookP l x.1 = some x.2 := by
  induction l with
  | nil => cases hx
  | cons y l ih =>
    obtain ⟨h1, h2⟩ := List.nodup_cons.1 (show (y.1 :: l.map (·.1)).Nodup from hn)
    unfold lookP
    rcases List.mem_cons.1 hx with rfl | hx
    · exact if_pos rfl
    · rw [if_neg (fun e => h1 (by rw [e]; exact List.mem_map.2 ⟨x, hx, rfl⟩))]
      exact ih h2 hx
theorem setA_map (f : β → Value) (l : List (α × β)) (k : α) (v : β) : setA (mapP f l) k (f v) = mapP f (setP l k v) := by
  unfold setA setP
  rw [getA_look, Option.isSome_map]
  split
  · unfold mapP; rw [List.map_map, List.map_map]
    apply List.map_congr_left
    intro x _
    show (if x.1 = k then (k, f v) else (x.1, f x.2)) = _
    by_cases h : x.1 = k
    · simp [h]
    · simp [h]
  · unfold mapP; rw [List.map_append]; rfl
theorem delP_map (f : β → Value) (l : List (α × β)) (k : α) : delP (mapP f l) k = mapP f (delP l k) := by
  unfold delP mapP
  rw [List.filter_map]; rfl
omit [DecidableEq α] in
theorem mapP_keys {γ : Type} (f : β → γ) (l : List (α × β)) : (mapP f l).map (·.1) = l.map (·.1) := by
  unfold mapP; rw [List.map_map]; rfl
theorem lookP_del (l : List (α × β)) (k j : α) : lookP (delP l k) j = if j = k then none else lookP l j := by
  induction l with
  | nil => show none = _; split <;> rfl
  | cons x l ih =>
    unfold delP at ih ⊢
    by_cases hx : x.1 = k
    · rw [List.filter_cons, if_neg (by simp [hx]), ih]
      by_cases hj : j = k
      · rw [if_pos hj, if_pos hj]
      · rw [if_neg hj, if_neg hj]
        show _ = (if x.1 = j then some x.2 else lookP l j)
        rw [if_neg (fun e => hj (by rw [← e, hx]))]
    · rw [List.filter_cons, if_pos (by simp [hx])]
      show (if x.1 = j then some x.2 else lookP _ j) = _
      rw [ih]
      by_cases hj : j = k
      · rw [if_pos hj, if_pos hj, if_neg (fun e => hx (by rw [e, hj]))]
      · rw [if_neg hj, if_neg hj]; rfl
theorem lookP_set (l : List (α × β)) (k : α) (v : β) (j : α) : lookP (setP l k v) j = if j = k then some v else lookP l j := by
  unfold setP
  by_cases hs : (lookP l k).isSome = true
  · rw [if_pos hs]
    have key : ∀ m : List (α × β), lookP (m.map fun x => if x.1 = k then (k, v) else x) j = if j = k then (if (lookP m k).isSome = true then some v else none) else lookP m j := by
      intro m
      induction m with
      | nil => show none = (if j = k then (if (none : Option β).isSome = true then some v else none) else none); split <;> rfl
      | cons x m ih =>
        rw [List.map_cons]
        by_cases hx : x.1 = k
        · rw [if_pos hx]
          show (if k = j then some v else lookP _ j) = _
          by_cases hj : j = k
          · rw [if_pos hj.symm, if_pos hj]
            unfold lookP; rw [if_pos hx]; rfl
          · rw [if_neg (fun e => hj e.symm), if_neg hj, ih, if_neg hj]
            show _ = (if x.1 = j then some x.2 else lookP m j)
            rw [if_neg (fun e => hj (by rw [← e, hx]))]
        · rw [if_neg hx]
          show (if x.1 = j then some x.2 else lookP _ j) = _
          by_cases hj : j = k
          · rw [if_neg (fun e => hx (by rw [e, hj])), ih, if_pos hj, if_pos hj]
            show _ = (if (if x.1 = k then some x.2 else lookP m k).isSome = true then some v else none)
            rw [if_neg hx]
          · rw [ih, if_neg hj, if_neg hj]; rfl
    rw [key, hs]; rfl
  · rw [if_neg hs]
    have key : ∀ m : List (α × β), lookP m k = none → lookP (m ++ [(k, v)]) j = if j = k then some v else lookP m j := by
      intro m hm
      induction m with
      | nil =>
        show (if k = j then some v else none) = _
        by_cases hj : j = k
        · rw [if_pos hj.symm, if_pos hj]
        · rw [if_neg (fun e => hj e.symm), if_neg hj]; rfl
      | cons x m ih =>
        have hx : x.1 ≠ k := lookP_none hm x (List.mem_cons_self ..)
        have hm2 : lookP m k = none := by unfold lookP at hm; rwa [if_neg hx] at hm
        show (if x.1 = j then some x.2 else lookP (m ++ [(k, v)]) j) = _
        rw [ih hm2]
        by_cases hj : j = k
        · rw [if_pos hj, if_pos hj, if_neg (fun e => hx (by rw [e, hj]))]
        · rw [if_neg hj, if_neg hj]; rfl
    exact key l (by cases h : lookP l k with
      | none => rfl
      | some x => rw [h] at hs; exact absurd rfl hs)
end
theorem nodup_map_inj {α β : Type} {f : α → β} : ∀ {l : List α} {x y : α}, (l.map f).Nodup → x ∈ l → y ∈ l → f x = f y → x = y
  | z :: l, x, y, hn, hx, hy, he => by
    obtain ⟨h1, h2⟩ := List.nodup_cons.1 (show (f z :: l.map f).Nodup from hn)
    rcases List.mem_cons.1 hx with ex | hx' <;> rcases List.mem_cons.1 hy with ey | hy'
    · rw [ex, ey]
    · exact absurd (List.mem_map.2 ⟨y, hy', by rw [← he, ex]⟩) h1
    · exact absurd (List.mem_map.2 ⟨x, hx', by rw [he, ey]⟩) h1
    · exact nodup_map_inj h2 hx' hy' he
theorem Blk.ne_map {α : Type} {kv : α → Value} {w : World} {a b : Nat} {cs : List Value} {t : TypeId} {l : List (α × Value)} (h : Blk w a cs t) (hm : MapG kv w b l) : a ≠ b := fun e => by
  obtain ⟨es, cl, h1, _⟩ := hm
  have h2 : w.heap[a]? = some (.cells cs.toArray t) := h
  rw [e, h1] at h2; cases h2
/-- A volume. -/
structure Vol where
  q : Int
  fr : Bool
  bl : List (Int × Bk)
  va : Nat
  xa : Nat
abbrev ModL := List (List UInt8 × Vol)
def bkV (b : Bk) : Value := .agg (blkR b).toArray
def ptrV (v : Vol) : Value := .pointer (some ⟨v.va, 0, none⟩)
def VolW (w : World) (v : Vol) : Prop := Blk w v.va [.int .i64 v.q, .bool v.fr, .map (some v.xa)] 63 ∧ MapG intK w v.xa (mapP bkV v.bl)
theorem VolW.k {w w' : World} {v : Vol} (h : VolW w v) (hk : Keep All w w') : VolW w' v := ⟨hk.blk' h.1 trivial, h.2.keep hk trivial⟩
structure ModW (w : World) (mb bm : Nat) (l : ModL) : Prop where
  m : Blk w mb [.map (some bm)] 58
  vs : MapG strA w bm (mapP ptrV l)
  v : ∀ x ∈ l, VolW w x.2
  nx : ∀ x ∈ l, x.2.xa ≠ bm
  ap : (l.map (·.2.xa)).Nodup
def ModB (bm : Nat) (l : ModL) (z : Nat) : Prop := z = bm ∨ ∃ x ∈ l, z = x.2.xa
theorem ModW.k {w w' : World} {mb bm : Nat} {l : ModL} (h : ModW w mb bm l) (hk : Keep All w w') : ModW w' mb bm l :=
  ⟨hk.blk' h.m trivial, h.vs.keep hk trivial, fun x hx => (h.v x hx).k hk, h.nx, h.ap⟩
theorem ModW.nodup {w : World} {mb bm : Nat} {l : ModL} (h : ModW w mb bm l) : (l.map (·.1)).Nodup := by
  have := h.vs.nodup; rwa [mapP_keys] at this
theorem ModW.ltB {w : World} {mb bm : Nat} {l : ModL} (h : ModW w mb bm l) {z : Nat} (hz : ModB bm l z) : z < w.heap.size := by
  rcases hz with rfl | ⟨x, hx, rfl⟩
  · exact h.vs.lt
  · exact (h.v x hx).2.lt
def putV (l : ModL) (nm : List UInt8) (bl : List (Int × Bk)) : ModL := l.map fun x => if x.1 = nm then (x.1, { x.2 with bl := bl }) else x
theorem putV_ptr (l : ModL) (nm : List UInt8) (bl : List (Int × Bk)) : mapP ptrV (putV l nm bl) = mapP ptrV l := by
  unfold putV mapP
  rw [List.map_map]
  apply List.map_congr_left
  intro x _
  show (_, ptrV (if x.1 = nm then (x.1, { x.2 with bl := bl }) else x).2) = _
  by_cases h : x.1 = nm <;> simp [h, ptrV]
theorem putV_xa (l : ModL) (nm : List UInt8) (bl : List (Int × Bk)) : (putV l nm bl).map (·.2.xa) = l.map (·.2.xa) := by
  unfold putV
  rw [List.map_map]
  apply List.map_congr_left
  intro x _
  show (if x.1 = nm then (x.1, { x.2 with bl := bl }) else x).2.xa = _
  by_cases h : x.1 = nm <;> simp [h]
theorem putV_B {bm : Nat} {l : ModL} {nm : List UInt8} {bl : List (Int × Bk)} {z : Nat} : ModB bm (putV l nm bl) z ↔ ModB bm l z := by
  have : ∀ m : ModL, (∃ x ∈ m, z = x.2.xa) ↔ z ∈ m.map (·.2.xa) := fun m => by
    rw [List.mem_map]; exact ⟨fun ⟨x, h, e⟩ => ⟨x, h, e.symm⟩, fun ⟨x, h, e⟩ => ⟨x, h, e.symm⟩⟩
  unfold ModB
  rw [this, this, putV_xa]
/-- A volume's blocks are changed. -/
theorem ModW.put {w w' : World} {mb bm : Nat} {l : ModL} {nm : List UInt8} {v : Vol} {bl : List (Int × Bk)} (h : ModW w mb bm l) (hv : lookP l nm = some v) (hM : MapG intK w' v.xa (mapP bkV bl)) (hk : Keep (· ≠ v.xa) w w') : ModW w' mb bm (putV l nm bl) := by
  have hmem := lookP_mem hv
  have hV := h.v _ hmem
  refine ⟨hk.blk' h.m (h.m.ne_map hV.2), ?_, fun x hx => ?_, fun x hx => ?_, by rw [putV_xa]; exact h.ap⟩
  · rw [putV_ptr]; exact h.vs.keep hk (fun e => h.nx _ hmem e.symm)
  · obtain ⟨y, hy, rfl⟩ := List.mem_map.1 hx
    by_cases hn : y.1 = nm
    · rw [if_pos hn]
      have : y.2 = v := by
        have := lookP_at h.nodup hy
        rw [hn, hv] at this; exact (Option.some.inj this).symm
      rw [this]
      exact ⟨hk.blk' hV.1 (hV.1.ne_map hV.2), hM⟩
    · rw [if_neg hn]
      have hVy := h.v _ hy
      have hne : y.2.xa ≠ v.xa := fun e => hn (by rw [nodup_map_inj h.ap hy hmem e])
      exact ⟨hk.blk' hVy.1 (hVy.1.ne_map hV.2), hVy.2.keep hk hne⟩
  · obtain ⟨y, hy, rfl⟩ := List.mem_map.1 hx
    have := h.nx _ hy
    by_cases hn : y.1 = nm <;> simpa [hn] using this
/-- One volume more. -/
theorem ModW.add {w w' : World} {mb bm : Nat} {l : ModL} {nm : List UInt8} {v : Vol} (h : ModW w mb bm l) (hM : MapG strA w' bm (mapP ptrV (l ++ [(nm, v)]))) (hk : Keep (· ≠ bm) w w') (hV : VolW w v) (h1 : v.xa ≠ bm) (h2 : ∀ x ∈ l, x.2.xa ≠ v.xa) : ModW w' mb bm (l ++ [(nm, v)]) := by
  refine ⟨hk.blk' h.m (h.m.ne_map h.vs), hM, fun x hx => ?_, fun x hx => ?_, ?_⟩
  · rcases List.mem_append.1 hx with hx | hx
    · have := h.v _ hx
      exact ⟨hk.blk' this.1 (this.1.ne_map h.vs), this.2.keep hk (h.nx _ hx)⟩
    · rw [List.mem_singleton.1 hx]
      exact ⟨hk.blk' hV.1 (hV.1.ne_map h.vs), hV.2.keep hk h1⟩
  · rcases List.mem_append.1 hx with hx | hx
    · exact h.nx _ hx
    · rw [List.mem_singleton.1 hx]; exact h1
  · rw [List.map_append]
    refine List.nodup_append.2 ⟨h.ap, by simp, fun a ha b hb => ?_⟩
    obtain ⟨x, hx, rfl⟩ := List.mem_map.1 ha
    have : b = v.xa := by simpa using hb
    rw [this]; exact h2 x hx
/-- A volume less. -/
theorem ModW.del {w w' : World} {mb bm : Nat} {l : ModL} {nm : List UInt8} (h : ModW w mb bm l) (hM : MapG strA w' bm (mapP ptrV (delP l nm))) (hk : Keep (· ≠ bm) w w') : ModW w' mb bm (delP l nm) := by
  have hsub : ∀ x ∈ delP l nm, x ∈ l := fun x hx => (List.mem_filter.1 hx).1
  refine ⟨hk.blk' h.m (h.m.ne_map h.vs), hM, fun x hx => ?_, fun x hx => h.nx _ (hsub x hx), List.Nodup.sublist (List.Sublist.map _ List.filter_sublist) h.ap⟩
  have := h.v _ (hsub x hx)
  exact ⟨hk.blk' this.1 (this.1.ne_map h.vs), this.2.keep hk (h.nx _ (hsub x hx))⟩
end Go.Proofs.Ytkckphbdjkjfgaa.B
