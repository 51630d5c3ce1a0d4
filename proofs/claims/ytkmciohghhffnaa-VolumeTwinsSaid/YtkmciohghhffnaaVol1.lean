/-
  Volumes in memory: a set's volumes.
-/
import Derived.Test.YtkmciohghhffnaaLookP
import Derived.Test.YtkmciohghhffnaaVStr
import Derived.Test.YtkmciohghhffnaaMLib
import Derived.Test.YtkmciohghhffnaaStrB
import Derived.Test.YtkmciohghhffnaaMPack
import Derived.Test.YtkmciohghhffnaaU64
namespace Go.Proofs.Ytkmciohghhffnaa.B
open Go
set_option linter.unusedVariables false
set_option maxHeartbeats 2000000
set_option maxRecDepth 100000
attribute [local irreducible] W OpsW OpsQ retP
abbrev Bk := Dig
abbrev Bk.zero : Bk := Dig.zero
abbrev blkR (s : Bk) : List Value := dgR s
theorem blkR_len (s : Bk) : (blkR s).length = 32 := dgR_len s
theorem blkR_one (s : Bk) : (blkR s).all one = true := dgR_one s
theorem blkR_inj {a b : Bk} : blkR a = blkR b ↔ a = b := dgR_inj
theorem blkR_zero : blkR Bk.zero = List.replicate 32 (c8 0) := by show (List.replicate 32 0).map c8 = _; rw [List.map_replicate]
theorem okC_bk (s : Bk) : okC Try.prog 2 41 (blkR s) := okC_dgR s
theorem ti_bk : tinfo Try.prog 41 = some (some (.agg (List.replicate 32 (c8 0)).toArray), 32, 32) := by kernel_rfl
theorem ti_blk2 : tinfo Try.prog 41 = some (some (.agg (blkR Bk.zero).toArray), 32, 32) := by rw [blkR_zero]; exact ti_bk
/-- A volume. -/
structure Vol where
  q : Int
  fr : Bool
  bl : List (Int × Bk)
  xa : Nat
abbrev ModL := List (List UInt8 × Vol)
def bkV (b : Bk) : Value := .agg (blkR b).toArray
def volR (q : Int) (fr : Bool) (x : Value) : List Value := [.int .i64 q, .bool fr, x]
def ptrV (v : Vol) : Value := .agg (volR v.q v.fr (.map (some v.xa))).toArray
theorem ti_ptrV : tinfo Try.prog 110 = some (some (.agg (volR 0 false (.map none)).toArray), 3, 24) := by kernel_rfl
def VolW (w : World) (v : Vol) : Prop := True ∧ MapG intK w v.xa (mapP bkV v.bl)
theorem VolW.k {w w' : World} {v : Vol} (h : VolW w v) (hk : Keep All w w') : VolW w' v := ⟨trivial, h.2.keep hk trivial⟩
structure ModW (w : World) (mb bm : Nat) (l : ModL) : Prop where
  m : Blk w mb [.map (some bm)] 102
  vs : MapG strA w bm (mapP ptrV l)
  v : ∀ x ∈ l, VolW w x.2
  nx : ∀ x ∈ l, x.2.xa ≠ bm
  ap : (l.map (·.2.xa)).Nodup
def ModB (bm : Nat) (l : ModL) (z : Nat) : Prop := z = bm ∨ ∃ x ∈ l, z = x.2.xa
theorem ModW.k {w w' : World} {mb bm : Nat} {l : ModL} (h : ModW w mb bm l) (hk : Keep All w w') : ModW w' mb bm l :=
  ⟨hk.blk' h.m trivial, h.vs.keep hk trivial, fun x hx => (h.v x hx).k hk, h.nx, h.ap⟩
theorem ModW.nodup {w : World} {mb bm : Nat} {l : ModL} (h : ModW w mb bm l) : (l.map (·.1)).Nodup := by
  have := h.vs.nodup; rwa [mapP_keys] at this
theorem ModW.ltB {w : World} {mb bm : Nat} {l : ModL} (h : ModW w mb bm l) {z : Nat} (hz : ModB bm l z) : z < w.heap.size := by
  rcases hz with rfl | ⟨x, hx, rfl⟩
  · exact h.vs.lt
  · exact (h.v x hx).2.lt
def putV (l : ModL) (nm : List UInt8) (bl : List (Int × Bk)) : ModL := l.map fun x => if x.1 = nm then (x.1, { x.2 with bl := bl }) else x
theorem putV_ptr (l : ModL) (nm : List UInt8) (bl : List (Int × Bk)) : mapP ptrV (putV l nm bl) = mapP ptrV l := by
  unfold putV mapP
  rw [List.map_map]
  apply List.map_congr_left
  intro x _
  show (_, ptrV (if x.1 = nm then (x.1, { x.2 with bl := bl }) else x).2) = _
  by_cases h : x.1 = nm <;> simp [h, ptrV]
theorem putV_xa (l : ModL) (nm : List UInt8) (bl : List (Int × Bk)) : (putV l nm bl).map (·.2.xa) = l.map (·.2.xa) := by
  unfold putV
  rw [List.map_map]
  apply List.map_congr_left
  intro x _
  show (if x.1 = nm then (x.1, { x.2 with bl := bl }) else x).2.xa = _
  by_cases h : x.1 = nm <;> simp [h]
theorem putV_B {bm : Nat} {l : ModL} {nm : List UInt8} {bl : List (Int × Bk)} {z : Nat} : ModB bm (putV l nm bl) z ↔ ModB bm l z := by
  have : ∀ m : ModL, (∃ x ∈ m, z = x.2.xa) ↔ z ∈ m.map (·.2.xa) := fun m => by
    rw [List.mem_map]; exact ⟨fun ⟨x, h, e⟩ => ⟨x, h, e.symm⟩, fun ⟨x, h, e⟩ => ⟨x, h, e.symm⟩⟩
  unfold ModB
  rw [this, this, putV_xa]
/-- A volume's blocks are changed. -/
theorem ModW.put {w w' : World} {mb bm : Nat} {l : ModL} {nm : List UInt8} {v : Vol} {bl : List (Int × Bk)} (h : ModW w mb bm l) (hv : lookP l nm = some v) (hM : MapG intK w' v.xa (mapP bkV bl)) (hk : Keep (· ≠ v.xa) w w') : ModW w' mb bm (putV l nm bl) := by
  have hmem := lookP_mem hv
  have hV := h.v _ hmem
  refine ⟨hk.blk' h.m (h.m.ne_map hV.2), ?_, fun x hx => ?_, fun x hx => ?_, by rw [putV_xa]; exact h.ap⟩
  · rw [putV_ptr]; exact h.vs.keep hk (fun e => h.nx _ hmem e.symm)
  · obtain ⟨y, hy, rfl⟩ := List.mem_map.1 hx
    by_cases hn : y.1 = nm
    · rw [if_pos hn]
      have : y.2 = v := by
        have := lookP_at h.nodup hy
        rw [hn, hv] at this; exact (Option.some.inj this).symm
      rw [this]
      exact ⟨trivial, hM⟩
    · rw [if_neg hn]
      have hVy := h.v _ hy
      have hne : y.2.xa ≠ v.xa := fun e => hn (by rw [nodup_map_injV h.ap hy hmem e])
      exact ⟨trivial, hVy.2.keep hk hne⟩
  · obtain ⟨y, hy, rfl⟩ := List.mem_map.1 hx
    have := h.nx _ hy
    by_cases hn : y.1 = nm <;> simpa [hn] using this
/-- One volume more. -/
theorem ModW.add {w w' : World} {mb bm : Nat} {l : ModL} {nm : List UInt8} {v : Vol} (h : ModW w mb bm l) (hM : MapG strA w' bm (mapP ptrV (l ++ [(nm, v)]))) (hk : Keep (· ≠ bm) w w') (hV : VolW w v) (h1 : v.xa ≠ bm) (h2 : ∀ x ∈ l, x.2.xa ≠ v.xa) : ModW w' mb bm (l ++ [(nm, v)]) := by
  refine ⟨hk.blk' h.m (h.m.ne_map h.vs), hM, fun x hx => ?_, fun x hx => ?_, ?_⟩
  · rcases List.mem_append.1 hx with hx | hx
    · have := h.v _ hx
      exact ⟨trivial, this.2.keep hk (h.nx _ hx)⟩
    · rw [List.mem_singleton.1 hx]
      exact ⟨trivial, hV.2.keep hk h1⟩
  · rcases List.mem_append.1 hx with hx | hx
    · exact h.nx _ hx
    · rw [List.mem_singleton.1 hx]; exact h1
  · rw [List.map_append]
    refine List.nodup_append.2 ⟨h.ap, by simp, fun a ha b hb => ?_⟩
    obtain ⟨x, hx, rfl⟩ := List.mem_map.1 ha
    have : b = v.xa := by simpa using hb
    rw [this]; exact h2 x hx
/-- A volume less. -/
theorem ModW.del {w w' : World} {mb bm : Nat} {l : ModL} {nm : List UInt8} (h : ModW w mb bm l) (hM : MapG strA w' bm (mapP ptrV (delP l nm))) (hk : Keep (· ≠ bm) w w') : ModW w' mb bm (delP l nm) := by
  have hsub : ∀ x ∈ delP l nm, x ∈ l := fun x hx => (List.mem_filter.1 hx).1
  refine ⟨hk.blk' h.m (h.m.ne_map h.vs), hM, fun x hx => ?_, fun x hx => h.nx _ (hsub x hx), List.Nodup.sublist (List.Sublist.map _ List.filter_sublist) h.ap⟩
  have := h.v _ (hsub x hx)
  exact ⟨trivial, this.2.keep hk (h.nx _ (hsub x hx))⟩
/-- A volume, as it is seen. -/
structure VA where
  q : Int
  fr : Bool
  bl : List (Int × Bk)
abbrev AL := List (List UInt8 × VA)
def Vol.a (v : Vol) : VA := ⟨v.q, v.fr, v.bl⟩
def abs (l : ModL) : AL := mapP Vol.a l
theorem look_abs (l : ModL) (k : List UInt8) : lookP (abs l) k = (lookP l k).map Vol.a := by
  unfold abs mapP
  induction l with
  | nil => rfl
  | cons x l ih =>
    show (if x.1 = k then some (Vol.a x.2) else lookP _ k) = (if x.1 = k then some x.2 else lookP l k).map Vol.a
    split
    · rfl
    · exact ih
theorem abs_names (l : ModL) : (mapP ptrV l).map (·.1) = (abs l).map (·.1) := by rw [mapP_keys]; unfold abs; rw [mapP_keys]
def putA (l : AL) (nm : List UInt8) (bl : List (Int × Bk)) : AL := l.map fun x => if x.1 = nm then (x.1, { x.2 with bl := bl }) else x
theorem putV_abs (l : ModL) (nm : List UInt8) (bl : List (Int × Bk)) : abs (putV l nm bl) = putA (abs l) nm bl := by
  unfold abs mapP putV putA
  rw [List.map_map, List.map_map]
  apply List.map_congr_left
  intro x _
  show ((if x.1 = nm then (x.1, { x.2 with bl := bl }) else x).1, Vol.a (if x.1 = nm then (x.1, { x.2 with bl := bl }) else x).2) = (if x.1 = nm then (x.1, { Vol.a x.2 with bl := bl }) else (x.1, Vol.a x.2))
  by_cases h : x.1 = nm
  · rw [if_pos h, if_pos h]; rfl
  · rw [if_neg h, if_neg h]
theorem look_put (l : AL) (nm : List UInt8) (bl : List (Int × Bk)) : lookP (putA l nm bl) nm = (lookP l nm).map fun v => { v with bl := bl } := by
  induction l with
  | nil => rfl
  | cons x l ih =>
    show lookP ((if x.1 = nm then (x.1, { x.2 with bl := bl }) else x) :: putA l nm bl) nm = (if x.1 = nm then some x.2 else lookP l nm).map _
    by_cases h : x.1 = nm
    · rw [if_pos h, if_pos h]
      show (if x.1 = nm then some { x.2 with bl := bl } else _) = _
      rw [if_pos h]; rfl
    · rw [if_neg h, if_neg h]
      show (if x.1 = nm then some x.2 else _) = _
      rw [if_neg h, ih]
/-- What a step leaves. -/
def ModS (w : World) (mb bm : Nat) (l : ModL) (w' : World) (l' : ModL) : Prop := ModW w' mb bm l' ∧ Keep (fun z => ¬ ModB bm l z) w w' ∧ ∀ z, ModB bm l' z → ModB bm l z ∨ w.heap.size ≤ z
theorem ModS.same {w w' : World} {mb bm : Nat} {l : ModL} (h : ModW w mb bm l) (hk : Keep All w w') : ModS w mb bm l w' l := ⟨h.k hk, hk.all, fun _ h => .inl h⟩
theorem ModS.trans {w w1 w2 : World} {mb bm : Nat} {l l1 l2 : ModL} (h : ModS w mb bm l w1 l1) (h2 : ModS w1 mb bm l1 w2 l2) : ModS w mb bm l w2 l2 := by
  have hsz := h.2.1.size
  refine ⟨h2.1, ⟨h2.2.1.os.trans h.2.1.os, h2.2.1.tape.trans h.2.1.tape, h2.2.1.output.trans h.2.1.output, Nat.le_trans hsz h2.2.1.size, fun k hk hA => ?_⟩, fun z hz => ?_⟩
  · rw [h2.2.1.blk k (by omega) (fun hB => by rcases h.2.2 _ hB with h | h; exact hA h; omega), h.2.1.blk k hk hA]
  · rcases h2.2.2 z hz with h3 | h3
    · exact h.2.2 z h3
    · exact .inr (by omega)
theorem ModS.pre {w w1 w2 : World} {mb bm : Nat} {l l2 : ModL} (h : ModW w mb bm l) (hk : Keep All w w1) (h2 : ModS w1 mb bm l w2 l2) : ModS w mb bm l w2 l2 := (ModS.same h hk).trans h2
theorem ModS.post {w w1 w2 : World} {mb bm : Nat} {l l1 : ModL} (h1 : ModS w mb bm l w1 l1) (hk : Keep All w1 w2) : ModS w mb bm l w2 l1 := h1.trans (ModS.same h1.1 hk)
theorem Blk.ne_typ {w : World} {a b : Nat} {cs cs' : List Value} {t t' : TypeId} (h : Blk w a cs t) (h' : Blk w b cs' t') (ht : t ≠ t') : a ≠ b := fun e => by
  have h1 : w.heap[a]? = some (.cells cs.toArray t) := h
  have h2 : w.heap[b]? = some (.cells cs'.toArray t') := h'
  rw [e, h2] at h1
  have := Option.some.inj h1
  injection this with _ h3
  exact ht h3.symm
theorem ModW.st {w w' : World} {mb bm b : Nat} {l : ModL} {cs : List Value} {t : TypeId} (h : ModW w mb bm l) (hB : Blk w b cs t) (h1 : t ≠ 102) (hk : Keep (· ≠ b) w w') : ModW w' mb bm l :=
  ⟨hk.blk' h.m (hB.ne_typ h.m h1).symm, h.vs.keep hk (hB.ne_map h.vs).symm, fun x hx => ⟨trivial, (h.v x hx).2.keep hk (hB.ne_map (h.v x hx).2).symm⟩, h.nx, h.ap⟩
theorem ModS.st {w w1 w' : World} {mb bm b : Nat} {l l1 : ModL} {cs : List Value} {t : TypeId} (h : ModS w mb bm l w1 l1) (hB : Blk w1 b cs t) (h1 : t ≠ 102) (hk : Keep (· ≠ b) w1 w') (hb : w.heap.size ≤ b) : ModS w mb bm l w' l1 :=
  ⟨h.1.st hB h1 hk, h.2.1.new hk hb, h.2.2⟩
theorem neB {w : World} {mb bm b : Nat} {l : ModL} {cs : List Value} {t : TypeId} (h : ModW w mb bm l) (hB : Blk w b cs t) : ¬ ModB bm l b := fun hz => by
  rcases hz with e | ⟨x, hx, e⟩
  · exact hB.ne_map h.vs e
  · exact hB.ne_map (h.v x hx).2 e
theorem cell_map {w : World} {b off : Nat} {u : Value} {es : Array MapEntry} {cl : Nat} (h : w.cell? ⟨b, off, none⟩ = some u) (hm : w.heap[b]? = some (.map es cl)) : False := by
  unfold World.cell? at h
  rw [hm] at h
  simp at h
theorem cell_noB {w : World} {mb bm b off : Nat} {l : ModL} {u : Value} (hM : ModW w mb bm l) (h : w.cell? ⟨b, off, none⟩ = some u) : ¬ ModB bm l b := fun hB => by
  rcases hB with rfl | ⟨x, hx, rfl⟩
  · obtain ⟨es, cl, h1, _⟩ := hM.vs; exact cell_map h h1
  · obtain ⟨es, cl, h1, _⟩ := (hM.v x hx).2; exact cell_map h h1
theorem Sl.kM {w w' : World} {mb bm : Nat} {l : ModL} {v : Value} {n sz : Nat} {cs : List Value} (h : Sl w v n sz cs) (hM : ModW w mb bm l) (hk : Keep (fun z => ¬ ModB bm l z) w w') : Sl w' v n sz cs := by
  obtain ⟨a, c, rfl, h1, h2, h3, h4, h5⟩ := h
  refine ⟨a, c, rfl, h1, h2, h3, h4, fun x hx i u hu => ?_⟩
  obtain ⟨e, hc⟩ := h5 x hx i u hu
  exact ⟨e, hk.cell hc (cell_noB hM hc)⟩
/-- A set as it goes on from a world. -/
structure MSv (w0 w : World) (mb bm : Nat) (l : ModL) : Prop where
  m : ModW w mb bm l
  k : Keep All w0 w
  b : ∀ z, ModB bm l z → w0.heap.size ≤ z
theorem MSv.keep {w0 w w' : World} {mb bm : Nat} {l : ModL} (h : MSv w0 w mb bm l) (hk : Keep All w w') : MSv w0 w' mb bm l := ⟨h.m.k hk, h.k.trans hk, h.b⟩
theorem MSv.st {w0 w w' : World} {mb bm b : Nat} {l : ModL} {cs : List Value} {t : TypeId} (h : MSv w0 w mb bm l) (hB : Blk w b cs t) (h1 : t ≠ 102) (hk : Keep (· ≠ b) w w') (hb : w0.heap.size ≤ b) : MSv w0 w' mb bm l :=
  ⟨h.m.st hB h1 hk, h.k.new hk hb, h.b⟩
theorem MSv.go {w0 w w' : World} {mb bm : Nat} {l l' : ModL} (h : MSv w0 w mb bm l) (hS : ModS w mb bm l w' l') : MSv w0 w' mb bm l' := by
  have hsz := h.k.size
  refine ⟨hS.1, ⟨hS.2.1.os.trans h.k.os, hS.2.1.tape.trans h.k.tape, hS.2.1.output.trans h.k.output, Nat.le_trans hsz hS.2.1.size, fun k hk _ => ?_⟩, fun z hz => ?_⟩
  · rw [hS.2.1.blk k (by omega) (fun hB => by have := h.b k hB; omega), h.k.blk k hk trivial]
  · rcases hS.2.2 z hz with h3 | h3
    · exact h.b z h3
    · omega
theorem MSv.blk {w0 w w' : World} {mb bm b : Nat} {l l' : ModL} {cs : List Value} {t : TypeId} (h : MSv w0 w mb bm l) (hS : ModS w mb bm l w' l') (hB : Blk w b cs t) : Blk w' b cs t := hS.2.1.blk' hB (neB h.m hB)
/-- What is asked of a set's volumes. -/
def SmallM (l : AL) : Prop := l.length ≤ 1000 ∧ ∀ x ∈ l, x.1.length ≤ 20
def BlkN (n : Nat) (l : AL) : Prop := ∀ x ∈ l, x.2.bl.length ≤ n ∧ ∀ p ∈ x.2.bl, 0 ≤ p.1 ∧ p.1 < 1048576
theorem BlkN.mono {n m : Nat} {l : AL} (h : BlkN n l) (hn : n ≤ m) : BlkN m l := fun x hx => ⟨Nat.le_trans (h x hx).1 hn, (h x hx).2⟩
theorem BlkN.nil : BlkN 0 [] := fun x hx => by cases hx
theorem BlkN.put {n : Nat} {l : AL} (h : BlkN n l) (nm : List UInt8) {bl : List (Int × Bk)} (hb : bl.length ≤ n ∧ ∀ p ∈ bl, 0 ≤ p.1 ∧ p.1 < 1048576) : BlkN n (putA l nm bl) := by
  intro x hx
  obtain ⟨y, hy, rfl⟩ := List.mem_map.1 hx
  by_cases hn : y.1 = nm
  · rw [if_pos hn]; exact hb
  · rw [if_neg hn]; exact h y hy
theorem setP_mem {α β : Type} [DecidableEq α] {l : List (α × β)} {k : α} {v : β} {x : α × β} (h : x ∈ setP l k v) : x = (k, v) ∨ x ∈ l := by
  unfold setP at h
  split at h
  · obtain ⟨y, hy, rfl⟩ := List.mem_map.1 h
    by_cases hk : y.1 = k
    · rw [if_pos hk]; exact .inl rfl
    · rw [if_neg hk]; exact .inr hy
  · rcases List.mem_append.1 h with h | h
    · exact .inr h
    · exact .inl (List.mem_singleton.1 h)
theorem setP_len {α β : Type} [DecidableEq α] (l : List (α × β)) (k : α) (v : β) : (setP l k v).length ≤ l.length + 1 := by
  unfold setP
  split
  · rw [List.length_map]; omega
  · rw [List.length_append]; exact Nat.le_refl _
end Go.Proofs.Ytkmciohghhffnaa.B
