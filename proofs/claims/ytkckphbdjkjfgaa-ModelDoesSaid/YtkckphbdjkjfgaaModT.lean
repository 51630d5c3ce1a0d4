/-
  Behind a trim a block isn't there; a model as it goes on.
-/
import Derived.Test.YtkckphbdjkjfgaaMod10
import Derived.Test.YtkckphbdjkjfgaaModD
namespace Go.Proofs.Ytkckphbdjkjfgaa.B
open Go
set_option linter.unusedVariables false
set_option maxHeartbeats 2000000
set_option maxRecDepth 100000
attribute [local irreducible] W OpsW OpsQ retP
section
variable {P : Program} {F : Fr} {w : World} {dst : Option Tmp} {ty : TypeId} {pos : String} {after : Array Edge} {g : Option (Nat × Bool)}
theorem r_field1 {x : Operand} {t : TypeId} {f : Nat} {fs : Array Field} {fd : Field} {d : TypeDesc} {cs : List Value} {v : Value} (hx : ev F x = .agg cs.toArray) (ht : P.underlying t = some (.struct fs))
    (hf : fs[f]? = some fd) (hfd : P.underlying fd.type = some d) (hd : aggD d = false) (he : cs[fd.offset]? = some v) :
    Run1 P F ⟨dst, .field t x f, ty, pos, after, g⟩ w v w := by
  unfold Run1; simp [execOp, hx, Instr.field, run_underlying ht, hf, asAgg, part, run_isAgg hfd, hd, he]
end
/-- A model as it goes on from a world. -/
structure MS (w0 w : World) (mb bm : Nat) (l : ModL) : Prop where
  m : ModW w mb bm l
  k : Keep All w0 w
  b : ∀ z, ModB bm l z → w0.heap.size ≤ z
theorem MS.keep {w0 w w' : World} {mb bm : Nat} {l : ModL} (h : MS w0 w mb bm l) (hk : Keep All w w') : MS w0 w' mb bm l := ⟨h.m.k hk, h.k.trans hk, h.b⟩
theorem MS.st {w0 w w' : World} {mb bm b : Nat} {l : ModL} {cs : List Value} {t : TypeId} (h : MS w0 w mb bm l) (hB : Blk w b cs t) (h1 : t ≠ 58) (h2 : t ≠ 63) (hk : Keep (· ≠ b) w w') (hb : w0.heap.size ≤ b) : MS w0 w' mb bm l :=
  ⟨h.m.st hB h1 h2 hk, h.k.new hk hb, h.b⟩
theorem MS.go {w0 w w' : World} {mb bm : Nat} {l l' : ModL} (h : MS w0 w mb bm l) (hS : ModS w mb bm l w' l') : MS w0 w' mb bm l' := by
  have hsz := h.k.size
  refine ⟨hS.1, ⟨hS.2.1.os.trans h.k.os, hS.2.1.tape.trans h.k.tape, hS.2.1.output.trans h.k.output, Nat.le_trans hsz hS.2.1.size, fun k hk _ => ?_⟩, fun z hz => ?_⟩
  · rw [hS.2.1.blk k (by omega) (fun hB => by have := h.b k hB; omega), h.k.blk k hk trivial]
  · rcases hS.2.2 z hz with h3 | h3
    · exact h.b z h3
    · omega
theorem MS.blk {w0 w w' : World} {mb bm b : Nat} {l l' : ModL} {cs : List Value} {t : TypeId} (h : MS w0 w mb bm l) (hS : ModS w mb bm l w' l') (hB : Blk w b cs t) : Blk w' b cs t := hS.2.1.blk' hB (neB h.m hB)
theorem look_put (l : AL) (nm : List UInt8) (bl : List (Int × Bk)) : lookP (putA l nm bl) nm = (lookP l nm).map fun v => { v with bl := bl } := by
  induction l with
  | nil => rfl
  | cons x l ih =>
    show lookP ((if x.1 = nm then (x.1, { x.2 with bl := bl }) else x) :: putA l nm bl) nm = (if x.1 = nm then some x.2 else lookP l nm).map _
    by_cases h : x.1 = nm
    · rw [if_pos h, if_pos h]
      show (if x.1 = nm then some { x.2 with bl := bl } else _) = _
      rw [if_pos h]; rfl
    · rw [if_neg h, if_neg h]
      show (if x.1 = nm then some x.2 else _) = _
      rw [if_neg h, ih]
def OpV.as (o : OpV) (k : Int) : OpV := { o with kind := k }
theorem doD_blk {l : AL} {o : OpV} (h : o.kind = 3 ∨ o.kind = 4 ∨ o.kind = 5) : doD l o = blockD l o := by
  unfold doD; rw [if_neg (by omega), if_neg (by omega), if_pos h]
theorem findD_ok {l : AL} {o : OpV} (h : findD l o = 0) : ∃ v, lookP l o.name = some v ∧ 0 ≤ o.number ∧ o.number < 1048576 ∧ (v.fr = true → o.kind = 5) := by
  unfold findD at h
  cases hv : lookP l o.name with
  | none => rw [hv] at h; cases h
  | some v =>
    rw [hv] at h
    simp only at h
    split at h
    · cases h
    · split at h
      · cases h
      · rename_i h1 h2
        exact ⟨v, rfl, by omega, by omega, fun hf => Classical.byContradiction fun hk => h2 ⟨hf, hk⟩⟩
theorem findD_to {l : AL} {o : OpV} {v : VA} (hv : lookP l o.name = some v) (h0 : 0 ≤ o.number) (h1 : o.number < 1048576) (hf : v.fr = true → o.kind = 5) : findD l o = 0 := by
  unfold findD
  rw [hv]
  show (if _ then _ else _) = _
  rw [if_neg (by omega), if_neg (fun h => h.2 (hf h.1))]
theorem blockD_ok {l : AL} {o : OpV} {v : VA} (h : findD l o = 0) (hv : lookP l o.name = some v) : blockD l o = if o.kind = 5 then (⟨0, (lookP v.bl o.number).isSome, (lookP v.bl o.number).getD Bk.zero⟩, l)
    else if o.kind = 4 then (Ans.no 0, putA l o.name (delP v.bl o.number))
    else if lookP v.bl o.number = none ∧ v.q ≤ v.bl.length then (Ans.no 8, l)
    else (Ans.no 0, putA l o.name (setP v.bl o.number o.block)) := by
  unfold blockD; rw [if_neg (by simp [h]), hv]
theorem blockD_err {l : AL} {o : OpV} (h : findD l o ≠ 0) : blockD l o = (Ans.no (findD l o), l) := if_pos h
/-- Behind a trim. -/
theorem trims {l : AL} {o : OpV} (h : (doD l (o.as 4)).1.e = 0) : (doD (doD l (o.as 4)).2 (o.as 5)) = (⟨0, false, Bk.zero⟩, (doD l (o.as 4)).2) ∧
    ((doD (doD l (o.as 4)).2 (o.as 3)).1.e = 8 ∧ (doD (doD (doD l (o.as 4)).2 (o.as 3)).2 (o.as 5)).1.t = false ∨
     (doD (doD l (o.as 4)).2 (o.as 3)).1.e = 0 ∧ (doD (doD (doD l (o.as 4)).2 (o.as 3)).2 (o.as 5)).1.t = true ∧ (doD (doD (doD l (o.as 4)).2 (o.as 3)).2 (o.as 5)).1.b = o.block) := by
  rw [doD_blk (o := o.as 4) (.inr (.inl rfl))] at h ⊢
  rw [doD_blk (l := (blockD l (o.as 4)).2) (o := o.as 5) (.inr (.inr rfl)), doD_blk (o := o.as 3) (.inl rfl), doD_blk (o := o.as 5) (.inr (.inr rfl))]
  have hf : findD l (o.as 4) = 0 := Classical.byContradiction fun hn => by rw [blockD_err hn] at h; exact hn h
  obtain ⟨v, hv, h0, h1, hfr⟩ := findD_ok hf
  have hfr : v.fr = false := by
    cases e : v.fr with
    | false => rfl
    | true => exact absurd (hfr e) (by show ¬ (4 : Int) = 5; decide)
  have e4 : blockD l (o.as 4) = (Ans.no 0, putA l o.name (delP v.bl o.number)) := by
    rw [blockD_ok hf hv, if_neg (by show ¬ (4 : Int) = 5; decide), if_pos (by rfl)]; rfl
  rw [e4]
  have hv4 : lookP (putA l o.name (delP v.bl o.number)) o.name = some { v with bl := delP v.bl o.number } := by
    rw [look_put, show lookP l o.name = some v from hv]; rfl
  have hg : lookP (delP v.bl o.number) o.number = none := by rw [lookP_del, if_pos rfl]
  have e5 : blockD (putA l o.name (delP v.bl o.number)) (o.as 5) = (⟨0, false, Bk.zero⟩, putA l o.name (delP v.bl o.number)) := by
    rw [blockD_ok (findD_to (o := o.as 5) hv4 h0 h1 fun _ => rfl) hv4, if_pos (by rfl)]
    show (Ans.mk 0 (lookP (delP v.bl o.number) o.number).isSome ((lookP (delP v.bl o.number) o.number).getD Bk.zero), _) = _
    rw [hg]; rfl
  refine ⟨e5, ?_⟩
  have e3 := blockD_ok (o := o.as 3) (findD_to (o := o.as 3) hv4 h0 h1 fun hh => by rw [show v.fr = true from hh] at hfr; cases hfr) hv4
  rw [if_neg (by show ¬ (3 : Int) = 5; decide), if_neg (by show ¬ (3 : Int) = 4; decide)] at e3
  change blockD (putA l o.name (delP v.bl o.number)) (o.as 3) = if lookP (delP v.bl o.number) o.number = none ∧ v.q ≤ ((delP v.bl o.number).length : Int) then (Ans.no 8, putA l o.name (delP v.bl o.number)) else (Ans.no 0, putA (putA l o.name (delP v.bl o.number)) o.name (setP (delP v.bl o.number) o.number o.block)) at e3
  by_cases hq : lookP (delP v.bl o.number) o.number = none ∧ v.q ≤ (delP v.bl o.number).length
  · rw [if_pos hq] at e3
    rw [e3]
    exact .inl ⟨rfl, by rw [e5]⟩
  · rw [if_neg hq] at e3
    rw [e3]
    refine .inr ⟨rfl, ?_⟩
    have hv3 : lookP (putA (putA l o.name (delP v.bl o.number)) o.name (setP (delP v.bl o.number) o.number o.block)) o.name = some { v with bl := setP (delP v.bl o.number) o.number o.block } := by
      rw [look_put, hv4]; rfl
    have e6 := blockD_ok (findD_to (o := o.as 5) hv3 h0 h1 fun _ => rfl) hv3
    rw [if_pos (by rfl)] at e6
    show (blockD (putA (putA l o.name (delP v.bl o.number)) o.name (setP (delP v.bl o.number) o.number o.block)) (o.as 5)).1.t = true ∧ (blockD (putA (putA l o.name (delP v.bl o.number)) o.name (setP (delP v.bl o.number) o.number o.block)) (o.as 5)).1.b = o.block
    rw [e6]
    show (lookP (setP (delP v.bl o.number) o.number o.block) o.number).isSome = true ∧ (lookP (setP (delP v.bl o.number) o.number o.block) o.number).getD Bk.zero = o.block
    rw [lookP_set, if_pos rfl]
    exact ⟨rfl, rfl⟩
end Go.Proofs.Ytkckphbdjkjfgaa.B
