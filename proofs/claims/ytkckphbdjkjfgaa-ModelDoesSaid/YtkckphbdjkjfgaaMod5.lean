/-
  model: copied; what is seen of a model.
-/
import Derived.Test.YtkckphbdjkjfgaaMod4
namespace Go.Proofs.Ytkckphbdjkjfgaa.B
open Go
set_option linter.unusedVariables false
set_option maxHeartbeats 2000000
set_option maxRecDepth 100000
attribute [local irreducible] W OpsW OpsQ retP
/-- A volume, as it is seen. -/
structure VA where
  q : Int
  fr : Bool
  bl : List (Int × Bk)
abbrev AL := List (List UInt8 × VA)
def Vol.a (v : Vol) : VA := ⟨v.q, v.fr, v.bl⟩
def abs (l : ModL) : AL := mapP Vol.a l
theorem look_abs (l : ModL) (k : List UInt8) : lookP (abs l) k = (lookP l k).map Vol.a := by
  unfold abs mapP
  induction l with
  | nil => rfl
  | cons x l ih =>
    show (if x.1 = k then some (Vol.a x.2) else lookP _ k) = (if x.1 = k then some x.2 else lookP l k).map Vol.a
    split
    · rfl
    · exact ih
theorem addE_abs (l : ModL) (nm : List UInt8) (q code : Int) (n : Nat) : addE (abs l) nm q code n = addE l nm q code n := by
  unfold addE; rw [look_abs, Option.isSome_map]
def copD (l : AL) (o : OpV) : Int × AL := match lookP l o.name with
  | none => (addE l o.other (if o.kind = 6 then 0 else o.quota) 5 0, l)
  | some v => (addE l o.other (if o.kind = 6 then v.q else o.quota) 0 v.bl.length, if addE l o.other (if o.kind = 6 then v.q else o.quota) 0 v.bl.length = 0 then l ++ [(o.other, ⟨if o.kind = 6 then v.q else o.quota, decide (o.kind = 6), v.bl⟩)] else l)
theorem copD_none {l : AL} {o : OpV} (h : lookP l o.name = none) : copD l o = (addE l o.other (if o.kind = 6 then 0 else o.quota) 5 0, l) := by unfold copD; rw [h]
theorem copD_some {l : AL} {o : OpV} {v : VA} (h : lookP l o.name = some v) : copD l o = (addE l o.other (if o.kind = 6 then v.q else o.quota) 0 v.bl.length, if addE l o.other (if o.kind = 6 then v.q else o.quota) 0 v.bl.length = 0 then l ++ [(o.other, ⟨if o.kind = 6 then v.q else o.quota, decide (o.kind = 6), v.bl⟩)] else l) := by unfold copD; rw [h]
/-- What a step leaves. -/
def ModS (w : World) (mb bm : Nat) (l : ModL) (w' : World) (l' : ModL) : Prop := ModW w' mb bm l' ∧ Keep (fun z => ¬ ModB bm l z) w w' ∧ ∀ z, ModB bm l' z → ModB bm l z ∨ w.heap.size ≤ z
theorem ModS.same {w w' : World} {mb bm : Nat} {l : ModL} (h : ModW w mb bm l) (hk : Keep All w w') : ModS w mb bm l w' l := ⟨h.k hk, hk.all, fun _ h => .inl h⟩
theorem add_fin {w wa w' : World} {mb bm : Nat} {l : ModL} {nm : List UInt8} {v : Vol} {e : Int} (h : ModW w mb bm l) (hkA : Keep All w wa) (hV : VolW wa v) (hx : w.heap.size ≤ v.xa)
    (h1 : e ≠ 0 → Keep All wa w') (h2 : e = 0 → MapG strA w' bm (mapP ptrV l ++ [(nm, ptrV v)]) ∧ Keep (· ≠ bm) wa w') : ∃ l', abs l' = (if e = 0 then abs l ++ [(nm, v.a)] else abs l) ∧ ModS w mb bm l w' l' := by
  by_cases he : e = 0
  · obtain ⟨h3, h4⟩ := h2 he
    have hlt : ∀ z, ModB bm l z → z ≠ v.xa := fun z hz e => by have := h.ltB hz; omega
    refine ⟨l ++ [(nm, v)], by rw [if_pos he]; unfold abs mapP; rw [List.map_append]; rfl, (h.k hkA).add ?_ h4 hV (fun e => hlt bm (.inl rfl) e.symm) (fun x hx' => hlt _ (.inr ⟨x, hx', rfl⟩)), ?_, ?_⟩
    · unfold mapP at h3 ⊢; rw [List.map_append]; exact h3
    · exact (hkA.all.trans h4).mono fun z _ hz e => hz (.inl e)
    · intro z hz
      rcases hz with hz | ⟨x, hx', hz⟩
      · exact .inl (.inl hz)
      · rcases List.mem_append.1 hx' with hx' | hx'
        · exact .inl (.inr ⟨x, hx', hz⟩)
        · rw [List.mem_singleton.1 hx'] at hz; exact .inr (by rw [hz]; exact hx)
  · exact ⟨l, by rw [if_neg he], ModS.same h (hkA.trans (h1 he))⟩
theorem addE_five {β : Type} (l : List (List UInt8 × β)) (nm : List UInt8) (q : Int) (n m : Nat) : addE l nm q 5 n = addE l nm q 5 m ∧ addE l nm q 5 n ≠ 0 := by
  unfold addE
  constructor
  · rfl
  · split
    · decide
    · rw [if_pos (by decide)]; decide
theorem md_copied (w : World) (mb bm : Nat) (l : ModL) (o : OpV) (h : ModW w mb bm l) (hs : o.small) :
    Ret Try.prog 26 [.pointer (some ⟨mb, 0, none⟩), .agg (opR o).toArray].toArray w fun r w' => r = .int .i64 (copD (abs l) o).1 ∧ ∃ l', abs l' = (copD (abs l) o).2 ∧ ModS w mb bm l w' l' := by
  obtain ⟨pv, th, hlk, hth⟩ := look_vol l o.name
  have hol : o.other.length ≤ 2 ^ 40 := by have := hs.2; omega
  refine enter (fn := Try.f26) (n := 63) Try.func26 rfl rfl (by simp) ?_
  refine W_seq ?_
  refine W_region ?_
  refine o_box rfl rfl rfl ?_; intro w1 b1 e1 hB1 hk1 hs1
  have hB1 : Blk w1 b1 (opR o) 26 := hB1
  have h1 := h.k hk1
  refine o_asc rfl ?_
  refine ops_nil ?_
  refine W_seq ?_
  refine W_quiet (Keep All w1) (by kernel_rfl) (by kernel_rfl) (Keep.drawn _) ?_
  refine q_mvt rfl ?_
  refine q_run (fun _ _ => (r_nilCheck rfl)) rfl ?_
  refine q_run (fun _ _ => (r_fieldAddr rfl rfl rfl rfl rfl)) rfl ?_
  refine q_run (fun _ hk => r_load rfl rfl rfl (hk.cell (h1.m.cell rfl) trivial)) rfl ?_
  refine q_run (fun _ _ => (r_fieldAddr rfl rfl rfl rfl rfl)) rfl ?_
  refine q_run (fun _ hk => r_load rfl rfl rfl (hk.cell (hB1.cell rfl) trivial)) rfl ?_
  refine q_run (fun _ hk => (r_lookupGok (a := o.name) (keyOk_strA rfl) rfl rfl rfl ti_ptrV ((h1.vs.keep hk trivial))).val (hlk)) rfl ?_
  refine q_mvt rfl ?_
  refine q_run (fun _ _ => (r_extract rfl rfl)) rfl ?_
  refine q_run (fun _ _ => (r_extract rfl rfl)) rfl ?_
  refine q_ast rfl ?_
  refine q_ast rfl ?_
  refine q_nil ?_; intro w6 hk6
  have hB16 := hk6.blk' hB1 trivial
  refine W_seq ?_
  refine W_region ?_
  refine op_run (r_fieldAddr rfl rfl rfl rfl rfl) rfl ?_
  refine op_run (r_load rfl rfl rfl (hB16.cell rfl)) rfl ?_
  refine op_run (r_fieldAddr rfl rfl rfl rfl rfl) rfl ?_
  refine op_run (r_load rfl rfl rfl (hB16.cell rfl)) rfl ?_
  refine op_run (r_eql rfl rfl) rfl ?_
  refine op_run (r_build ([.int .i64 o.quota, .bool (decide (o.kind = 6)), .map none]) (_) ([(0, .int .i64 o.quota), (1, .bool (decide (o.kind = 6)))]) rfl rfl rfl rfl rfl (rfl)) rfl ?_
  refine o_box (cs := [.int .i64 o.quota, .bool (decide (o.kind = 6)), .map none]) rfl rfl rfl ?_; intro w10 b10 e10 hB10 hk10 hs10
  have hb10 : w.heap.size ≤ b10 := by have := (hk1.trans hk6).size; omega
  have hb1 : b1 < b10 := by have := hk6.size; omega
  have hkA : Keep All w w10 := (hk1.trans hk6).trans hk10
  have hA := h.k hkA
  have hB1A := hk10.blk' hB16 trivial
  refine o_ast rfl ?_
  refine ops_nil ?_
  refine W_seq ?_
  refine W_seq ?_
  refine W_region ?_
  refine o_mvt rfl ?_
  refine op_run (r_not rfl) rfl ?_
  refine ops_nil ?_
  refine W_cond rfl (fun h11 => ?_) (fun h11 => ?_)
  · refine W_seq ?_
    refine W_seq ?_
    refine W_region ?_
    refine o_mvt rfl ?_
    refine op_run (r_nilCheck rfl) rfl ?_
    refine op_run (r_fieldAddr rfl rfl rfl rfl rfl) rfl ?_
    have hno : lookP l o.name = none := by
      rcases hth with ⟨_, hv⟩ | ⟨rfl, _⟩
      · exact hv
      · cases h11
    have hno' : lookP (abs l) o.name = none := by rw [look_abs, hno]; rfl
    refine op_run (r_load rfl rfl rfl (hB10.cell rfl)) rfl ?_
    refine ops_nil ?_
    refine W_cond_p rfl (fun h13 => ?_) (fun h13 => ?_)
    · refine W_region ?_
      refine o_mvt rfl ?_
      refine op_run (r_nilCheck rfl) rfl ?_
      refine op_run (r_fieldAddr rfl rfl rfl rfl rfl) rfl ?_
      refine o_store (v := (.int .i64 0)) rfl rfl rfl rfl hB10 (by show 0 < 3; decide) rfl ?_; intro w14 hB14 hk14 hs14
      refine ops_nil ?_
      refine W_seq ?_
      refine W_region ?_
      refine o_mvt rfl ?_
      refine op_run (r_fieldAddr rfl rfl rfl rfl rfl) rfl ?_
      refine op_run (r_load rfl rfl rfl ((hk14.blk' hB1A (show b1 ≠ b10 by omega)).cell rfl)) rfl ?_
      refine o_mvt rfl ?_
      refine op_call rfl rfl rfl (md_add w14 mb bm b10 l o.other 0 5 (decide (o.kind = 6)) none 0 (h.k (hkA.new hk14 (by omega))) hol hB14 (fun e => by cases e)) ?_; rintro v16 w16 ⟨rfl, hp1, hp2⟩
      refine o_ast rfl ?_
      refine ops_nil ?_
      refine W_ret ?_
      refine ret1 (.int .i64 (addE l o.other 0 5 0)) rfl ?_ ?_; rfl
      rw [copD_none hno', if_pos h13, addE_abs]
      exact ⟨rfl, l, rfl, ModS.same h ((hkA.new hk14 (by omega)).trans (hp1 (addE_five _ _ _ _ 0).2))⟩
    · refine W_skip ?_
      refine W_seq ?_
      refine W_region ?_
      refine o_mvt rfl ?_
      refine op_run (r_fieldAddr rfl rfl rfl rfl rfl) rfl ?_
      refine op_run (r_load rfl rfl rfl (hB1A.cell rfl)) rfl ?_
      refine o_mvt rfl ?_
      refine op_call rfl rfl rfl (md_add w10 mb bm b10 l o.other o.quota 5 (decide (o.kind = 6)) none 0 hA hol hB10 (fun e => by cases e)) ?_; rintro v19 w19 ⟨rfl, hp1, hp2⟩
      refine o_ast rfl ?_
      refine ops_nil ?_
      refine W_ret ?_
      refine ret1 (.int .i64 (addE l o.other o.quota 5 0)) rfl ?_ ?_; rfl
      rw [copD_none hno', if_neg h13, addE_abs]
      exact ⟨rfl, l, rfl, ModS.same h (hkA.trans (hp1 (addE_five _ _ _ _ 0).2))⟩
  · refine W_skip ?_
    refine W_seq ?_
    refine W_seq ?_
    refine W_region ?_
    refine o_mvt rfl ?_
    refine op_run (r_nilCheck rfl) rfl ?_
    refine op_run (r_fieldAddr rfl rfl rfl rfl rfl) rfl ?_
    obtain ⟨v, hv, rfl⟩ : ∃ v, lookP l o.name = some v ∧ pv = ptrV v := by
      rcases hth with ⟨rfl, _⟩ | ⟨_, h⟩
      · cases h11
      · exact h
    have hv' : lookP (abs l) o.name = some v.a := by rw [look_abs, hv]; rfl
    have hV : VolW w10 v := hA.v _ (lookP_mem hv)
    refine op_run (r_load rfl rfl rfl (hB10.cell rfl)) rfl ?_
    refine ops_nil ?_
    refine W_cond_p rfl (fun h22 => ?_) (fun h22 => ?_)
    · refine W_region ?_
      refine o_mvt rfl ?_
      refine o_mvt rfl ?_
      refine op_run (r_nilCheck rfl) rfl ?_
      refine op_run (r_fieldAddr rfl rfl rfl rfl rfl) rfl ?_
      refine op_run (r_load rfl rfl rfl (hV.1.cell rfl)) rfl ?_
      refine op_run (r_nilCheck rfl) rfl ?_
      refine op_run (r_fieldAddr rfl rfl rfl rfl rfl) rfl ?_
      refine o_store (v := (.int .i64 v.q)) rfl rfl rfl rfl hB10 (by show 0 < 3; decide) rfl ?_; intro w24 hB24 hk24 hs24
      have hkB := hkA.new hk24 (show w.heap.size ≤ b10 by omega)
      have hV24 : VolW w24 v := (h.k hkB).v _ (lookP_mem hv)
      have hB124 := hk24.blk' hB1A (show b1 ≠ b10 by omega)
      refine ops_nil ?_
      refine W_seq ?_
      refine W_region ?_
      refine o_mvt rfl ?_
      refine o_mvt rfl ?_
      refine op_run (r_nilCheck rfl) rfl ?_
      refine op_run (r_fieldAddr rfl rfl rfl rfl rfl) rfl ?_
      refine op_run (r_load rfl rfl rfl (hV24.1.cell rfl)) rfl ?_
      refine op_call rfl rfl rfl (md_Clone w24 v.xa _ hV24.2) ?_; rintro v26 w26 ⟨rfl, hM26, hk26⟩
      refine op_run (r_nilCheck rfl) rfl ?_
      refine op_run (r_fieldAddr rfl rfl rfl rfl rfl) rfl ?_
      refine o_store (v := (.map (some w24.heap.size))) rfl rfl rfl rfl (hk26.blk' hB24 trivial) (by show 2 < 3; decide) rfl ?_; intro w27 hB27 hk27 hs27
      have hkC := (hkB.trans hk26).new hk27 (show w.heap.size ≤ b10 by omega)
      have hlt := hB24.lt
      have hM27 := hM26.keep hk27 (show w24.heap.size ≠ b10 by omega)
      refine ops_nil ?_
      refine W_seq ?_
      refine W_region ?_
      refine o_mvt rfl ?_
      refine op_run (r_fieldAddr rfl rfl rfl rfl rfl) rfl ?_
      refine op_run (r_load rfl rfl rfl ((hk27.blk' (hk26.blk' hB124 trivial) (show b1 ≠ b10 by omega)).cell rfl)) rfl ?_
      refine o_mvt rfl ?_
      refine op_call rfl rfl rfl (md_add w27 mb bm b10 l o.other v.q 0 (decide (o.kind = 6)) (some w24.heap.size) v.bl.length (h.k hkC) hol hB27 (fun _ => ⟨_, _, rfl, hM27, by unfold mapP; simp⟩)) ?_; rintro v29 w29 ⟨rfl, hp1, hp2⟩
      refine o_ast rfl ?_
      refine ops_nil ?_
      refine W_ret ?_
      refine ret1 (.int .i64 (addE l o.other v.q 0 v.bl.length)) rfl ?_ ?_; rfl
      obtain ⟨l', ha, hS⟩ := add_fin (v := ⟨v.q, decide (o.kind = 6), v.bl, b10, w24.heap.size⟩) h hkC ⟨hB27, hM27⟩ (by have := hkB.size; show w.heap.size ≤ w24.heap.size; omega) hp1 hp2
      rw [copD_some hv']
      show _ = Value.int .i64 (addE (abs l) o.other (if o.kind = 6 then v.q else o.quota) 0 v.bl.length) ∧ _
      rw [if_pos h22, addE_abs]
      refine ⟨rfl, l', ?_, hS⟩
      rw [ha]
      show _ = if addE (abs l) o.other (if o.kind = 6 then v.q else o.quota) 0 v.bl.length = 0 then abs l ++ [(o.other, ⟨if o.kind = 6 then v.q else o.quota, decide (o.kind = 6), v.bl⟩)] else abs l
      rw [if_pos h22, addE_abs]; rfl
    · refine W_skip ?_
      refine W_seq ?_
      refine W_region ?_
      refine o_mvt rfl ?_
      refine o_mvt rfl ?_
      refine op_run (r_nilCheck rfl) rfl ?_
      refine op_run (r_fieldAddr rfl rfl rfl rfl rfl) rfl ?_
      refine op_run (r_load rfl rfl rfl (hV.1.cell rfl)) rfl ?_
      refine op_call rfl rfl rfl (md_Clone w10 v.xa _ hV.2) ?_; rintro v32 w32 ⟨rfl, hM32, hk32⟩
      refine op_run (r_nilCheck rfl) rfl ?_
      refine op_run (r_fieldAddr rfl rfl rfl rfl rfl) rfl ?_
      refine o_store (v := (.map (some w10.heap.size))) rfl rfl rfl rfl (hk32.blk' hB10 trivial) (by show 2 < 3; decide) rfl ?_; intro w33 hB33 hk33 hs33
      have hkC := (hkA.trans hk32).new hk33 (show w.heap.size ≤ b10 by omega)
      have hlt := hB10.lt
      have hM33 := hM32.keep hk33 (show w10.heap.size ≠ b10 by omega)
      refine ops_nil ?_
      refine W_seq ?_
      refine W_region ?_
      refine o_mvt rfl ?_
      refine op_run (r_fieldAddr rfl rfl rfl rfl rfl) rfl ?_
      refine op_run (r_load rfl rfl rfl ((hk33.blk' (hk32.blk' hB1A trivial) (show b1 ≠ b10 by omega)).cell rfl)) rfl ?_
      refine o_mvt rfl ?_
      refine op_call rfl rfl rfl (md_add w33 mb bm b10 l o.other o.quota 0 (decide (o.kind = 6)) (some w10.heap.size) v.bl.length (h.k hkC) hol hB33 (fun _ => ⟨_, _, rfl, hM33, by unfold mapP; simp⟩)) ?_; rintro v35 w35 ⟨rfl, hp1, hp2⟩
      refine o_ast rfl ?_
      refine ops_nil ?_
      refine W_ret ?_
      refine ret1 (.int .i64 (addE l o.other o.quota 0 v.bl.length)) rfl ?_ ?_; rfl
      obtain ⟨l', ha, hS⟩ := add_fin (v := ⟨o.quota, decide (o.kind = 6), v.bl, b10, w10.heap.size⟩) h hkC ⟨hB33, hM33⟩ (by have := hkA.size; show w.heap.size ≤ w10.heap.size; omega) hp1 hp2
      rw [copD_some hv']
      show _ = Value.int .i64 (addE (abs l) o.other (if o.kind = 6 then v.q else o.quota) 0 v.bl.length) ∧ _
      rw [if_neg h22, addE_abs]
      refine ⟨rfl, l', ?_, hS⟩
      rw [ha]
      show _ = if addE (abs l) o.other (if o.kind = 6 then v.q else o.quota) 0 v.bl.length = 0 then abs l ++ [(o.other, ⟨if o.kind = 6 then v.q else o.quota, decide (o.kind = 6), v.bl⟩)] else abs l
      rw [if_neg h22, addE_abs]; rfl
end Go.Proofs.Ytkckphbdjkjfgaa.B
