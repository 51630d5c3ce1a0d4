/-
  model: Do: the list; Do of whatever kind.
-/
import Derived.Test.YtkckphbdjkjfgaaSrt
namespace Go.Proofs.Ytkckphbdjkjfgaa.B
open Go
set_option linter.unusedVariables false
set_option maxHeartbeats 2000000
set_option maxRecDepth 100000
attribute [local irreducible] W OpsW OpsQ retP
def ansS (e : Int) (t : Bool) (b : Bk) (s : Value) : List Value := [.int .i64 e, .bool t] ++ blkR b ++ [s]
theorem ansS_len (e : Int) (t : Bool) (b : Bk) (s : Value) : (ansS e t b s).length = 51 := by unfold ansS; rw [List.length_append, List.length_append, blkR_len]; rfl
theorem ansS_one {e : Int} {t : Bool} {b : Bk} {s : Value} (h : one s = true) : (ansS e t b s).all one = true := by
  unfold ansS; rw [List.all_append, List.all_append, blkR_one]; show (true && true && true && (one s && true)) = true; rw [h]; rfl
/-- What is asked of a model's volumes. -/
def SmallM (l : AL) : Prop := l.length ≤ 1000 ∧ ∀ x ∈ l, x.1.length ≤ 20
theorem abs_names (l : ModL) : (mapP ptrV l).map (·.1) = (abs l).map (·.1) := by rw [mapP_keys]; unfold abs; rw [mapP_keys]
theorem md_Do8 (w : World) (mb bm : Nat) (l : ModL) (o : OpV) (h : ModW w mb bm l) (hsm : SmallM (abs l)) (hk : o.kind = 8) :
    Ret Try.prog 11 [.pointer (some ⟨mb, 0, none⟩), .agg (opR o).toArray].toArray w fun r w' => ∃ s, r = .agg (ansS 0 false Bk.zero s).toArray ∧ Sl w' s l.length 1 ((sortS ((abs l).map (·.1))).map strA) ∧ InB (fun z => w.heap.size ≤ z) s ∧ ModS w mb bm l w' l := by
  have hl8 : ∀ x ∈ mapP ptrV l, x.1.length ≤ maxLen := fun x hx => by
    have : x.1 ∈ (mapP ptrV l).map (·.1) := List.mem_map.2 ⟨x, hx, rfl⟩
    rw [abs_names] at this
    obtain ⟨y, hy, e⟩ := List.mem_map.1 this
    have := hsm.2 y hy
    rw [e] at this
    unfold maxLen; omega
  have hlen : (mapP ptrV l).length = l.length := by unfold mapP; simp
  have hn8 : (mapP ptrV l).length ≤ 1000000 := by have := hsm.1; unfold abs mapP at this; rw [List.length_map] at this; omega
  refine enter (fn := Try.f11) (n := 67) Try.func11 rfl rfl (by simp) ?_
  refine W_seq ?_
  refine W_region ?_
  refine o_box rfl rfl rfl ?_; intro w1 b1 e1 hB1 hk1 hs1
  have hB1 : Blk w1 b1 (opR o) 26 := hB1
  refine o_alloc rfl rfl rfl ?_; intro w2 b2 e2 hB2 hk2 hs2
  have hB2 : Blk w2 b2 (ansR 0 false Bk.zero) 34 := hB2
  have hk02 := hk1.trans hk2
  have h2 := h.k hk02
  refine ops_nil ?_
  refine W_seq ?_
  refine W_seq ?_
  refine W_region ?_
  refine op_run (r_fieldAddr rfl rfl rfl rfl rfl) rfl ?_
  refine op_run (r_load rfl rfl rfl ((hk2.blk' hB1 trivial).cell rfl)) rfl ?_
  refine ops_nil ?_
  refine W_block ?_
  refine W_seq ?_
  refine W_region ?_
  refine op_run (r_eql rfl rfl) rfl ?_
  refine o_ast rfl ?_
  refine ops_nil ?_
  refine W_no rfl (decide_eq_false (by omega)) ?_
  refine W_seq ?_
  refine W_region ?_
  refine op_run (r_eql rfl rfl) rfl ?_
  refine o_ast rfl ?_
  refine ops_nil ?_
  refine W_no rfl (decide_eq_false (by omega)) ?_
  refine W_seq ?_
  refine W_seq ?_
  refine W_region ?_
  refine op_run (r_eql rfl rfl) rfl ?_
  refine o_ast rfl ?_
  refine ops_nil ?_
  refine W_no rfl (decide_eq_false (by omega)) ?_
  refine W_seq ?_
  refine W_region ?_
  refine op_run (r_eql rfl rfl) rfl ?_
  refine o_ast rfl ?_
  refine ops_nil ?_
  refine W_no rfl (decide_eq_false (by omega)) ?_
  refine W_region ?_
  refine op_run (r_eql rfl rfl) rfl ?_
  refine o_ast rfl ?_
  refine ops_nil ?_
  refine W_no rfl (decide_eq_false (by omega)) ?_
  refine W_seq ?_
  refine W_seq ?_
  refine W_region ?_
  refine op_run (r_eql rfl rfl) rfl ?_
  refine o_ast rfl ?_
  refine ops_nil ?_
  refine W_no rfl (decide_eq_false (by omega)) ?_
  refine W_region ?_
  refine op_run (r_eql rfl rfl) rfl ?_
  refine o_ast rfl ?_
  refine ops_nil ?_
  refine W_no rfl (decide_eq_false (by omega)) ?_
  refine W_seq ?_
  refine W_region ?_
  refine op_run (r_eql rfl rfl) rfl ?_
  refine o_ast rfl ?_
  refine ops_nil ?_
  refine W_yes rfl (decide_eq_true hk) ?_
  refine W_seq ?_
  refine W_region ?_
  refine o_mvt rfl ?_
  refine op_run (r_nilCheck rfl) rfl ?_
  refine op_run (r_fieldAddr rfl rfl rfl rfl rfl) rfl ?_
  refine op_run (r_load rfl rfl rfl (h2.m.cell rfl)) rfl ?_
  refine op_call rfl rfl rfl (sl_keysS w2 bm) ?_; rintro v140 w140 ⟨rfl, rfl⟩
  refine op_call rfl rfl rfl (sl_sortedS w2 bm _ h2.vs hl8 hn8) ?_; rintro v141 w141 ⟨hS, hI, hkS⟩
  obtain ⟨sa, sc, es, _, _⟩ := Sl.form hS
  subst es
  have hB2S := hkS.blk' hB2 trivial
  refine op_run (r_build (ansS 0 false Bk.zero (.slice sa (mapP ptrV l).length sc)) (_) ([(3, .slice sa (mapP ptrV l).length sc)]) rfl rfl rfl rfl rfl (rfl)) rfl ?_
  refine o_storeA (cs := ansS 0 false Bk.zero (.slice sa (mapP ptrV l).length sc)) rfl rfl (by first | rfl | exact binV_one _ | exact dgR_one _ | exact refR_one _ | exact secR_one _ | exact all_c8 _ | exact ansS_one rfl) (by first | rfl | (rw [binV_len]; rfl) | (rw [dgR_len]; rfl) | (rw [refR_len]; rfl) | (rw [secR_len]; rfl) | (rw [List.length_map, tagF_len]; rfl) | (rw [opR_len]; rfl) | (rw [ansR_len]; rfl) | (rw [ansS_len]; rfl)) hB2S (by rw [ansS_len]; decide) rfl ?_; intro w143 hB143 hk143 hs143
  have hB143' : Blk w143 b2 (ansS 0 false Bk.zero (.slice sa (mapP ptrV l).length sc)) 34 := by
    have h := hB143
    rwa [splice_all (by rw [ansR_len, ansS_len])] at h
  refine ops_nil ?_
  refine W_ret ?_
  refine retA (ansS 0 false Bk.zero (.slice sa (mapP ptrV l).length sc)) rfl rfl rfl rfl (by first | rfl | (rw [binV_len]; rfl) | (rw [dgR_len]; rfl) | (rw [refR_len]; rfl) | (rw [secR_len]; rfl) | (rw [List.length_map, tagF_len]; rfl) | (rw [opR_len]; rfl) | (rw [ansR_len]; rfl) | (rw [ansS_len]; rfl)) hB143'.all ?_
  rw [abs_names, hlen] at hS
  rw [hlen]
  rw [hlen] at hI
  have hsz := hk02.size
  have hsz2 := hkS.size
  have hb2 := hB2.lt
  refine ⟨_, rfl, hS.keep hk143 (fun z hz => ?_), hI.mono fun z hz => by omega, ModS.same h ((hk02.trans hkS).new hk143 (by omega))⟩
  have := hI z hz
  omega
/-- The names in an answer. -/
def NamesIn (w w' : World) (l : AL) (o : OpV) (s : Value) : Prop := (o.kind ≠ 8 → s = .slice none 0 0) ∧ (o.kind = 8 → Sl w' s l.length 1 ((sortS (l.map (·.1))).map strA) ∧ InB (fun z => w.heap.size ≤ z) s)
def DoQ (w : World) (mb bm : Nat) (l : ModL) (o : OpV) (r : Value) (w' : World) : Prop := (∃ s, r = .agg (ansS (doD (abs l) o).1.e (doD (abs l) o).1.t (doD (abs l) o).1.b s).toArray ∧ NamesIn w w' (abs l) o s) ∧ ∃ l', abs l' = (doD (abs l) o).2 ∧ ModS w mb bm l w' l'
theorem do_wrap {w : World} {mb bm : Nat} {l : ModL} {o : OpV} (hk : o.kind ≠ 8) (h : Ret Try.prog 11 [.pointer (some ⟨mb, 0, none⟩), .agg (opR o).toArray].toArray w fun r w' => r = (doD (abs l) o).1.v ∧ ∃ l', abs l' = (doD (abs l) o).2 ∧ ModS w mb bm l w' l') :
    Ret Try.prog 11 [.pointer (some ⟨mb, 0, none⟩), .agg (opR o).toArray].toArray w (DoQ w mb bm l o) := by
  refine Calls.mono h ?_
  rintro e w' ⟨v, rfl, rfl, h2⟩
  exact ⟨_, rfl, ⟨.slice none 0 0, rfl, fun _ => rfl, fun e => absurd e hk⟩, h2⟩
theorem md_Do (w : World) (mb bm : Nat) (l : ModL) (o : OpV) (h : ModW w mb bm l) (hs : o.small) (hsm : SmallM (abs l)) :
    Ret Try.prog 11 [.pointer (some ⟨mb, 0, none⟩), .agg (opR o).toArray].toArray w (DoQ w mb bm l o) := by
  by_cases h1 : o.kind = 1
  · exact do_wrap (by omega) (md_Do1 w mb bm l o h hs h1)
  by_cases h2 : o.kind = 2
  · exact do_wrap (by omega) (md_Do2 w mb bm l o h h2)
  by_cases h3 : o.kind = 3
  · exact do_wrap (by omega) (md_Do3 w mb bm l o h h3)
  by_cases h4 : o.kind = 4
  · exact do_wrap (by omega) (md_Do4 w mb bm l o h h4)
  by_cases h5 : o.kind = 5
  · exact do_wrap (by omega) (md_Do5 w mb bm l o h h5)
  by_cases h6 : o.kind = 6
  · exact do_wrap (by omega) (md_Do6 w mb bm l o h hs h6)
  by_cases h7 : o.kind = 7
  · exact do_wrap (by omega) (md_Do7 w mb bm l o h hs h7)
  by_cases h8 : o.kind = 8
  · refine Calls.mono (md_Do8 w mb bm l o h hsm h8) ?_
    rintro e w' ⟨v, rfl, s, rfl, hS, hI, hM⟩
    have e1 : doD (abs l) o = (Ans.no 0, abs l) := by
      unfold doD
      rw [if_neg (by omega), if_neg (by omega), if_neg (by omega), if_neg (by omega), if_pos h8]
    have e2 : (abs l).length = l.length := by unfold abs mapP; simp
    refine ⟨_, rfl, ⟨s, by rw [e1]; rfl, fun e => absurd h8 e, fun _ => ⟨by rw [e2]; exact hS, hI⟩⟩, l, by rw [e1], hM⟩
  · exact do_wrap h8 (md_DoX w mb bm l o h (by omega))
def SmallN (n : Nat) (l : AL) : Prop := l.length ≤ n ∧ ∀ x ∈ l, x.1.length ≤ 20
theorem SmallN.m {n : Nat} {l : AL} (h : SmallN n l) (hn : n ≤ 1000) : SmallM l := ⟨Nat.le_trans h.1 hn, h.2⟩
theorem SmallN.add {n : Nat} {l : AL} {nm : List UInt8} {v : VA} (h : SmallN n l) (hn : namedB nm) : SmallN (n + 1) (l ++ [(nm, v)]) := by
  refine ⟨by rw [List.length_append]; have := h.1; simp; omega, fun x hx => ?_⟩
  rcases List.mem_append.1 hx with hx | hx
  · exact h.2 x hx
  · rw [List.mem_singleton.1 hx]; exact hn.2.2
theorem SmallN.up {n : Nat} {l : AL} (h : SmallN n l) : SmallN (n + 1) l := ⟨Nat.le_succ_of_le h.1, h.2⟩
theorem SmallN.put {n : Nat} {l : AL} (h : SmallN n l) (nm : List UInt8) (bl : List (Int × Bk)) : SmallN n (putA l nm bl) := by
  refine ⟨by unfold putA; rw [List.length_map]; exact h.1, fun x hx => ?_⟩
  obtain ⟨y, hy, rfl⟩ := List.mem_map.1 hx
  have := h.2 y hy
  by_cases hn : y.1 = nm <;> simpa [hn] using this
theorem blockD_cases (l : AL) (o : OpV) : (blockD l o).2 = l ∨ ∃ bl, (blockD l o).2 = putA l o.name bl := by
  unfold blockD
  split
  · exact .inl rfl
  · split
    · exact .inl rfl
    · split
      · exact .inl rfl
      · split
        · exact .inr ⟨_, rfl⟩
        · split
          · exact .inl rfl
          · exact .inr ⟨_, rfl⟩
theorem small_step {n : Nat} {l : AL} (h : SmallN n l) (o : OpV) : SmallN (n + 1) (doD l o).2 := by
  unfold doD
  by_cases h1 : o.kind = 1
  · rw [if_pos h1]
    show SmallN (n + 1) (if _ then _ else _)
    split
    · rename_i he; exact h.add (addE_ok he).2.1
    · exact h.up
  rw [if_neg h1]
  by_cases h2 : o.kind = 2
  · rw [if_pos h2]
    split
    · exact SmallN.up ⟨Nat.le_trans (List.length_filter_le _ _) h.1, fun x hx => h.2 x (List.mem_filter.1 hx).1⟩
    · exact h.up
  rw [if_neg h2]
  by_cases h3 : o.kind = 3 ∨ o.kind = 4 ∨ o.kind = 5
  · rw [if_pos h3]
    rcases blockD_cases l o with e | ⟨bl, e⟩ <;> rw [e]
    · exact h.up
    · exact (h.put _ _).up
  rw [if_neg h3]
  by_cases h4 : o.kind = 6 ∨ o.kind = 7
  · rw [if_pos h4]
    show SmallN (n + 1) (copD l o).2
    cases hv : lookP l o.name with
    | none => rw [copD_none hv]; exact h.up
    | some v =>
      rw [copD_some hv]
      show SmallN (n + 1) (ite (addE l o.other (if o.kind = 6 then v.q else o.quota) 0 v.bl.length = 0) _ _)
      by_cases he : addE l o.other (if o.kind = 6 then v.q else o.quota) 0 v.bl.length = 0
      · rw [if_pos he]; exact h.add (addE_ok he).2.1
      · rw [if_neg he]; exact h.up
  rw [if_neg h4]
  split <;> exact h.up
theorem SmallN.nil : SmallN 0 [] := ⟨Nat.le_refl _, fun x hx => by cases hx⟩
/-- Operations, one behind the other. -/
def runD : AL → List OpV → AL
  | l, [] => l
  | l, o :: os => runD (doD l o).2 os
theorem runD_snoc (os : List OpV) (o : OpV) : ∀ l, runD l (os ++ [o]) = (doD (runD l os) o).2 := by
  induction os with
  | nil => intro l; rfl
  | cons x os ih => intro l; exact ih _
theorem small_run : ∀ (os : List OpV) (n : Nat) (l : AL), SmallN n l → SmallN (n + os.length) (runD l os)
  | [], _, _, h => h
  | o :: os, n, l, h => by
    have := small_run os (n + 1) _ (small_step h o)
    rw [show n + 1 + os.length = n + (o :: os).length by simp; omega] at this
    exact this
end Go.Proofs.Ytkckphbdjkjfgaa.B
