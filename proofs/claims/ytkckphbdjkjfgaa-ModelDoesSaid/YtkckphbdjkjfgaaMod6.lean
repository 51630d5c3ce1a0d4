/-
  model: Do.
-/
import Derived.Test.YtkckphbdjkjfgaaMod5
namespace Go.Proofs.Ytkckphbdjkjfgaa.B
open Go
set_option linter.unusedVariables false
set_option maxHeartbeats 2000000
set_option maxRecDepth 100000
attribute [local irreducible] W OpsW OpsQ retP
def findD (l : AL) (o : OpV) : Int := match lookP l o.name with
  | none => 5
  | some v => if o.number < 0 ∨ 1048576 ≤ o.number then 2 else if v.fr = true ∧ o.kind ≠ 5 then 10 else 0
def putA (l : AL) (nm : List UInt8) (bl : List (Int × Bk)) : AL := l.map fun x => if x.1 = nm then (x.1, { x.2 with bl := bl }) else x
def blockD (l : AL) (o : OpV) : Ans × AL :=
  if findD l o ≠ 0 then (Ans.no (findD l o), l) else
  match lookP l o.name with
  | none => (Ans.no 0, l)
  | some v =>
    if o.kind = 5 then (⟨0, (lookP v.bl o.number).isSome, (lookP v.bl o.number).getD Bk.zero⟩, l)
    else if o.kind = 4 then (Ans.no 0, putA l o.name (delP v.bl o.number))
    else if lookP v.bl o.number = none ∧ v.q ≤ v.bl.length then (Ans.no 8, l)
    else (Ans.no 0, putA l o.name (setP v.bl o.number o.block))
theorem findE_abs (l : ModL) (o : OpV) : findE l o = findD (abs l) o := by
  unfold findE findD
  rw [look_abs]
  cases lookP l o.name <;> rfl
theorem putV_abs (l : ModL) (nm : List UInt8) (bl : List (Int × Bk)) : abs (putV l nm bl) = putA (abs l) nm bl := by
  unfold abs mapP putV putA
  rw [List.map_map, List.map_map]
  apply List.map_congr_left
  intro x _
  show ((if x.1 = nm then (x.1, { x.2 with bl := bl }) else x).1, Vol.a (if x.1 = nm then (x.1, { x.2 with bl := bl }) else x).2) = (if x.1 = nm then (x.1, { Vol.a x.2 with bl := bl }) else (x.1, Vol.a x.2))
  by_cases h : x.1 = nm
  · rw [if_pos h, if_pos h]; rfl
  · rw [if_neg h, if_neg h]
theorem block_abs (l : ModL) (o : OpV) : (blockA l o).1 = (blockD (abs l) o).1 ∧ abs (blockA l o).2 = (blockD (abs l) o).2 := by
  unfold blockA blockD
  rw [← findE_abs, look_abs]
  by_cases h : findE l o ≠ 0
  · rw [if_pos h, if_pos h]; exact ⟨rfl, rfl⟩
  · rw [if_neg h, if_neg h]
    cases lookP l o.name with
    | none => exact ⟨rfl, rfl⟩
    | some v =>
      simp only [Option.map_some, Vol.a]
      by_cases h5 : o.kind = 5
      · rw [if_pos h5, if_pos h5]; exact ⟨rfl, rfl⟩
      · rw [if_neg h5, if_neg h5]
        by_cases h4 : o.kind = 4
        · rw [if_pos h4, if_pos h4]; exact ⟨rfl, putV_abs _ _ _⟩
        · rw [if_neg h4, if_neg h4]
          by_cases hq : lookP v.bl o.number = none ∧ v.q ≤ v.bl.length
          · rw [if_pos hq, if_pos hq]; exact ⟨rfl, rfl⟩
          · rw [if_neg hq, if_neg hq]; exact ⟨rfl, putV_abs _ _ _⟩
theorem block_S {w w' : World} {mb bm : Nat} {l : ModL} {o : OpV} (h : ModW w' mb bm (blockA l o).2) (hk : Keep (fun z => ¬ ModB bm l z) w w') : ModS w mb bm l w' (blockA l o).2 := by
  refine ⟨h, hk, fun z hz => .inl ?_⟩
  have : (blockA l o).2 = l ∨ ∃ bl, (blockA l o).2 = putV l o.name bl := by
    unfold blockA
    split
    · exact .inl rfl
    · split
      · exact .inl rfl
      · split
        · exact .inl rfl
        · split
          · exact .inr ⟨_, rfl⟩
          · split
            · exact .inl rfl
            · exact .inr ⟨_, rfl⟩
  rcases this with e | ⟨bl, e⟩ <;> rw [e] at hz
  · exact hz
  · exact putV_B.1 hz
def doD (l : AL) (o : OpV) : Ans × AL :=
  if o.kind = 1 then (Ans.no (addE l o.name o.quota 0 0), if addE l o.name o.quota 0 0 = 0 then l ++ [(o.name, ⟨o.quota, false, []⟩)] else l)
  else if o.kind = 2 then (if (lookP l o.name).isSome = true then (Ans.no 0, delP l o.name) else (Ans.no 5, l))
  else if o.kind = 3 ∨ o.kind = 4 ∨ o.kind = 5 then blockD l o
  else if o.kind = 6 ∨ o.kind = 7 then (Ans.no (copD l o).1, (copD l o).2)
  else if o.kind = 8 then (Ans.no 0, l)
  else (Ans.no 1, l)
theorem ModS.trans {w w1 w2 : World} {mb bm : Nat} {l l1 l2 : ModL} (h : ModS w mb bm l w1 l1) (h2 : ModS w1 mb bm l1 w2 l2) : ModS w mb bm l w2 l2 := by
  have hsz := h.2.1.size
  refine ⟨h2.1, ⟨h2.2.1.os.trans h.2.1.os, h2.2.1.tape.trans h.2.1.tape, h2.2.1.output.trans h.2.1.output, Nat.le_trans hsz h2.2.1.size, fun k hk hA => ?_⟩, fun z hz => ?_⟩
  · rw [h2.2.1.blk k (by omega) (fun hB => by rcases h.2.2 _ hB with h | h; exact hA h; omega), h.2.1.blk k hk hA]
  · rcases h2.2.2 z hz with h3 | h3
    · exact h.2.2 z h3
    · exact .inr (by omega)
theorem ModS.pre {w w1 w2 : World} {mb bm : Nat} {l l2 : ModL} (h : ModW w mb bm l) (hk : Keep All w w1) (h2 : ModS w1 mb bm l w2 l2) : ModS w mb bm l w2 l2 := (ModS.same h hk).trans h2
theorem ModS.post {w w1 w2 : World} {mb bm : Nat} {l l1 : ModL} (h1 : ModS w mb bm l w1 l1) (hk : Keep All w1 w2) : ModS w mb bm l w2 l1 := h1.trans (ModS.same h1.1 hk)
theorem Blk.ne_typ {w : World} {a b : Nat} {cs cs' : List Value} {t t' : TypeId} (h : Blk w a cs t) (h' : Blk w b cs' t') (ht : t ≠ t') : a ≠ b := fun e => by
  have h1 : w.heap[a]? = some (.cells cs.toArray t) := h
  have h2 : w.heap[b]? = some (.cells cs'.toArray t') := h'
  rw [e, h2] at h1
  have := Option.some.inj h1
  injection this with _ h3
  exact ht h3.symm
theorem ModW.st {w w' : World} {mb bm b : Nat} {l : ModL} {cs : List Value} {t : TypeId} (h : ModW w mb bm l) (hB : Blk w b cs t) (h1 : t ≠ 58) (h2 : t ≠ 63) (hk : Keep (· ≠ b) w w') : ModW w' mb bm l :=
  ⟨hk.blk' h.m (hB.ne_typ h.m h1).symm, h.vs.keep hk (hB.ne_map h.vs).symm, fun x hx => ⟨hk.blk' (h.v x hx).1 (hB.ne_typ (h.v x hx).1 h2).symm, (h.v x hx).2.keep hk (hB.ne_map (h.v x hx).2).symm⟩, h.nx, h.ap⟩
theorem ModS.st {w w1 w' : World} {mb bm b : Nat} {l l1 : ModL} {cs : List Value} {t : TypeId} (h : ModS w mb bm l w1 l1) (hB : Blk w1 b cs t) (h1 : t ≠ 58) (h2 : t ≠ 63) (hk : Keep (· ≠ b) w1 w') (hb : w.heap.size ≤ b) : ModS w mb bm l w' l1 :=
  ⟨h.1.st hB h1 h2 hk, h.2.1.new hk hb, h.2.2⟩
theorem ans_st {w : World} {b : Nat} {e e' : Int} {t t' : Bool} {k k' : Bk} (h : Blk w b (splice (ansR e t k) 0 (ansR e' t' k')) 34) : Blk w b (ansR e' t' k') 34 := by
  rwa [splice_all (by rw [ansR_len, ansR_len])] at h
theorem neB {w : World} {mb bm b : Nat} {l : ModL} {cs : List Value} {t : TypeId} (h : ModW w mb bm l) (hB : Blk w b cs t) : ¬ ModB bm l b := fun hz => by
  rcases hz with e | ⟨x, hx, e⟩
  · exact hB.ne_map h.vs e
  · exact hB.ne_map (h.v x hx).2 e
theorem md_Do1 (w : World) (mb bm : Nat) (l : ModL) (o : OpV) (h : ModW w mb bm l) (hs : o.small) (hk : o.kind = 1) :
    Ret Try.prog 11 [.pointer (some ⟨mb, 0, none⟩), .agg (opR o).toArray].toArray w fun r w' => r = (doD (abs l) o).1.v ∧ ∃ l', abs l' = (doD (abs l) o).2 ∧ ModS w mb bm l w' l' := by
  have hnl : o.name.length ≤ 2 ^ 40 := by have := hs.1; omega
  refine enter (fn := Try.f11) (n := 67) Try.func11 rfl rfl (by simp) ?_
  refine W_seq ?_
  refine W_region ?_
  refine o_box rfl rfl rfl ?_; intro w1 b1 e1 hB1 hk1 hs1
  have hB1 : Blk w1 b1 (opR o) 26 := hB1
  refine o_alloc rfl rfl rfl ?_; intro w2 b2 e2 hB2 hk2 hs2
  have hB2 : Blk w2 b2 (ansR 0 false Bk.zero) 34 := hB2
  have hk02 := hk1.trans hk2
  refine ops_nil ?_
  refine W_seq ?_
  refine W_seq ?_
  refine W_region ?_
  refine op_run (r_fieldAddr rfl rfl rfl rfl rfl) rfl ?_
  refine op_run (r_load rfl rfl rfl ((hk2.blk' hB1 trivial).cell rfl)) rfl ?_
  refine ops_nil ?_
  refine W_block ?_
  refine W_seq ?_
  refine W_region ?_
  refine op_run (r_eql rfl rfl) rfl ?_
  refine o_ast rfl ?_
  refine ops_nil ?_
  refine W_yes rfl (decide_eq_true hk) ?_
  refine W_seq ?_
  refine W_region ?_
  refine o_mvt rfl ?_
  refine op_run (r_fieldAddr rfl rfl rfl rfl rfl) rfl ?_
  refine op_run (r_load rfl rfl rfl ((hk2.blk' hB1 trivial).cell rfl)) rfl ?_
  refine op_run (r_fieldAddr rfl rfl rfl rfl rfl) rfl ?_
  refine op_run (r_load rfl rfl rfl ((hk2.blk' hB1 trivial).cell rfl)) rfl ?_
  refine o_makeMapG intK rfl ?_; intro w7 b7 e7 hM7 hk7 hs7
  refine op_run (r_build ([.int .i64 o.quota, .bool false, .map (some b7)]) (_) ([(0, .int .i64 o.quota), (2, .map (some b7))]) rfl rfl rfl rfl rfl (rfl)) rfl ?_
  refine o_box (cs := [.int .i64 o.quota, .bool false, .map (some b7)]) rfl rfl rfl ?_; intro w9 b9 e9 hB9 hk9 hs9
  have hkA := (hk02.trans hk7).trans hk9
  have hM9 := hM7.keep hk9 trivial
  refine op_call rfl rfl rfl (md_add w9 mb bm b9 l o.name o.quota 0 false (some b7) 0 (h.k hkA) hnl hB9 (fun _ => ⟨_, _, rfl, hM9, rfl⟩)) ?_; rintro v10 w10 ⟨rfl, hp1, hp2⟩
  obtain ⟨l', ha, hS⟩ := add_fin (v := ⟨o.quota, false, [], b9, b7⟩) h hkA ⟨hB9, hM9⟩ (by show w.heap.size ≤ b7; have := hk02.size; omega) hp1 hp2
  refine op_run (r_build (ansR (addE l o.name o.quota 0 0) false Bk.zero) (_) ([(0, .int .i64 (addE l o.name o.quota 0 0))]) rfl rfl rfl rfl rfl (rfl)) rfl ?_
  have hB2A : Blk w9 b2 (ansR 0 false Bk.zero) 34 := hk9.blk' (hk7.blk' hB2 trivial) trivial
  have hkX : Keep (· ≠ bm) w9 w10 := by
    by_cases he : addE l o.name o.quota 0 0 = 0
    · exact (hp2 he).2
    · exact (hp1 he).all
  have hB2C := hkX.blk' hB2A (hB2A.ne_map (h.k hkA).vs)
  refine o_storeA (cs := ansR (addE l o.name o.quota 0 0) false Bk.zero) rfl rfl (by first | rfl | exact binV_one _ | exact dgR_one _ | exact refR_one _ | exact secR_one _ | exact all_c8 _ | exact ansR_one _ _ _) (by first | rfl | (rw [binV_len]; rfl) | (rw [dgR_len]; rfl) | (rw [refR_len]; rfl) | (rw [secR_len]; rfl) | (rw [List.length_map, tagF_len]; rfl) | (rw [opR_len]; rfl) | (rw [ansR_len]; rfl) | (rw [blkR_len]; rfl)) hB2C (by rw [ansR_len]; decide) rfl ?_; intro w12 hB12 hk12 hs12
  refine ops_nil ?_
  refine W_ret ?_
  refine retA (ansR (addE l o.name o.quota 0 0) false Bk.zero) rfl rfl rfl rfl (by first | rfl | (rw [binV_len]; rfl) | (rw [dgR_len]; rfl) | (rw [refR_len]; rfl) | (rw [secR_len]; rfl) | (rw [List.length_map, tagF_len]; rfl) | (rw [opR_len]; rfl) | (rw [ansR_len]; rfl) | (rw [blkR_len]; rfl)) (ans_st hB12).all ?_
  unfold doD
  rw [if_pos hk, addE_abs]
  exact ⟨rfl, l', ha, hS.st hB2C (by decide) (by decide) hk12 (by omega)⟩
theorem md_DoX (w : World) (mb bm : Nat) (l : ModL) (o : OpV) (h : ModW w mb bm l) (hk : ¬ (1 ≤ o.kind ∧ o.kind ≤ 8)) :
    Ret Try.prog 11 [.pointer (some ⟨mb, 0, none⟩), .agg (opR o).toArray].toArray w fun r w' => r = (doD (abs l) o).1.v ∧ ∃ l', abs l' = (doD (abs l) o).2 ∧ ModS w mb bm l w' l' := by
  refine enter (fn := Try.f11) (n := 67) Try.func11 rfl rfl (by simp) ?_
  refine W_seq ?_
  refine W_region ?_
  refine o_box rfl rfl rfl ?_; intro w1 b1 e1 hB1 hk1 hs1
  have hB1 : Blk w1 b1 (opR o) 26 := hB1
  refine o_alloc rfl rfl rfl ?_; intro w2 b2 e2 hB2 hk2 hs2
  have hB2 : Blk w2 b2 (ansR 0 false Bk.zero) 34 := hB2
  have hk02 := hk1.trans hk2
  refine ops_nil ?_
  refine W_seq ?_
  refine W_seq ?_
  refine W_region ?_
  refine op_run (r_fieldAddr rfl rfl rfl rfl rfl) rfl ?_
  refine op_run (r_load rfl rfl rfl ((hk2.blk' hB1 trivial).cell rfl)) rfl ?_
  refine ops_nil ?_
  refine W_block ?_
  refine W_seq ?_
  refine W_region ?_
  refine op_run (r_eql rfl rfl) rfl ?_
  refine o_ast rfl ?_
  refine ops_nil ?_
  refine W_no rfl (decide_eq_false (by omega)) ?_
  refine W_seq ?_
  refine W_region ?_
  refine op_run (r_eql rfl rfl) rfl ?_
  refine o_ast rfl ?_
  refine ops_nil ?_
  refine W_no rfl (decide_eq_false (by omega)) ?_
  refine W_seq ?_
  refine W_seq ?_
  refine W_region ?_
  refine op_run (r_eql rfl rfl) rfl ?_
  refine o_ast rfl ?_
  refine ops_nil ?_
  refine W_no rfl (decide_eq_false (by omega)) ?_
  refine W_seq ?_
  refine W_region ?_
  refine op_run (r_eql rfl rfl) rfl ?_
  refine o_ast rfl ?_
  refine ops_nil ?_
  refine W_no rfl (decide_eq_false (by omega)) ?_
  refine W_region ?_
  refine op_run (r_eql rfl rfl) rfl ?_
  refine o_ast rfl ?_
  refine ops_nil ?_
  refine W_no rfl (decide_eq_false (by omega)) ?_
  refine W_seq ?_
  refine W_seq ?_
  refine W_region ?_
  refine op_run (r_eql rfl rfl) rfl ?_
  refine o_ast rfl ?_
  refine ops_nil ?_
  refine W_no rfl (decide_eq_false (by omega)) ?_
  refine W_region ?_
  refine op_run (r_eql rfl rfl) rfl ?_
  refine o_ast rfl ?_
  refine ops_nil ?_
  refine W_no rfl (decide_eq_false (by omega)) ?_
  refine W_seq ?_
  refine W_region ?_
  refine op_run (r_eql rfl rfl) rfl ?_
  refine o_ast rfl ?_
  refine ops_nil ?_
  refine W_no rfl (decide_eq_false (by omega)) ?_
  refine W_skip ?_
  refine W_seq ?_
  refine W_region ?_
  refine op_run (r_build (ansR 1 false Bk.zero) (_) ([(0, .int .i64 1)]) rfl rfl rfl rfl rfl (rfl)) rfl ?_
  refine o_storeA (cs := ansR 1 false Bk.zero) rfl rfl (by first | rfl | exact binV_one _ | exact dgR_one _ | exact refR_one _ | exact secR_one _ | exact all_c8 _ | exact ansR_one _ _ _) (by first | rfl | (rw [binV_len]; rfl) | (rw [dgR_len]; rfl) | (rw [refR_len]; rfl) | (rw [secR_len]; rfl) | (rw [List.length_map, tagF_len]; rfl) | (rw [opR_len]; rfl) | (rw [ansR_len]; rfl) | (rw [blkR_len]; rfl)) hB2 (by rw [ansR_len]; decide) rfl ?_; intro w146 hB146 hk146 hs146
  refine ops_nil ?_
  refine W_ret ?_
  refine retA (ansR 1 false Bk.zero) rfl rfl rfl rfl (by first | rfl | (rw [binV_len]; rfl) | (rw [dgR_len]; rfl) | (rw [refR_len]; rfl) | (rw [secR_len]; rfl) | (rw [List.length_map, tagF_len]; rfl) | (rw [opR_len]; rfl) | (rw [ansR_len]; rfl) | (rw [blkR_len]; rfl)) (ans_st hB146).all ?_
  unfold doD
  rw [if_neg (by omega), if_neg (by omega), if_neg (by omega), if_neg (by omega), if_neg (by omega)]
  exact ⟨rfl, l, rfl, ModS.same h (hk02.new hk146 (by omega))⟩
theorem md_Do3 (w : World) (mb bm : Nat) (l : ModL) (o : OpV) (h : ModW w mb bm l) (hk : o.kind = 3) :
    Ret Try.prog 11 [.pointer (some ⟨mb, 0, none⟩), .agg (opR o).toArray].toArray w fun r w' => r = (doD (abs l) o).1.v ∧ ∃ l', abs l' = (doD (abs l) o).2 ∧ ModS w mb bm l w' l' := by
  refine enter (fn := Try.f11) (n := 67) Try.func11 rfl rfl (by simp) ?_
  refine W_seq ?_
  refine W_region ?_
  refine o_box rfl rfl rfl ?_; intro w1 b1 e1 hB1 hk1 hs1
  have hB1 : Blk w1 b1 (opR o) 26 := hB1
  refine o_alloc rfl rfl rfl ?_; intro w2 b2 e2 hB2 hk2 hs2
  have hB2 : Blk w2 b2 (ansR 0 false Bk.zero) 34 := hB2
  have hk02 := hk1.trans hk2
  refine ops_nil ?_
  refine W_seq ?_
  refine W_seq ?_
  refine W_region ?_
  refine op_run (r_fieldAddr rfl rfl rfl rfl rfl) rfl ?_
  refine op_run (r_load rfl rfl rfl ((hk2.blk' hB1 trivial).cell rfl)) rfl ?_
  refine ops_nil ?_
  refine W_block ?_
  refine W_seq ?_
  refine W_region ?_
  refine op_run (r_eql rfl rfl) rfl ?_
  refine o_ast rfl ?_
  refine ops_nil ?_
  refine W_no rfl (decide_eq_false (by omega)) ?_
  refine W_seq ?_
  refine W_region ?_
  refine op_run (r_eql rfl rfl) rfl ?_
  refine o_ast rfl ?_
  refine ops_nil ?_
  refine W_no rfl (decide_eq_false (by omega)) ?_
  refine W_seq ?_
  refine W_seq ?_
  refine W_region ?_
  refine op_run (r_eql rfl rfl) rfl ?_
  refine o_ast rfl ?_
  refine ops_nil ?_
  refine W_yes rfl (decide_eq_true hk) ?_
  refine W_skip ?_
  refine W_yes rfl (decide_eq_true hk) ?_
  refine W_seq ?_
  refine W_region ?_
  refine o_mvt rfl ?_
  refine op_run (r_loadA (opR o) rfl rfl rfl (by first | rfl | (rw [binV_len]; rfl) | (rw [dgR_len]; rfl) | (rw [refR_len]; rfl) | (rw [secR_len]; rfl) | (rw [List.length_map, tagF_len]; rfl) | (rw [opR_len]; rfl) | (rw [ansR_len]; rfl) | (rw [blkR_len]; rfl)) ((hk2.blk' hB1 trivial).all)) rfl ?_
  refine op_call rfl rfl rfl (md_block w2 mb bm l o (h.k hk02)) ?_; rintro v35 w35 ⟨rfl, hm, hkb⟩
  have hB2C := hkb.blk' hB2 (neB (h.k hk02) hB2)
  refine o_storeA (cs := ansR (blockA l o).1.e (blockA l o).1.t (blockA l o).1.b) rfl rfl (by first | rfl | exact binV_one _ | exact dgR_one _ | exact refR_one _ | exact secR_one _ | exact all_c8 _ | exact ansR_one _ _ _) (by first | rfl | (rw [binV_len]; rfl) | (rw [dgR_len]; rfl) | (rw [refR_len]; rfl) | (rw [secR_len]; rfl) | (rw [List.length_map, tagF_len]; rfl) | (rw [opR_len]; rfl) | (rw [ansR_len]; rfl) | (rw [blkR_len]; rfl)) hB2C (by rw [ansR_len]; decide) rfl ?_; intro w36 hB36 hk36 hs36
  refine ops_nil ?_
  refine W_ret ?_
  refine retA (ansR (blockA l o).1.e (blockA l o).1.t (blockA l o).1.b) rfl rfl rfl rfl (by first | rfl | (rw [binV_len]; rfl) | (rw [dgR_len]; rfl) | (rw [refR_len]; rfl) | (rw [secR_len]; rfl) | (rw [List.length_map, tagF_len]; rfl) | (rw [opR_len]; rfl) | (rw [ansR_len]; rfl) | (rw [blkR_len]; rfl)) (ans_st hB36).all ?_
  unfold doD
  rw [if_neg (by omega), if_neg (by omega), if_pos (by omega), ← (block_abs l o).1, ← (block_abs l o).2]
  exact ⟨rfl, _, rfl, (ModS.pre h hk02 (block_S hm hkb)).st hB2C (by decide) (by decide) hk36 (by omega)⟩

theorem md_Do4 (w : World) (mb bm : Nat) (l : ModL) (o : OpV) (h : ModW w mb bm l) (hk : o.kind = 4) :
    Ret Try.prog 11 [.pointer (some ⟨mb, 0, none⟩), .agg (opR o).toArray].toArray w fun r w' => r = (doD (abs l) o).1.v ∧ ∃ l', abs l' = (doD (abs l) o).2 ∧ ModS w mb bm l w' l' := by
  refine enter (fn := Try.f11) (n := 67) Try.func11 rfl rfl (by simp) ?_
  refine W_seq ?_
  refine W_region ?_
  refine o_box rfl rfl rfl ?_; intro w1 b1 e1 hB1 hk1 hs1
  have hB1 : Blk w1 b1 (opR o) 26 := hB1
  refine o_alloc rfl rfl rfl ?_; intro w2 b2 e2 hB2 hk2 hs2
  have hB2 : Blk w2 b2 (ansR 0 false Bk.zero) 34 := hB2
  have hk02 := hk1.trans hk2
  refine ops_nil ?_
  refine W_seq ?_
  refine W_seq ?_
  refine W_region ?_
  refine op_run (r_fieldAddr rfl rfl rfl rfl rfl) rfl ?_
  refine op_run (r_load rfl rfl rfl ((hk2.blk' hB1 trivial).cell rfl)) rfl ?_
  refine ops_nil ?_
  refine W_block ?_
  refine W_seq ?_
  refine W_region ?_
  refine op_run (r_eql rfl rfl) rfl ?_
  refine o_ast rfl ?_
  refine ops_nil ?_
  refine W_no rfl (decide_eq_false (by omega)) ?_
  refine W_seq ?_
  refine W_region ?_
  refine op_run (r_eql rfl rfl) rfl ?_
  refine o_ast rfl ?_
  refine ops_nil ?_
  refine W_no rfl (decide_eq_false (by omega)) ?_
  refine W_seq ?_
  refine W_seq ?_
  refine W_region ?_
  refine op_run (r_eql rfl rfl) rfl ?_
  refine o_ast rfl ?_
  refine ops_nil ?_
  refine W_no rfl (decide_eq_false (by omega)) ?_
  refine W_seq ?_
  refine W_region ?_
  refine op_run (r_eql rfl rfl) rfl ?_
  refine o_ast rfl ?_
  refine ops_nil ?_
  refine W_yes rfl (decide_eq_true hk) ?_
  refine W_skip ?_
  refine W_yes rfl (decide_eq_true hk) ?_
  refine W_seq ?_
  refine W_region ?_
  refine o_mvt rfl ?_
  refine op_run (r_loadA (opR o) rfl rfl rfl (by first | rfl | (rw [binV_len]; rfl) | (rw [dgR_len]; rfl) | (rw [refR_len]; rfl) | (rw [secR_len]; rfl) | (rw [List.length_map, tagF_len]; rfl) | (rw [opR_len]; rfl) | (rw [ansR_len]; rfl) | (rw [blkR_len]; rfl)) ((hk2.blk' hB1 trivial).all)) rfl ?_
  refine op_call rfl rfl rfl (md_block w2 mb bm l o (h.k hk02)) ?_; rintro v74 w74 ⟨rfl, hm, hkb⟩
  have hB2C := hkb.blk' hB2 (neB (h.k hk02) hB2)
  refine o_storeA (cs := ansR (blockA l o).1.e (blockA l o).1.t (blockA l o).1.b) rfl rfl (by first | rfl | exact binV_one _ | exact dgR_one _ | exact refR_one _ | exact secR_one _ | exact all_c8 _ | exact ansR_one _ _ _) (by first | rfl | (rw [binV_len]; rfl) | (rw [dgR_len]; rfl) | (rw [refR_len]; rfl) | (rw [secR_len]; rfl) | (rw [List.length_map, tagF_len]; rfl) | (rw [opR_len]; rfl) | (rw [ansR_len]; rfl) | (rw [blkR_len]; rfl)) hB2C (by rw [ansR_len]; decide) rfl ?_; intro w75 hB75 hk75 hs75
  refine ops_nil ?_
  refine W_ret ?_
  refine retA (ansR (blockA l o).1.e (blockA l o).1.t (blockA l o).1.b) rfl rfl rfl rfl (by first | rfl | (rw [binV_len]; rfl) | (rw [dgR_len]; rfl) | (rw [refR_len]; rfl) | (rw [secR_len]; rfl) | (rw [List.length_map, tagF_len]; rfl) | (rw [opR_len]; rfl) | (rw [ansR_len]; rfl) | (rw [blkR_len]; rfl)) (ans_st hB75).all ?_
  unfold doD
  rw [if_neg (by omega), if_neg (by omega), if_pos (by omega), ← (block_abs l o).1, ← (block_abs l o).2]
  exact ⟨rfl, _, rfl, (ModS.pre h hk02 (block_S hm hkb)).st hB2C (by decide) (by decide) hk75 (by omega)⟩

theorem md_Do5 (w : World) (mb bm : Nat) (l : ModL) (o : OpV) (h : ModW w mb bm l) (hk : o.kind = 5) :
    Ret Try.prog 11 [.pointer (some ⟨mb, 0, none⟩), .agg (opR o).toArray].toArray w fun r w' => r = (doD (abs l) o).1.v ∧ ∃ l', abs l' = (doD (abs l) o).2 ∧ ModS w mb bm l w' l' := by
  refine enter (fn := Try.f11) (n := 67) Try.func11 rfl rfl (by simp) ?_
  refine W_seq ?_
  refine W_region ?_
  refine o_box rfl rfl rfl ?_; intro w1 b1 e1 hB1 hk1 hs1
  have hB1 : Blk w1 b1 (opR o) 26 := hB1
  refine o_alloc rfl rfl rfl ?_; intro w2 b2 e2 hB2 hk2 hs2
  have hB2 : Blk w2 b2 (ansR 0 false Bk.zero) 34 := hB2
  have hk02 := hk1.trans hk2
  refine ops_nil ?_
  refine W_seq ?_
  refine W_seq ?_
  refine W_region ?_
  refine op_run (r_fieldAddr rfl rfl rfl rfl rfl) rfl ?_
  refine op_run (r_load rfl rfl rfl ((hk2.blk' hB1 trivial).cell rfl)) rfl ?_
  refine ops_nil ?_
  refine W_block ?_
  refine W_seq ?_
  refine W_region ?_
  refine op_run (r_eql rfl rfl) rfl ?_
  refine o_ast rfl ?_
  refine ops_nil ?_
  refine W_no rfl (decide_eq_false (by omega)) ?_
  refine W_seq ?_
  refine W_region ?_
  refine op_run (r_eql rfl rfl) rfl ?_
  refine o_ast rfl ?_
  refine ops_nil ?_
  refine W_no rfl (decide_eq_false (by omega)) ?_
  refine W_seq ?_
  refine W_seq ?_
  refine W_region ?_
  refine op_run (r_eql rfl rfl) rfl ?_
  refine o_ast rfl ?_
  refine ops_nil ?_
  refine W_no rfl (decide_eq_false (by omega)) ?_
  refine W_seq ?_
  refine W_region ?_
  refine op_run (r_eql rfl rfl) rfl ?_
  refine o_ast rfl ?_
  refine ops_nil ?_
  refine W_no rfl (decide_eq_false (by omega)) ?_
  refine W_region ?_
  refine op_run (r_eql rfl rfl) rfl ?_
  refine o_ast rfl ?_
  refine ops_nil ?_
  refine W_yes rfl (decide_eq_true hk) ?_
  refine W_seq ?_
  refine W_region ?_
  refine o_mvt rfl ?_
  refine op_run (r_loadA (opR o) rfl rfl rfl (by first | rfl | (rw [binV_len]; rfl) | (rw [dgR_len]; rfl) | (rw [refR_len]; rfl) | (rw [secR_len]; rfl) | (rw [List.length_map, tagF_len]; rfl) | (rw [opR_len]; rfl) | (rw [ansR_len]; rfl) | (rw [blkR_len]; rfl)) ((hk2.blk' hB1 trivial).all)) rfl ?_
  refine op_call rfl rfl rfl (md_block w2 mb bm l o (h.k hk02)) ?_; rintro v112 w112 ⟨rfl, hm, hkb⟩
  have hB2C := hkb.blk' hB2 (neB (h.k hk02) hB2)
  refine o_storeA (cs := ansR (blockA l o).1.e (blockA l o).1.t (blockA l o).1.b) rfl rfl (by first | rfl | exact binV_one _ | exact dgR_one _ | exact refR_one _ | exact secR_one _ | exact all_c8 _ | exact ansR_one _ _ _) (by first | rfl | (rw [binV_len]; rfl) | (rw [dgR_len]; rfl) | (rw [refR_len]; rfl) | (rw [secR_len]; rfl) | (rw [List.length_map, tagF_len]; rfl) | (rw [opR_len]; rfl) | (rw [ansR_len]; rfl) | (rw [blkR_len]; rfl)) hB2C (by rw [ansR_len]; decide) rfl ?_; intro w113 hB113 hk113 hs113
  refine ops_nil ?_
  refine W_ret ?_
  refine retA (ansR (blockA l o).1.e (blockA l o).1.t (blockA l o).1.b) rfl rfl rfl rfl (by first | rfl | (rw [binV_len]; rfl) | (rw [dgR_len]; rfl) | (rw [refR_len]; rfl) | (rw [secR_len]; rfl) | (rw [List.length_map, tagF_len]; rfl) | (rw [opR_len]; rfl) | (rw [ansR_len]; rfl) | (rw [blkR_len]; rfl)) (ans_st hB113).all ?_
  unfold doD
  rw [if_neg (by omega), if_neg (by omega), if_pos (by omega), ← (block_abs l o).1, ← (block_abs l o).2]
  exact ⟨rfl, _, rfl, (ModS.pre h hk02 (block_S hm hkb)).st hB2C (by decide) (by decide) hk113 (by omega)⟩

end Go.Proofs.Ytkckphbdjkjfgaa.B
