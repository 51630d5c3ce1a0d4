/-
  maps.Keys of maps with digests for keys; slices.Collect, slices.SortedFunc of these.
-/
import Derived.Test.YtkmciohghhffnaaCmp
import Derived.Test.YtkmciohghhffnaaRangeH
import Derived.Test.YtkmciohghhffnaaMapG
import Derived.Test.YtkmciohghhffnaaMLib
namespace Go.Proofs.Ytkmciohghhffnaa.B
open Go
set_option linter.unusedVariables false
set_option maxHeartbeats 2000000
set_option maxRecDepth 100000
attribute [local irreducible] W OpsW OpsQ retP
open Go.RowKit Go.Lib Go.Sort Go.Shelf
def kD (d : Dig) : Value := arrK d.val
theorem kD_eq (d : Dig) : kD d = .agg (dgR d).toArray := rfl
theorem keyOk_D : KeyOk Try.prog 41 kD := keyOk_arr (n := 32) Try.underlying41 Try.underlying5 ti_u8
/-- How many entries an iterator has still to tell. -/
def leftH (w : World) (r : Nat) : Nat := match w.heap[r]? with
  | some (.mapIter (some b) _ seen _) => (match w.heap[b]? with
    | some (.map es _) => (es.toList.filter fun e => !seen.contains e.born).length
    | _ => 0)
  | _ => 0
theorem IterG.leftH {α : Type} {kv : α → Value} {w : World} {r b : Nat} {l rem : List (α × Value)} (h : IterG kv w r b l rem) : leftH w r = rem.length := by
  obtain ⟨es, cl, seen, _, h1, h2, _, _, h3⟩ := h
  unfold B.leftH
  rw [h2]; simp only [h1]
  have := congrArg List.length h3
  simpa using this
theorem erase_permH {α : Type} : ∀ {l : List α} {i : Nat} {x : α}, l[i]? = some x → (x :: l.eraseIdx i).Perm l
  | [], _, _, h => by cases h
  | y :: l, 0, x, h => by simp at h; subst h; exact List.Perm.refl _
  | y :: l, i + 1, x, h => by
    rw [List.getElem?_cons_succ] at h
    exact (List.Perm.swap y x _).trans (List.Perm.cons y (erase_permH h))
theorem IterG.move {α : Type} {kv : α → Value} {w w' : World} {r b : Nat} {l rem : List (α × Value)} (h : IterG kv w r b l rem) (hb : ∀ o, w.heap[b]? = some o → w'.heap[b]? = some o) (hr : ∀ o, w.heap[r]? = some o → w'.heap[r]? = some o) : IterG kv w' r b l rem := by
  obtain ⟨es, cl, seen, h0, h1, h2, h3⟩ := h
  exact ⟨es, cl, seen, h0, hb _ h1, hr _ h2, h3⟩
/-- What stands while the keys are told. -/
def KeyR (c1 bm : Nat) (o : Obj) (w : World) : Prop := Blk w c1 [.map (some bm)] 81 ∧ w.heap[bm]? = some o
theorem kd_walk (l : List (Dig × Value)) (c1 bm : Nat) (o : Obj) (y : Nat) (J : List Dig → World → Prop) (Jx : World → Prop) (w : World) (hm1 : ∀ w1, KeyR c1 bm o w1 → MapG kD w1 bm l) (h1 : ∀ k w1, J k w1 → KeyR c1 bm o w1) (h2 : ∀ k w1 w2, J k w1 → Keep (· ≠ w.heap.size) w1 w2 → J k w2) (h3 : ∀ w1 w2, Jx w1 → Keep (· ≠ w.heap.size) w1 w2 → Jx w2)
    (h4 : ∀ k x w0 w1, J k w0 → w.heap.size < w0.heap.size → Keep (· ≠ w.heap.size) w0 w1 → k.length < l.length → YieldsB Try.prog y #[kD x] w1 fun b w2 => (b = true → J (k ++ [x]) w2 ∧ Keep (fun b => b = w.heap.size ∨ (w0.heap.size ≤ b ∧ b < w1.heap.size)) w1 w2) ∧ (b = false → Jx w2))
    (h5 : J [] w) : Ret Try.prog 74 [.func (.yield y) #[] #[], .pointer (some ⟨c1, 0, none⟩)].toArray w fun _ w' => (∃ k, k.Perm (l.map (·.1)) ∧ J k w') ∨ Jx w' := by
  have hR := h1 _ _ h5
  have hM := hm1 _ hR
  have hbml := hM.lt
  refine enter (fn := Try.f74) (n := 14) Try.func74 rfl rfl (by simp) ?_
  refine W_seq ?_
  refine W_region ?_
  refine op_run (r_load rfl rfl rfl (hR.1.cell rfl)) rfl ?_
  refine o_rangeG rfl rfl (hM) rfl ?_; intro w2 r2 e2 hI2 hk2 hs2
  subst e2
  refine ops_nil ?_
  refine W_block ?_
  refine W_loop [] [3, 6, 7, 8, 9, 10, 11, 12, 13] (fun vs w' => ∃ (ks : List Dig) (rem : List (Dig × Value)), vs = [] ∧ (ks ++ rem.map (·.1)).Perm (l.map (·.1)) ∧ IterG kD w' w.heap.size bm l rem ∧ J ks w' ∧ w.heap.size < w'.heap.size) (fun _ w' => leftH w' w.heap.size) ⟨[], l, rfl, List.Perm.refl _, hI2, h2 _ _ _ h5 (hk2.mono fun _ _ _ => trivial), by omega⟩ ?_
  rintro J3 vs w3 ⟨ks, rem, rfl, hP, hI3, hJ3, hz3⟩ -
  refine W_cut [7] [6, 7] (fun vs w4 => ∃ tb, vs = [.bool tb] ∧ (tb = false → rem = [] ∧ w4 = w3) ∧ (tb = true → ∃ i x, rem[i]? = some x ∧ IterG kD w4 w.heap.size bm l (rem.eraseIdx i) ∧ AtG w4 w.heap.size bm (kD x.1) x.2 ∧ Keep (· ≠ w.heap.size) w3 w4 ∧ w4.heap.size = w3.heap.size)) ?_ ?_
  · refine W_region ?_
    refine o_nextG rfl (hI3) rfl (fun hn5 => ?_) (fun w5 i5 x5 hx5 hI5 hAt5 hk5 hs5 => ?_)
    · refine op_run (r_extract rfl rfl) rfl ?_
      refine ops_nil ?_
      exact ⟨by (repeat (first | with_reducible exact offM_refl _ _ | refine offM_updc rfl ?_ | refine offM_upd rfl ?_ | refine offM_updo rfl ?_ | refine offM_updo_none ?_ | refine offM_head rfl rfl ?_)), false, rfl, (fun _ => ⟨hn5, rfl⟩), fun e => by cases e⟩
    · refine op_run (r_extract rfl rfl) rfl ?_
      refine ops_nil ?_
      exact ⟨by (repeat (first | with_reducible exact offM_refl _ _ | refine offM_updc rfl ?_ | refine offM_upd rfl ?_ | refine offM_updo rfl ?_ | refine offM_updo_none ?_ | refine offM_head rfl rfl ?_)), true, rfl, (fun e => by cases e), fun _ => ⟨i5, x5, hx5, hI5, hAt5, hk5, hs5⟩⟩
  · rintro J8 vs w8 ⟨tb, rfl, hF, hT⟩ -
    refine W_seq ?_
    refine W_cond rfl (fun h9 => ?_) (fun h9 => ?_)
    · refine W_skip ?_
      refine W_block ?_
      refine W_seq ?_
      refine W_region ?_
      obtain ⟨i, x, hx, hI8, hAt8, hk8, hz8⟩ := hT h9
      have hxl := (List.getElem?_eq_some_iff.1 hx).1
      have hle : ks.length + rem.length = l.length := by have := hP.length_eq; simpa using this
      have hJ8 := h2 _ _ _ hJ3 hk8
      refine op_run (r_entryG rfl (hAt8)) rfl ?_
      refine op_run (r_extract rfl rfl) rfl ?_
      refine o_alloc rfl rfl rfl ?_; intro w11 b11 e11 hB11 hk11 hs11
      have hB11' : Blk w11 b11 (List.replicate 32 (c8 0)) 41 := hB11
      refine o_storeA (cs := dgR x.1) rfl rfl (by first | rfl | exact binV_one _ | exact dgR_one _ | exact refR_one _ | exact secR_one _ | exact all_c8 _ | exact dgR_one _) (by first | rfl | (rw [binV_len]; rfl) | (rw [dgR_len]; rfl) | (rw [refR_len]; rfl) | (rw [secR_len]; rfl) | (rw [List.length_map, tagF_len]; rfl) | (rw [dgR_len]; rfl)) hB11' (by exact Nat.le_of_eq (by simp [dgR_len])) rfl ?_; intro w12 hB12 hk12 hs12
      have hB12' : Blk w12 b11 (dgR x.1) 41 := by
        have h := hB12
        rwa [splice_all (by rw [dgR_len]; rfl)] at h
      have hk12' : Keep All w8 w12 := hk11.new hk12 (by omega)
      refine ops_nil ?_
      refine W_seq ?_
      refine W_region ?_
      refine o_mvt rfl ?_
      refine op_run (r_loadA (dgR x.1) rfl rfl rfl (by first | rfl | (rw [binV_len]; rfl) | (rw [dgR_len]; rfl) | (rw [refR_len]; rfl) | (rw [secR_len]; rfl) | (rw [List.length_map, tagF_len]; rfl) | (rw [dgR_len]; rfl)) ((hB12'.all))) rfl ?_
      refine op_yield rfl rfl (h4 ks x.1 w8 w12 hJ8 (by omega) (hk12'.mono fun _ _ _ => trivial) (by omega)) ?_; rintro b14 w14 ⟨hT14, hF14⟩
      refine op_run (r_not rfl) rfl ?_
      refine ops_nil ?_
      refine W_cond rfl (fun h15 => ?_) (fun h15 => ?_)
      · refine W_ret ?_
        refine ret0' rfl ?_
        exact .inr (hF14 (by simpa using h15))
      · refine W_skip ?_
        obtain ⟨hJ14, hk14⟩ := hT14 (by simpa using h15)
        have hz12 := hk12'.size
        have hz14 := hk14.size
        have hI14 : IterG kD w14 w.heap.size bm l (rem.eraseIdx i) := hI8.move (fun o' ho => by
          have e1 := (h1 _ _ hJ8).2
          rw [e1] at ho
          rw [← ho]; exact (h1 _ _ hJ14).2) (fun o' ho => hk14.get (hk12'.get ho trivial) (.inl rfl))
        refine ⟨by (repeat (first | with_reducible exact offM_refl _ _ | refine offM_updc rfl ?_ | refine offM_upd rfl ?_ | refine offM_updo rfl ?_ | refine offM_updo_none ?_ | refine offM_head rfl rfl ?_)), ⟨ks ++ [x.1], rem.eraseIdx i, rfl, ?_, hI14, hJ14, by omega⟩, ?_⟩
        · refine List.Perm.trans ?_ hP
          rw [List.append_assoc]
          refine List.Perm.append_left ks ?_
          have h := (erase_permH hx).map (·.1)
          exact h
        · show leftH w14 w.heap.size < leftH w3 w.heap.size
          rw [hI14.leftH, hI3.leftH, List.length_eraseIdx_of_lt hxl]
          omega
    · refine W_exit ?_
      refine ret0 rfl ?_
      obtain ⟨hr, hw⟩ := hF h9
      subst hw
      refine .inl ⟨ks, ?_, hJ3⟩
      rw [hr, List.map_nil, List.append_nil] at hP
      exact hP
theorem kd_seq (l : List (Dig × Value)) (c1 bm : Nat) (o : Obj) (hm1 : ∀ w1, KeyR c1 bm o w1 → MapG kD w1 bm l) : SeqH Try.prog 74 #[.pointer (some ⟨c1, 0, none⟩)] (fun d : Dig => #[kD d]) l.length (fun k => k.Perm (l.map (·.1))) (KeyR c1 bm o) :=
  fun y J Jx w h1 h2 h3 h4 h5 => by have h := kd_walk l c1 bm o y J Jx w hm1 h1 h2 h3 h4 h5; simpa using h
theorem kd_Keys (w : World) (bm : Nat) : Ret Try.prog 45 [.map (some bm)].toArray w fun r w' => r = .func (.func 74) #[] #[.pointer (some ⟨w.heap.size, 0, none⟩)] ∧ Blk w' w.heap.size [.map (some bm)] 81 ∧ Keep All w w' ∧ w'.heap.size = w.heap.size + 1 := by
  refine enter (fn := Try.f45) (n := 4) Try.func45 rfl rfl (by simp) ?_
  refine W_seq ?_
  refine W_region ?_
  refine o_box rfl rfl rfl ?_; intro w1 b1 e1 hB1 hk1 hs1
  refine o_asc rfl ?_
  refine ops_nil ?_
  refine W_seq ?_
  refine W_region ?_
  refine op_run (r_makeFunc) rfl ?_
  refine o_ast rfl ?_
  refine ops_nil ?_
  refine W_ret ?_
  refine ret1 (.func (.func 74) #[] #[.pointer (some ⟨b1, 0, none⟩)]) rfl ?_ ?_; rfl
  subst e1
  exact ⟨rfl, hB1, hk1, hs1⟩
theorem ti_D : tinfo Try.prog 41 = some (some (.agg (List.replicate 32 (c8 0)).toArray), 32, 32) := by kernel_rfl
theorem Keep.low {B : Nat → Prop} {w w1 w2 : World} (h : Keep All w w1) (h2 : Keep B w1 w2) (hB : ∀ z, z < w.heap.size → B z) : Keep All w w2 :=
  (Keep.trans (A := fun z => z < w.heap.size) (h.mono fun _ _ _ => trivial) (h2.mono fun z _ hz => hB z hz)).mono fun _ hz _ => hz
/-- What stands while keys are gathered. -/
structure ApI (w : World) (b : Nat) (ks : List Dig) (u : Value) (w' : World) : Prop where
  b : Blk w' b [u] 92
  o : Own w' 41 32 u ks.length (rows dgR ks)
  i : InB (fun z => w.heap.size + 4 ≤ z) u
  k : Keep All w w'
  z : w.heap.size + 3 ≤ w'.heap.size
theorem sl_AppendD (w : World) (l : List (Dig × Value)) (c1 bm : Nat) (o : Obj) (hl : l.length ≤ 1000000) (hm1 : ∀ w1, KeyR c1 bm o w1 → MapG kD w1 bm l) (hR : KeyR c1 bm o w) :
    Ret Try.prog 88 [.slice none 0 0, .func (.func 74) #[] #[.pointer (some ⟨c1, 0, none⟩)]].toArray w fun r w' => ∃ ks : List Dig, ks.Perm (l.map (·.1)) ∧ Own w' 41 32 r ks.length (rows dgR ks) ∧ Keep All w w' ∧ InB (fun z => w.heap.size ≤ z) r := by
  have hc1 : c1 < w.heap.size := hR.1.lt
  have hbm : bm < w.heap.size := lt_of_get hR.2
  refine enterM (fn := Try.f88) (n := 13) Try.func88 rfl rfl (by simp) ?_
  refine W_seq ?_
  refine W_region ?_
  refine o_box rfl rfl rfl ?_; intro w1 b1 e1 hB1 hk1 hs1
  have hRk : ∀ w', Keep All w w' → KeyR c1 bm o w' := fun w' hk => ⟨hk.blk' hR.1 trivial, hk.get hR.2 trivial⟩
  refine o_asc rfl ?_
  refine ops_nil ?_
  refine W_seq2 ?_
  refine W2_seq ?_
  refine W_region ?_
  refine o_mvt rfl ?_
  refine ops_nil ?_
  refine W_rangeH rfl rfl (kd_seq l c1 bm o hm1) (fun x => rfl) (fun k w' => ∃ u, ApI w b1 k u w') (fun e w' => False) ?_ ?_ ?_ ?_ ?_ ?_ ?_ ?_
  · exact fun k w' ⟨u, h⟩ => hRk w' h.k
  · rintro k wa wb ⟨u, h⟩ hk
    exact ⟨u, hk.blk' h.b (by omega), h.o.keep hk (fun z hz => by have := h.i z hz; omega), h.i, h.k.low hk (fun z hz => by omega), by have := h.z; have := hk.size; omega⟩
  · exact fun e wa wb h _ => h.elim
  · intro w' hk hz
    exact ⟨.slice none 0 0, hk.blk' hB1 trivial, own_nil _ _ _, InB.nil, hk1.trans hk, by omega⟩
  · rintro k7 x7 w0_ w7 hI0_ hI7 hkW hN7 hs7
    refine W_region ?_
    obtain ⟨u, hA0⟩ := hI0_
    obtain ⟨u7, hA7⟩ := hI7
    have hub := hA0.o.lt
    have hB7 := hkW.blk' hA0.b (show b1 ≠ w1.heap.size + 2 by omega)
    have hO7 := hA0.o.keep hkW (fun z hz => by have := hA0.i z hz; omega)
    have hzW := hkW.size
    refine o_alloc rfl rfl rfl ?_; intro w8 b8 e8 hB8 hk8 hs8
    have hB8' : Blk w8 b8 (List.replicate 32 (c8 0)) 41 := hB8
    refine o_storeA (cs := dgR x7) rfl rfl (by first | rfl | exact binV_one _ | exact dgR_one _ | exact refR_one _ | exact secR_one _ | exact all_c8 _ | exact dgR_one _) (by first | rfl | (rw [binV_len]; rfl) | (rw [dgR_len]; rfl) | (rw [refR_len]; rfl) | (rw [secR_len]; rfl) | (rw [List.length_map, tagF_len]; rfl) | (rw [dgR_len]; rfl)) hB8' (by exact Nat.le_of_eq (by simp [dgR_len])) rfl ?_; intro w9 hB9 hk9 hs9
    have hB9' : Blk w9 b8 (dgR x7) 41 := by
      have h := hB9
      rwa [splice_all (by rw [dgR_len]; rfl)] at h
    have hk9' : Keep All w7 w9 := hk8.new hk9 (by omega)
    have hz9 := hk9'.size
    refine ops_nil ?_
    refine ⟨hk9'.mono fun _ _ _ => trivial, ?_⟩; intro w10 hk10 hs10
    have hB10 := hk10.blk' (hk9'.blk' hB7 trivial) (show b1 ≠ w1.heap.size + 1 by omega)
    have hO10 := (hO7.keep hk9' (fun _ _ => trivial)).keep hk10 (fun z hz => by have := hA0.i z hz; omega)
    refine W_block ?_
    refine W_region ?_
    refine op_run (r_load rfl rfl rfl (hB10.cell rfl)) rfl ?_
    refine op_run (r_loadA (dgR x7) rfl rfl rfl (by first | rfl | (rw [binV_len]; rfl) | (rw [dgR_len]; rfl) | (rw [refR_len]; rfl) | (rw [secR_len]; rfl) | (rw [List.length_map, tagF_len]; rfl) | (rw [dgR_len]; rfl)) ((hk10.blk' hB9' (show b8 ≠ w1.heap.size + 1 by omega)).all)) rfl ?_
    refine o_bsR dgR dgR_len [x7] rfl ti_D rfl rfl rfl rfl rfl rfl ?_; intro w13 b13 e13 hB13 hk13 hs13
    have hO13 := hO10.keep hk13 (fun _ _ => trivial)
    refine o_app (v := u) (c := 1) (m := k7.length) (k := 1) (rows dgR [x7]) rfl rfl rfl ti_D rfl (by decide) hO13 (by rw [rows_len dgR_len]; rfl) hB13.all (rows_one dgR_one _) (by unfold maxLen; omega) (by omega) rfl ?_; intro v14 w14 hown14 hk14 hb14
    have hB14 := hk14.blk' (hk13.blk' hB10 trivial) (fun e => by have := hA0.i _ e.symm; omega)
    obtain ⟨a14, c14, e14, _, _⟩ := hown14.form
    subst e14
    refine o_store (v := (.slice a14 (k7.length + 1) c14)) rfl rfl rfl rfl hB14 (by show 0 < 1; decide) rfl ?_; intro w15 hB15 hk15 hs15
    refine ops_nil ?_
    have hne14 : InB (· ≠ b1) (.slice a14 (k7.length + 1) c14) := fun z hz => by
      rcases hb14 z hz with h | h
      · have := hA0.i z h; omega
      · omega
    have hk1014 : Keep (fun b => some b ≠ u.ownBlock) w10 w14 := (hk13.mono fun _ _ _ => trivial).trans hk14
    refine ⟨?_, ⟨.slice a14 (k7.length + 1) c14, hB15, ?_, ?_, ?_, ?_⟩⟩
    · refine Keep.trans (hk1014.mono fun z _ hz => ?_) (hk15.mono fun z _ hz => ?_)
      · intro e
        have h1 := hA0.i z e.symm
        have h2 := hub z e.symm
        omega
      · omega
    · have h := hown14.keep hk15 hne14
      rw [List.length_append, rows_app]; exact h
    · intro z hz
      rcases hb14 z hz with h | h
      · exact hA0.i z h
      · omega
    · have h1 : Keep All w w10 := ((hA0.k.low hkW (fun z hz => by omega)).trans hk9').low hk10 (fun z hz => by omega)
      exact (h1.low hk1014 (fun z hz e => by have := hA0.i z e.symm; omega)).new hk15 (by omega)
    · have := hk13.size; have := hk14.size; have := hk15.size; have := hA0.z; omega
  · rintro w17 hI17 hD17
    refine W_seq ?_
    refine W_region ?_
    obtain ⟨ks, hP, u, hA⟩ : ∃ ks : List Dig, ks.Perm (l.map (·.1)) ∧ ∃ u, ApI w b1 ks u w17 := by
      rcases hI17 with ⟨ks, hP, h⟩ | h
      · exact ⟨ks, hP, h⟩
      · exact h.elim
    refine op_run (r_load rfl rfl rfl (hA.b.cell rfl)) rfl ?_
    refine o_ast rfl ?_
    refine ops_nil ?_
    refine W_ret ?_
    refine ⟨hD17, ?_⟩
    refine ret1 u rfl ?_ ?_; rfl
    have hkp := Keep.putObj w17 w1.heap.size (.deferred none)
    exact ⟨ks, hP, hA.o.keep hkp (fun z hz => by have := hA.i z hz; omega), hA.k.low hkp (fun z hz => by omega), hA.i.mono fun z hz => by omega⟩
  · rintro w21 hI21 hD21
    exact hI21.elim
  · exact fun j w1 h => h.elim
theorem sl_CollectD (w : World) (l : List (Dig × Value)) (c1 bm : Nat) (o : Obj) (hl : l.length ≤ 1000000) (hm1 : ∀ w1, KeyR c1 bm o w1 → MapG kD w1 bm l) (hR : KeyR c1 bm o w) :
    Ret Try.prog 72 [.func (.func 74) #[] #[.pointer (some ⟨c1, 0, none⟩)]].toArray w fun r w' => ∃ ks : List Dig, ks.Perm (l.map (·.1)) ∧ Own w' 41 32 r ks.length (rows dgR ks) ∧ Keep All w w' ∧ InB (fun z => w.heap.size ≤ z) r := by
  refine enter (fn := Try.f72) (n := 5) Try.func72 rfl rfl (by simp) ?_
  refine W_seq ?_
  refine W_region ?_
  refine o_asc rfl ?_
  refine ops_nil ?_
  refine W_seq ?_
  refine W_region ?_
  refine o_mvt rfl ?_
  refine op_call rfl rfl rfl (sl_AppendD w l c1 bm o hl hm1 hR) ?_; rintro v1 w1 ⟨ks, hP, hO, hk1, hi1⟩
  refine o_ast rfl ?_
  refine ops_nil ?_
  refine W_ret ?_
  refine ret1 v1 rfl ?_ ?_; rfl
  exact ⟨ks, hP, hO, hk1, hi1⟩
/-- The sort of digests. -/
theorem sl_SortFD (w : World) (v : Value) (l : List Dig) (h : Own w 41 32 v l.length (rows dgR l)) (hl : l.length ≤ 1000000) :
    Ret Try.prog 73 [v, .func (.func 38) #[] #[]].toArray w fun r w' => r = .tuple #[] ∧ Sl w' v l.length 32 (rows dgR (sortD l)) ∧ Keep (fun z => some z ≠ v.ownBlock) w w' := by
  have hsl : (sortD l).length = l.length := by unfold sortD; rw [List.length_mergeSort]
  rcases h.2 with ⟨rfl, h3⟩ | ⟨g, cap, cur, rfl, hb, hg, r1, r2, r3, r4⟩
  · have hl0 : l = [] := List.eq_nil_of_length_eq_zero h3
    subst hl0
    refine Calls.mono (AnyF.slices_SortFunc_none { Try.sortFD with } none 0 (.func (.func 38) #[] #[]) w) ?_
    rintro e w' ⟨rfl, rfl⟩
    exact ⟨_, rfl, rfl, by rw [show sortD [] = [] from by unfold sortD; simp]; exact Sl.nil _ _, Keep.refl _⟩
  · have hgl : g < w.heap.size := lt_of_get hg
    have hcell : ∀ (m : List Dig) (W : World), m.length = l.length → HoldsK dgR 32 W g 0 m.toArray → ∀ (i : Nat) (u : Value), (rows dgR m)[i]? = some u → W.cell? ⟨g, 0 + i, none⟩ = some u := fun m W hm hH i u hu => by
      have hi := (List.getElem?_eq_some_iff.1 hu).1
      rw [rows_len dgR_len] at hi
      have hiF : i < m.toArray.size * 32 := by simpa using hi
      have h1 := (hH i (by rw [size_flatK]; exact hiF)).1
      have e := rows_get dgR_len (l := m) (i := i / 32) (j := i % 32) (by omega) (Nat.mod_lt _ (by decide))
      rw [show i / 32 * 32 + i % 32 = i by omega, hu] at e
      rw [h1, get_flatK _ _ _ _ hiF]
      have e2 : m.toArray[i / 32]! = m[i / 32]'(by omega) := by
        rw [getElem!_pos m.toArray (i / 32) (by simpa using (show i / 32 < m.length by omega))]; simp
      rw [e2]
      show some ((dgR (m[i / 32]'(by omega)))[i % 32]!) = some u
      rw [List.getElem!_eq_getElem?_getD, ← e]; rfl
    have hB : Blk w g cur.toList 41 := by unfold Blk; simpa using hg
    have hH : HoldsK dgR 32 w g 0 l.toArray := fun j hj => by
      rw [size_flatK] at hj
      have hj' : j < l.length * 32 := by simpa using hj
      have e := rows_get dgR_len (l := l) (i := j / 32) (j := j % 32) (by omega) (Nat.mod_lt _ (by decide))
      rw [show j / 32 * 32 + j % 32 = j by omega] at e
      refine ⟨?_, by unfold World.frozen?; rw [hg]; simp⟩
      rw [get_flatK _ _ _ _ hj]
      have e2 : l.toArray[j / 32]! = l[j / 32]'(by omega) := by
        rw [getElem!_pos l.toArray (j / 32) (by simpa using (show j / 32 < l.length by omega))]; simp
      rw [e2]
      show w.cell? ⟨g, 0 + j, none⟩ = some ((dgR (l[j / 32]'(by omega)))[j % 32]!)
      have hlt : j % 32 < (dgR (l[j / 32]'(by omega))).length := by rw [dgR_len]; exact Nat.mod_lt _ (by decide)
      rw [List.getElem?_eq_getElem hlt] at e
      rw [getElem!_pos (dgR (l[j / 32]'(by omega))) (j % 32) hlt, Nat.zero_add]
      refine hB.cell ?_
      rw [← r4, List.getElem?_take, if_pos hj'] at e
      exact e
    refine Calls.mono (AnyQ.slices_SortFunc_total Try.sortFD 32 Try.isAgg41 Try.sizeOf41 dgR dgR_len (fun x v hv => by obtain ⟨b, _, rfl⟩ := List.mem_map.1 hv; rfl) cmpD swoD 38 #[] g 0 cap l.toArray w (enters_of Try.func38 (by kernel_rfl) rfl) (cmpLaysD g 0 _ w) hH hgl (by simpa using (show l.length < 4611686018427387904 by omega)) totD) ?_
    rintro e w' ⟨rfl, n, os, hw⟩
    have hs : (sortD l).toArray.size = l.toArray.size := by simpa using hsl
    have hH' := holdsK_sortWorldK_c dgR 32 w g 0 l.toArray (sortD l).toArray n os hH hgl hs
    have hw : w' = sortWorldK dgR 32 w g 0 n (sortD l).toArray os := hw
    rw [← hw] at hH'
    refine ⟨_, rfl, rfl, ⟨_, _, rfl, r1, r2, by rw [rows_len dgR_len, hsl], (fun e => by cases e), fun x hx i u hu => ?_⟩, ?_⟩
    · cases hx
      exact ⟨rfl, hcell _ _ hsl hH' i u hu⟩
    · rw [hw]
      have hkk : Keep (· ≠ g) w (sortWorldK dgR 32 w g 0 n (sortD l).toArray os) := ⟨rfl, rfl, rfl, size_sortWorldK_c dgR 32 w g 0 n _ os, fun k hk hne => by
        unfold sortWorldK
        rw [heap_grow_old _ _ (by show k < (w.heap.modify g _).size; rw [Array.size_modify]; exact hk)]
        show (w.heap.modify g _)[k]? = _
        rw [Array.getElem?_modify, if_neg (fun e => hne e.symm)]⟩
      exact hkk.mono fun z _ hz e => hz (by rw [e]; rfl)
theorem sl_SortedD (w : World) (l : List (Dig × Value)) (m : List Dig) (hpm : (l.map (·.1)).Perm m) (hm : m.Pairwise fun a b => a.val < b.val) (c1 bm : Nat) (o : Obj) (hl : l.length ≤ 1000000) (hm1 : ∀ w1, KeyR c1 bm o w1 → MapG kD w1 bm l) (hR : KeyR c1 bm o w) :
    Ret Try.prog 44 [.func (.func 74) #[] #[.pointer (some ⟨c1, 0, none⟩)], .func (.func 38) #[] #[]].toArray w fun r w' => Sl w' r m.length 32 (rows dgR m) ∧ Keep All w w' ∧ InB (fun z => w.heap.size ≤ z) r := by
  refine enter (fn := Try.f44) (n := 12) Try.func44 rfl rfl (by simp) ?_
  refine W_seq ?_
  refine W_region ?_
  refine o_asc rfl ?_
  refine ops_nil ?_
  refine W_seq ?_
  refine W_region ?_
  refine o_mvt rfl ?_
  refine op_call rfl rfl rfl (sl_CollectD w l c1 bm o hl hm1 hR) ?_; rintro v1 w1 ⟨ks, hP, hO, hk1, hi1⟩
  have hlen := (hP.trans hpm).length_eq
  have hlen2 := hpm.length_eq
  rw [List.length_map] at hlen2
  refine o_ast rfl ?_
  refine ops_nil ?_
  refine W_seq ?_
  refine W_region ?_
  refine o_mvt rfl ?_
  refine o_mvt rfl ?_
  refine op_call rfl rfl rfl (sl_SortFD w1 v1 ks hO (by omega)) ?_; rintro v2 w2 ⟨rfl, hS2, hk2⟩
  refine ops_nil ?_
  refine W_seq ?_
  refine W_region ?_
  refine o_mvt rfl ?_
  refine o_ast rfl ?_
  refine ops_nil ?_
  refine W_ret ?_
  refine ret1 v1 rfl ?_ ?_; rfl
  refine ⟨?_, hk1.low hk2 (fun z hz e => by have := hi1 z e.symm; omega), hi1⟩
  rw [sortD_perm (hP.trans hpm) hm, hlen] at hS2
  exact hS2
end Go.Proofs.Ytkmciohghhffnaa.B
