/-
  model: Distinct.
-/
import Derived.Test.YtkckphbdjkjfgaaMod7
import Derived.Test.YtkckphbdjkjfgaaKeyB
namespace Go.Proofs.Ytkckphbdjkjfgaa.B
open Go
set_option linter.unusedVariables false
set_option maxHeartbeats 2000000
set_option maxRecDepth 100000
attribute [local irreducible] W OpsW OpsQ retP
/-- How many entries an iterator has still to tell. -/
def leftG (w : World) (r : Nat) : Nat := match w.heap[r]? with
  | some (.mapIter (some b) _ seen _) => (match w.heap[b]? with
    | some (.map es _) => (es.toList.filter fun e => !seen.contains e.born).length
    | _ => 0)
  | _ => 0
theorem IterG.left {α : Type} {kv : α → Value} {w : World} {r b : Nat} {l rem : List (α × Value)} (h : IterG kv w r b l rem) : leftG w r = rem.length := by
  obtain ⟨es, cl, seen, _, h1, h2, _, _, h3⟩ := h
  unfold leftG
  rw [h2]; simp only [h1]
  have := congrArg List.length h3
  simpa using this
theorem getA_keys {α : Type} [DecidableEq α] {k : α} : ∀ {l : List (α × Value)}, (getA l k).isSome = true ↔ k ∈ l.map (·.1)
  | [] => by simp [getA]
  | x :: l => by
    unfold getA
    by_cases h : x.1 = k
    · rw [if_pos h]; simp [h]
    · rw [if_neg h, getA_keys, List.map_cons, List.mem_cons]
      exact ⟨fun hh => .inr hh, fun hh => hh.elim (fun e => absurd e.symm h) id⟩
theorem setA_keys {α : Type} [DecidableEq α] {l : List (α × Value)} {k j : α} {v : Value} : j ∈ (setA l k v).map (·.1) ↔ j = k ∨ j ∈ l.map (·.1) := by
  rw [← getA_keys, getA_set, ← getA_keys]
  by_cases h : j = k
  · rw [if_pos h]; simp [h]
  · rw [if_neg h]; simp [h]
theorem mapP_at {α β γ : Type} {f : β → γ} {l : List (α × β)} {i : Nat} {x : α × γ} (h : (mapP f l)[i]? = some x) : ∃ y, l[i]? = some y ∧ x = (y.1, f y.2) := by
  unfold mapP at h
  rw [List.getElem?_map] at h
  cases hl : l[i]? with
  | none => rw [hl] at h; cases h
  | some y => rw [hl] at h; exact ⟨y, rfl, (Option.some.inj h).symm⟩
theorem mapP_erase {α β γ : Type} (f : β → γ) (l : List (α × β)) (i : Nat) : (mapP f l).eraseIdx i = mapP f (l.eraseIdx i) := (map_erase _ l i).symm
theorem erase_perm {α : Type} : ∀ {l : List α} {i : Nat} {x : α}, l[i]? = some x → (x :: l.eraseIdx i).Perm l
  | [], _, _, h => by cases h
  | y :: l, 0, x, h => by simp at h; subst h; exact List.Perm.refl _
  | y :: l, i + 1, x, h => by
    rw [List.getElem?_cons_succ] at h
    exact (List.Perm.swap y x _).trans (List.Perm.cons y (erase_perm h))
theorem perm_take {α : Type} {dn rem l : List α} {i : Nat} {x : α} (h : (dn ++ rem).Perm l) (hx : rem[i]? = some x) : ((dn ++ [x]) ++ rem.eraseIdx i).Perm l := by
  refine List.Perm.trans ?_ h
  rw [List.append_assoc]
  refine List.Perm.append_left dn ?_
  exact erase_perm hx
def blkK (s : Bk) : Value := arrK s.val
theorem keyOk_bk : KeyOk Try.prog 24 blkK := keyOk_arr rfl rfl (show tinfo Try.prog 5 = some (some (.int .u8 0), 1, 1) from by kernel_rfl)
structure DisO (w0 w' : World) (bm b1 r3 : Nat) (l rem dn : ModL) (m : List (Bk × Value)) : Prop where
  perm : (dn ++ rem).Perm l
  it : IterG strA w' r3 bm (mapP ptrV l) (mapP ptrV rem)
  mp : MapG blkK w' b1 m
  k : Keep All w0 w'
  b1r : b1 < r3
  r3l : r3 < w'.heap.size
  lo : w0.heap.size ≤ b1
theorem DisO.bm {w0 w' : World} {bm b1 r3 : Nat} {l rem dn : ModL} {m : List (Bk × Value)} (h : DisO w0 w' bm b1 r3 l rem dn m) (hb : bm < w0.heap.size) {w2 : World} (hk : Keep (· ≠ b1) w' w2) {m2 : List (Bk × Value)} (hm : MapG blkK w2 b1 m2) : DisO w0 w2 bm b1 r3 l rem dn m2 :=
  ⟨h.perm, h.it.keep hk (by have := h.lo; omega) (by have := h.b1r; omega), hm, h.k.new hk h.lo, h.b1r, by have := h.r3l; have := hk.size; omega, h.lo⟩
theorem DisO.step {w0 w' : World} {bm b1 r3 : Nat} {l rem dn : ModL} {m : List (Bk × Value)} (h : DisO w0 w' bm b1 r3 l rem dn m) {w2 : World} (hk : Keep All w' w2) : DisO w0 w2 bm b1 r3 l rem dn m :=
  ⟨h.perm, h.it.keep hk trivial trivial, h.mp.keep hk trivial, h.k.trans hk, h.b1r, by have := h.r3l; have := hk.size; omega, h.lo⟩
theorem md_Distinct (w : World) (mb bm : Nat) (l : ModL) (h : ModW w mb bm l) :
    Ret Try.prog 20 [.pointer (some ⟨mb, 0, none⟩)].toArray w fun r w' => (∃ ks : List Bk, ks.Nodup ∧ (∀ b, b ∈ ks ↔ ∃ x ∈ l, ∃ p ∈ x.2.bl, p.2 = b) ∧ r = .int .i64 ks.length) ∧ Keep All w w' := by
  have hbm := h.vs.lt
  refine enter (fn := Try.f20) (n := 31) Try.func20 rfl rfl (by simp) ?_
  refine W_seq ?_
  refine W_region ?_
  refine o_asc rfl ?_
  refine ops_nil ?_
  refine W_seq ?_
  refine W_region ?_
  refine o_makeMapG blkK rfl ?_; intro w1 b1 e1 hM1 hk1 hs1
  have h1 := h.k hk1
  refine o_ast rfl ?_
  refine ops_nil ?_
  refine W_seq ?_
  refine W_seq ?_
  refine W_region ?_
  refine o_mvt rfl ?_
  refine op_run (r_nilCheck rfl) rfl ?_
  refine op_run (r_fieldAddr rfl rfl rfl rfl rfl) rfl ?_
  refine op_run (r_load rfl rfl rfl (h1.m.cell rfl)) rfl ?_
  refine o_rangeG rfl rfl (h1.vs) rfl ?_; intro w3 r3 e3 hI3 hk3 hs3
  refine ops_nil ?_
  refine W_block ?_
  refine W_loop [] [5, 7, 14, 15, 16, 17, 18, 19, 20, 21, 22, 23, 24, 25, 26, 27, 28] (fun vs w' => ∃ (rem dn : ModL) (m : List (Bk × Value)), vs = [] ∧ DisO w w' bm b1 r3 l rem dn m ∧ ∀ b, b ∈ m.map (·.1) ↔ ∃ x ∈ dn, ∃ p ∈ x.2.bl, p.2 = b) (fun _ w' => leftG w' r3) ⟨l, [], [], rfl, ⟨List.Perm.refl _, hI3, hM1.keep hk3 trivial, hk1.trans hk3, by omega, by omega, by omega⟩, fun b => by simp⟩ ?_
  rintro J4 vs w4 ⟨rem, dn, m, rfl, hD, hK⟩ -
  refine W_cut [15] [14, 15] (fun vs w5 => ∃ tb, vs = [.bool tb] ∧ (tb = false → rem = [] ∧ w5 = w4) ∧ (tb = true → ∃ i x, rem[i]? = some x ∧ IterG strA w5 r3 bm (mapP ptrV l) (mapP ptrV (rem.eraseIdx i)) ∧ AtG w5 r3 bm (strA x.1) (ptrV x.2) ∧ Keep (· ≠ r3) w4 w5)) ?_ ?_
  · refine W_region ?_
    refine o_nextG rfl (hD.it) rfl (fun hn6 => ?_) (fun w6 i6 x6 hx6 hI6 hAt6 hk6 hs6 => ?_)
    · refine op_run (r_extract rfl rfl) rfl ?_
      refine ops_nil ?_
      exact ⟨by (repeat (first | with_reducible exact offM_refl _ _ | refine offM_updc rfl ?_ | refine offM_upd rfl ?_ | refine offM_updo rfl ?_ | refine offM_updo_none ?_ | refine offM_head rfl rfl ?_)), false, rfl, fun _ => ⟨by unfold mapP at hn6; simpa using hn6, rfl⟩, fun e => by cases e⟩
    · refine op_run (r_extract rfl rfl) rfl ?_
      refine ops_nil ?_
      obtain ⟨y6, hy6, rfl⟩ := mapP_at hx6
      exact ⟨by (repeat (first | with_reducible exact offM_refl _ _ | refine offM_updc rfl ?_ | refine offM_upd rfl ?_ | refine offM_updo rfl ?_ | refine offM_updo_none ?_ | refine offM_head rfl rfl ?_)), true, rfl, (fun e => by cases e), fun _ => ⟨i6, y6, hy6, by rw [← mapP_erase]; exact hI6, hAt6, hk6⟩⟩
  · rintro J9 vs w9 ⟨tb, rfl, hF, hT⟩ -
    refine W_seq ?_
    refine W_cond rfl (fun h10 => ?_) (fun h10 => ?_)
    · refine W_skip ?_
      refine W_block ?_
      refine W_seq ?_
      refine W_region ?_
      obtain ⟨i, x, hx, hI9, hAt9, hk9⟩ := hT h10
      have hxl : x ∈ l := (hD.perm.mem_iff).1 (List.mem_append.2 (.inr (List.mem_of_getElem? hx)))
      have hlo := hD.lo
      have hb1r := hD.b1r
      have hk09 := hD.k.new hk9 (by omega)
      have h9 := h.k hk09
      have hV := h9.v _ hxl
      have hD9 : DisO w w9 bm b1 r3 l (rem.eraseIdx i) (dn ++ [x]) m := ⟨perm_take hD.perm hx, hI9, hD.mp.keep hk9 (by omega), hk09, hb1r, by have := hD.r3l; have := hk9.size; omega, hlo⟩
      have hleft : leftG w9 r3 < leftG w4 r3 := by
        rw [hI9.left, hD.it.left]
        unfold mapP
        rw [List.length_map, List.length_map, List.length_eraseIdx_of_lt (List.getElem?_eq_some_iff.1 hx).1]
        have := (List.getElem?_eq_some_iff.1 hx).1
        omega
      refine op_run (r_entryG rfl (hAt9)) rfl ?_
      refine op_run (r_extract rfl rfl) rfl ?_
      refine o_ast rfl ?_
      refine ops_nil ?_
      refine W_seq ?_
      refine W_region ?_
      refine o_mvt rfl ?_
      refine op_run (r_nilCheck rfl) rfl ?_
      refine op_run (r_fieldAddr rfl rfl rfl rfl rfl) rfl ?_
      refine op_run (r_load rfl rfl rfl (hV.1.cell rfl)) rfl ?_
      refine o_rangeG rfl rfl (hV.2) rfl ?_; intro w13 r13 e13 hI13 hk13 hs13
      have hV13 := hV.k hk13
      have hxa : x.2.xa < w9.heap.size := hV.2.lt
      refine ops_nil ?_
      refine W_block ?_
      refine W_loop [] [7, 23, 24, 25, 26, 27, 28] (fun vs w' => ∃ (rem2 dn2 : List (Int × Bk)) (m : List (Bk × Value)), vs = [] ∧ DisO w w' bm b1 r3 l (rem.eraseIdx i) (dn ++ [x]) m ∧ (dn2 ++ rem2).Perm x.2.bl ∧ IterG intK w' r13 x.2.xa (mapP bkV x.2.bl) (mapP bkV rem2) ∧ r13 < w'.heap.size ∧ leftG w' r3 = leftG w9 r3 ∧ ∀ b, b ∈ m.map (·.1) ↔ (∃ x ∈ dn, ∃ p ∈ x.2.bl, p.2 = b) ∨ ∃ p ∈ dn2, p.2 = b) (fun _ w' => leftG w' r13) ⟨x.2.bl, [], m, rfl, hD9.step hk13, List.Perm.refl _, hI13, by omega, by rw [(hD9.step hk13).it.left, hD9.it.left], fun b => by rw [hK b]; simp⟩ ?_
      rintro J14 vs w14 ⟨rem2, dn2, m, rfl, hD14, hP2, hI14, hr14, hl14, hK14⟩ -
      refine W_cut [24] [23, 24] (fun vs w15 => ∃ tb, vs = [.bool tb] ∧ (tb = false → rem2 = [] ∧ w15 = w14) ∧ (tb = true → ∃ i p, rem2[i]? = some p ∧ IterG intK w15 r13 x.2.xa (mapP bkV x.2.bl) (mapP bkV (rem2.eraseIdx i)) ∧ AtG w15 r13 x.2.xa (intK p.1) (bkV p.2) ∧ Keep (· ≠ r13) w14 w15)) ?_ ?_
      · refine W_region ?_
        refine o_nextG rfl (hI14) rfl (fun hn16 => ?_) (fun w16 i16 x16 hx16 hI16 hAt16 hk16 hs16 => ?_)
        · refine op_run (r_extract rfl rfl) rfl ?_
          refine ops_nil ?_
          exact ⟨by (repeat (first | with_reducible exact offM_refl _ _ | refine offM_updc rfl ?_ | refine offM_upd rfl ?_ | refine offM_updo rfl ?_ | refine offM_updo_none ?_ | refine offM_head rfl rfl ?_)), false, rfl, fun _ => ⟨by unfold mapP at hn16; simpa using hn16, rfl⟩, fun e => by cases e⟩
        · refine op_run (r_extract rfl rfl) rfl ?_
          refine ops_nil ?_
          obtain ⟨y16, hy16, rfl⟩ := mapP_at hx16
          exact ⟨by (repeat (first | with_reducible exact offM_refl _ _ | refine offM_updc rfl ?_ | refine offM_upd rfl ?_ | refine offM_updo rfl ?_ | refine offM_updo_none ?_ | refine offM_head rfl rfl ?_)), true, rfl, (fun e => by cases e), fun _ => ⟨i16, y16, hy16, by rw [← mapP_erase]; exact hI16, hAt16, hk16⟩⟩
      · rintro J19 vs w19 ⟨tb2, rfl, hF2, hT2⟩ -
        refine W_seq ?_
        refine W_cond rfl (fun h20 => ?_) (fun h20 => ?_)
        · refine W_skip ?_
          refine W_block ?_
          refine W_seq ?_
          refine W_region ?_
          obtain ⟨i2, p, hp, hI19, hAt19, hk19⟩ := hT2 h20
          have hr13 : r3 < r13 := by have := hD9.r3l; omega
          have hxa13 : x.2.xa ≠ r13 := by omega
          have hD19 : DisO w w19 bm b1 r3 l (rem.eraseIdx i) (dn ++ [x]) m := ⟨hD14.perm, hD14.it.keep hk19 (by omega) (by omega), hD14.mp.keep hk19 (by omega), hD14.k.new hk19 (by omega), hb1r, by have := hD14.r3l; have := hk19.size; omega, hlo⟩
          refine op_run (r_entryG rfl (hAt19)) rfl ?_
          refine op_run (r_extract rfl rfl) rfl ?_
          refine o_alloc rfl rfl rfl ?_; intro w22 b22 e22 hB22 hk22 hs22
          refine o_storeA (cs := blkR p.2) rfl rfl (by first | rfl | exact binV_one _ | exact dgR_one _ | exact refR_one _ | exact secR_one _ | exact all_c8 _ | exact blkR_one _) (by first | rfl | (rw [binV_len]; rfl) | (rw [dgR_len]; rfl) | (rw [refR_len]; rfl) | (rw [secR_len]; rfl) | (rw [List.length_map, tagF_len]; rfl) | (rw [blkR_len]; rfl)) (show Blk w22 b22 (blkR Bk.zero) _ from hB22) (by exact Nat.le_of_eq (by simp [blkR_len])) rfl ?_; intro w23 hB23 hk23 hs23
          have hB23' : Blk w23 b22 (blkR p.2) 24 := by
            have h := hB23
            rwa [splice_all (by rw [blkR_len, blkR_len])] at h
          have hk23' := hk22.new hk23 (by omega)
          have hD23 := hD19.step hk23'
          refine ops_nil ?_
          refine W_region ?_
          refine o_mvt rfl ?_
          refine op_run (r_loadA (blkR p.2) rfl rfl rfl (by first | rfl | (rw [binV_len]; rfl) | (rw [dgR_len]; rfl) | (rw [refR_len]; rfl) | (rw [secR_len]; rfl) | (rw [List.length_map, tagF_len]; rfl) | (rw [blkR_len]; rfl)) (hB23'.all)) rfl ?_
          refine o_mapUpdG (a := p.2) (v := .bool true) (keyOk_bk) rfl rfl rfl rfl (hD23.mp) rfl ?_; intro w25 hM25 hk25 hs25
          refine ops_nil ?_
          have hxw : x.2.xa < w.heap.size := by have := (h.v _ hxl).2.lt; exact this
          have hD25 := hD23.bm hbm hk25 hM25
          have hI25 := (hI19.keep hk23' trivial trivial).keep hk25 (by omega) (by omega)
          refine ⟨by (repeat (first | with_reducible exact offM_refl _ _ | refine offM_updc rfl ?_ | refine offM_upd rfl ?_ | refine offM_updo rfl ?_ | refine offM_updo_none ?_ | refine offM_head rfl rfl ?_)), ⟨rem2.eraseIdx i2, dn2 ++ [p], _, rfl, hD25, perm_take hP2 hp, hI25, by have := hk19.size; have := hk23'.size; omega, ?_, fun b => ?_⟩, ?_⟩
          · rw [hD25.it.left, ← hl14, hD14.it.left]
          · rw [setA_keys, hK14 b]
            constructor
            · rintro (h | h | ⟨q, hq, h⟩)
              · exact .inr ⟨p, List.mem_append.2 (.inr (List.mem_singleton.2 rfl)), h.symm⟩
              · exact .inl h
              · exact .inr ⟨q, List.mem_append.2 (.inl hq), h⟩
            · rintro (h | ⟨q, hq, h⟩)
              · exact .inr (.inl h)
              · rcases List.mem_append.1 hq with hq | hq
                · exact .inr (.inr ⟨q, hq, h⟩)
                · rw [List.mem_singleton.1 hq] at h; exact .inl h.symm
          · rw [hI25.left, hI14.left]
            unfold mapP
            rw [List.length_map, List.length_map, List.length_eraseIdx_of_lt (List.getElem?_eq_some_iff.1 hp).1]
            have := (List.getElem?_eq_some_iff.1 hp).1
            omega
        · refine W_exit ?_
          obtain ⟨rfl, rfl⟩ := hF2 h20
          refine ⟨by (repeat (first | with_reducible exact offM_refl _ _ | refine offM_updc rfl ?_ | refine offM_upd rfl ?_ | refine offM_updo rfl ?_ | refine offM_updo_none ?_ | refine offM_head rfl rfl ?_)), ⟨rem.eraseIdx i, dn ++ [x], m, rfl, hD14, fun b => ?_⟩, by rw [hl14]; exact hleft⟩
          rw [hK14 b]
          rw [List.append_nil] at hP2
          constructor
          · rintro (⟨y, hy, h⟩ | ⟨p, hp, h⟩)
            · exact ⟨y, List.mem_append.2 (.inl hy), h⟩
            · exact ⟨x, List.mem_append.2 (.inr (List.mem_singleton.2 rfl)), p, hP2.mem_iff.1 hp, h⟩
          · rintro ⟨y, hy, p, hp, h⟩
            rcases List.mem_append.1 hy with hy | hy
            · exact .inl ⟨y, hy, p, hp, h⟩
            · rw [List.mem_singleton.1 hy] at hp
              exact .inr ⟨p, hP2.mem_iff.2 hp, h⟩
    · refine W_exit ?_
      refine W_seq ?_
      refine W_region ?_
      refine o_mvt rfl ?_
      obtain ⟨rfl, rfl⟩ := hF h10
      refine op_run (r_lenMapG rfl rfl (hD.mp)) rfl ?_
      refine o_ast rfl ?_
      refine ops_nil ?_
      refine W_ret ?_
      refine ret1 (.int .i64 m.length) rfl ?_ ?_; rfl
      have hP := hD.perm
      rw [List.append_nil] at hP
      refine ⟨⟨m.map (·.1), hD.mp.nodup, fun b => ?_, by rw [List.length_map]⟩, hD.k⟩
      rw [hK b]
      exact ⟨fun ⟨x, hx, h⟩ => ⟨x, hP.mem_iff.1 hx, h⟩, fun ⟨x, hx, h⟩ => ⟨x, hP.mem_iff.2 hx, h⟩⟩
end Go.Proofs.Ytkckphbdjkjfgaa.B
