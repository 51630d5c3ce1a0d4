/-
  The document's tries: the nodes on the way to a key.
-/
import Derived.Test.YtpiidddccmohdaaTreU3
import Derived.Test.YtpiidddccmohdaaTreP
namespace Go.Proofs.Ytpiidddccmohdaa.B
open Go
set_option linter.unusedVariables false
set_option maxHeartbeats 2000000
set_option maxRecDepth 100000
attribute [local irreducible] W OpsW OpsQ retP
theorem AtI.stop {a r : List UInt8} {T : Tre} {l : List It} {y0 : It} {to : Nat} {key : Dig} (h : AtI a T l) (hy : y0 ∈ l) (hs : ShP l a.length to) (hk : nibs key.val = a ++ r)
    (hc : l.length = 1 ∨ ¬ ((nibs y0.1.val).drop a.length).take (to - a.length) = ((nibs key.val).drop a.length).take (to - a.length)) : wayT T r = [(T, r)] := by
  have hb := h.beg hy
  cases T with
  | no => rw [h.no] at hy; cases hy
  | leaf b v => rfl
  | branch b k =>
    have h2 := h.two
    obtain rfl := h.shared hs
    have hc := hc.resolve_left (by omega)
    rw [Nat.add_sub_cancel_left] at hc
    have hb : ((nibs y0.1.val).drop a.length).take b.length = b := hb
    rw [hb, hk, List.drop_left' rfl] at hc
    refine wayT_stop (Nat.lt_of_not_le fun hge => hc ?_)
    obtain ⟨t, rfl⟩ := comm_ge (beg := b) (r := r) (by omega)
    rw [List.take_left' rfl]
theorem AtI.go {a r : List UInt8} {T : Tre} {l : List It} {y0 : It} {to : Nat} {key : Dig} (h : AtI a T l) (hy : y0 ∈ l) (hs : ShP l a.length to) (hk : nibs key.val = a ++ r)
    (hc : ¬ (l.length = 1 ∨ ¬ ((nibs y0.1.val).drop a.length).take (to - a.length) = ((nibs key.val).drop a.length).take (to - a.length))) :
    ∃ b k y rs, T = .branch b k ∧ r = b ++ y :: rs ∧ to = a.length + b.length ∧ wayT T r = (T, r) :: wayT (k y.toNat) rs := by
  have hb := h.beg hy
  have hlen := congrArg List.length hk
  rw [nibs_len, key.2, List.length_append] at hlen
  cases T with
  | no => rw [h.no] at hy; cases hy
  | leaf b v => obtain ⟨x, rfl, _⟩ := h.leaf; exact absurd (Or.inl rfl) hc
  | branch b k =>
    have hto := h.shared hs
    have hbl := h.wf.1
    have hc : ((nibs y0.1.val).drop a.length).take (to - a.length) = ((nibs key.val).drop a.length).take (to - a.length) := Classical.byContradiction fun e => hc (.inr e)
    rw [hto, Nat.add_sub_cancel_left] at hc
    have hb : ((nibs y0.1.val).drop a.length).take b.length = b := hb
    rw [hb, hk, List.drop_left' rfl] at hc
    obtain ⟨t, ht⟩ : b <+: r := by rw [hc]; exact List.take_prefix _ _
    cases t with
    | nil => rw [List.append_nil] at ht; rw [← ht] at hlen; omega
    | cons y rs => subst ht; exact ⟨b, k, y, rs, rfl, rfl, hto, wayT_go⟩
theorem rf8_Prove (w : World) (v : Value) (T0 : Tre) (l : List It) (key : Dig) (hA0 : AtI [] T0 l) (hs0 : T0.short) (hv : ItIn w v l) (hl : l.length ≤ 2 ^ 20) : Ret Try.prog 12 [v, .agg (dgR key).toArray].toArray w fun r w' =>
    ∃ vs, Own w' 31 1 r vs.length vs ∧ RowsO w' w.heap.size vs (proveT T0 key) ∧ InB (fun z => w.heap.size ≤ z) r ∧ Keep All w w' := by
  obtain ⟨its0, hits1, hits2⟩ := hv
  obtain ⟨a0, c0, rfl, hc0, hcm0⟩ := hits1.form
  refine enter (fn := Try.f12) (n := 49) Try.func12 rfl rfl (by simp) ?_
  refine W_seq ?_
  refine W_region ?_
  refine o_box rfl rfl rfl ?_; intro w1 b1 e1 hB1 hk1 hs1
  have hB1 : Blk w1 b1 (dgR key) 30 := hB1
  refine o_asc rfl ?_
  refine ops_nil ?_
  refine W_seq ?_
  refine W_region ?_
  refine o_bs0 rfl rfl rfl ?_; intro w2 b2 e2 hB2 hk2 hs2
  refine o_ast rfl ?_
  refine ops_nil ?_
  refine W_seq ?_
  refine W_region ?_
  refine o_asc rfl ?_
  refine ops_nil ?_
  refine W_seq ?_
  refine W_block ?_
  refine W_loop [0, 5, 6] [0, 4, 5, 6, 7, 9, 10, 11, 12, 13, 14, 15, 16, 17, 18, 19, 20, 21, 22, 23, 24, 25, 26, 27, 28, 29, 30, 31, 32, 33, 34, 35, 36, 37, 38, 39, 40, 41, 42, 43, 44, 45, 46, 47] (fun vs w' => ∃ (T : Tre) (a r : List UInt8) (l' : List It) (its : List Iv) (vl u : Value) (us : List Value) (done : List (List UInt8)), vs = [vl, u, .int .i64 (a.length : Nat)] ∧ nibs key.val = a ++ r ∧ AtI a T l' ∧ T.short ∧ l'.length ≤ 2 ^ 20 ∧
      (∀ w'', Keep All w w'' → Keep (fun z => some z ≠ u.ownBlock) w' w'' → Sl w'' vl l'.length 33 (rows itR its)) ∧ Prs w its l' ∧ Own w' 31 1 u us.length us ∧ RowsO w' w1.heap.size us done ∧ InB (fun z => w1.heap.size ≤ z) u ∧ Keep All w1 w' ∧ us.length ≤ a.length ∧
      proveT T0 key = done ++ (wayT T r).map (fun x => nodeB x.1)) (fun vs _ => match vs with | [_, _, .int _ y] => 65 - y.toNat | _ => 0)
      ⟨T0, [], nibs key.val, l, its0, _, .slice (some ⟨b2, 0, none⟩) 0 0, [], [], rfl, rfl, hA0, hs0, hl, (fun w'' hk _ => Sl.k hits1 hk), hits2, Own.blk (n := 0) (sz := 1) hB2 rfl (Nat.zero_le _), trivial, (fun z hz => by have : b2 = z := Option.some.inj hz; omega), hk2, Nat.le_refl _, rfl⟩ ?_
  rintro J3 vs w3 ⟨T, a, r, l', its, vl, u, us, done, rfl, hkey, hA, hs, hl', hSl, hPr, hU, hR, hin, hkw, hul, hpv⟩ -
  have hkw3 : Keep All w w3 := hk1.trans hkw
  have hS3 := hSl w3 hkw3 (Keep.refl _)
  obtain ⟨al, cl, rfl, hcl0, hclm⟩ := hS3.form
  have hla := hA.la
  have hz1 := hk1.size
  refine W_seq ?_
  refine W_seq ?_
  refine W_region ?_
  refine o_mvt rfl ?_
  refine op_run (r_len rfl rfl rfl) rfl ?_
  refine op_run (r_gtr rfl rfl) rfl ?_
  refine ops_nil ?_
  refine W_cond_p rfl (fun h4 => ?_) (fun h4 => ?_)
  · refine W_skip ?_
    refine W_block ?_
    refine W_seq ?_
    refine W_region ?_
    refine o_mvt rfl ?_
    refine o_mvt rfl ?_
    refine o_mvt rfl ?_
    have hne : l' ≠ [] := fun e => by rw [e] at h4; simp at h4
    have hT : T ≠ .no := fun e => by rw [e] at hA; exact hne hA.no
    obtain ⟨y0, hy0⟩ : ∃ y, l'[0]? = some y := by cases l' with
      | nil => exact absurd rfl hne
      | cons x l => exact ⟨x, rfl⟩
    have hm0 := List.mem_of_getElem? hy0
    refine op_call rfl rfl rfl (rf8_Node T hT a l' w3 _ hA hs ⟨its, hS3, Prs.k hkw3 hPr⟩ hl') ?_; rintro v5 w5 ⟨hO5, hin5, hk5⟩
    have hone5 := hO5.one1
    refine o_bs1 (v := v5) rfl hone5 rfl rfl rfl rfl ?_; intro w6 b6 e6 hB6 hk6 hs6
    have hk36 := hk5.trans hk6
    have hO6 : OwnB w6 5 v5 (nodeB T) := hO5.keep hk6 (fun _ _ => trivial)
    refine o_appS (v := u) (news := [v5]) rfl rfl (Own.blk (n := 1) (sz := 1) hB6 rfl (by unfold maxLen; omega)).sl rfl ti_bssP rfl rfl (hU.keep hk36 (fun _ _ => trivial)) (by simp [hone5]) (by unfold maxLen; omega) (by omega) rfl ?_; intro v7 w7 hown7 hk7 hb7
    have hkw7 : Keep All w w7 := (hkw3.trans hk36).own hk7 (fun z hz _ => by have := hin z hz; omega)
    have hkA7 : Keep All w1 w7 := (hkw.trans hk36).own hk7 (fun z hz _ => hin z hz)
    have hk37 : Keep (fun z => some z ≠ u.ownBlock) w3 w7 := (hk36.mono fun _ _ _ => trivial).trans hk7
    have hS7 := hSl w7 hkw7 hk37
    have hIt7 : ItIn w7 (.slice al l'.length cl) l' := ⟨its, hS7, Prs.k hkw7 hPr⟩
    have hz36 := (hkw.trans hk36).size
    have hin7 : InB (fun z => w1.heap.size ≤ z) v7 := fun z hz => by
      rcases hb7 z hz with h | h
      · exact hin z h
      · omega
    have hR7 : RowsO w7 w1.heap.size (us ++ [v5]) (done ++ [nodeB T]) := RowsO.k hk7 (fun v b z ho _ hz => own_ne ho (hU.keep hk36 (fun _ _ => trivial)) ne_rows hz) (RowsO.snoc hO6 (hin5.mono fun z hz => by have hz : w3.heap.size ≤ z := hz; have := hkw.size; show w1.heap.size ≤ z; omega) (RowsO.k hk36 (fun _ _ _ _ _ _ => trivial) hR))
    have hU7 : Own w7 31 1 v7 (us ++ [v5]).length (us ++ [v5]) := by rw [List.length_append]; exact hown7
    have hB17 := hkA7.blk' hB1 trivial
    refine o_ast rfl ?_
    refine ops_nil ?_
    refine W_seq ?_
    refine W_region ?_
    refine o_mvt rfl ?_
    refine o_mvt rfl ?_
    refine op_call rfl rfl rfl (rf8_Shared w7 _ l' a.length hla hIt7 hne (by omega)) ?_; rintro v8 w8 ⟨⟨to, rfl, hto⟩, hk8⟩
    obtain ⟨b, off, c, vv, ev_, hby, hc⟩ := (hIt7.k hk8).at hy0
    cases ev_
    refine o_ast rfl ?_
    refine ops_nil ?_
    refine W_seq ?_
    refine W_cut [38] [21, 22, 23, 24, 25, 26, 27, 28, 29, 30, 31, 32, 33, 34, 35, 36, 37, 38] (fun vs w9 => vs = [.bool (decide (l'.length = 1 ∨ ¬ ((nibs y0.1.val).drop a.length).take (to - a.length) = ((nibs key.val).drop a.length).take (to - a.length)))] ∧ Keep All w8 w9) ?_ ?_
    · refine W_held (fun w' => Keep All w8 w') (by kernel_rfl) (Keep.drawn w8) (fun hS => ?_)
      refine any_mvt 0 rfl (by kernel_rfl) (by kernel_rfl) (by kernel_rfl) rfl hS ?_
      refine any_run 1 (fun w' hS' => (r_len rfl rfl rfl)) rfl (by kernel_rfl) (by kernel_rfl) (by kernel_rfl) rfl hS ?_
      refine any_run 2 (fun w' hS' => (r_eql rfl rfl)) rfl (by kernel_rfl) (by kernel_rfl) (by kernel_rfl) rfl hS ?_
      refine any_mvt 3 rfl (by kernel_rfl) (by kernel_rfl) (by kernel_rfl) rfl hS ?_
      refine a_split 24 false rfl (fun g11 => ?_) (fun g11 => ?_)
      · refine any_mvt 4 rfl (by kernel_rfl) (by kernel_rfl) (by kernel_rfl) (g_yes rfl rfl rfl g11) hS ?_
        refine any_run 5 (fun w' hS' => (r_idxS rfl rfl rfl rfl (by omega) (by omega))) rfl (by kernel_rfl) (by kernel_rfl) (by kernel_rfl) (g_yes rfl rfl rfl g11) hS ?_
        refine any_run 6 (fun w' hS' => (r_fieldAddr rfl rfl rfl rfl rfl)) rfl (by kernel_rfl) (by kernel_rfl) (by kernel_rfl) (g_yes rfl rfl rfl g11) hS ?_
        refine any_run 7 (fun w' hS' => (r_loadA (dgR y0.1) rfl rfl rfl (by first | rfl | (rw [binV_len]; rfl) | (rw [dgR_len]; rfl) | (rw [refR_len]; rfl) | (rw [secR_len]; rfl) | (rw [List.length_map, tagF_len]; rfl) | (rw [dgR_len]; rfl)) ((fun j u hj => hS'.cell (itR_dg hc j u (by simpa using hj)) trivial)))) rfl (by kernel_rfl) (by kernel_rfl) (by kernel_rfl) (g_yes rfl rfl rfl g11) hS ?_
        refine any_mvt 8 rfl (by kernel_rfl) (by kernel_rfl) (by kernel_rfl) (g_yes rfl rfl rfl g11) hS ?_
        refine any_mvt 9 rfl (by kernel_rfl) (by kernel_rfl) (by kernel_rfl) (g_yes rfl rfl rfl g11) hS ?_
        refine any_run 11 (fun w' hS' => (r_loadA (dgR key) rfl rfl rfl (by first | rfl | (rw [binV_len]; rfl) | (rw [dgR_len]; rfl) | (rw [refR_len]; rfl) | (rw [secR_len]; rfl) | (rw [List.length_map, tagF_len]; rfl) | (rw [dgR_len]; rfl)) (((hk8.trans hS').blk' hB17 trivial).all))) rfl (by kernel_rfl) (by kernel_rfl) (by kernel_rfl) (g_yes rfl rfl rfl g11) hS ?_
        refine any_mvt 12 rfl (by kernel_rfl) (by kernel_rfl) (by kernel_rfl) (g_yes rfl rfl rfl g11) hS ?_
        refine any_mvt 13 rfl (by kernel_rfl) (by kernel_rfl) (by kernel_rfl) (g_yes rfl rfl rfl g11) hS ?_
        refine any_one 10 (by kernel_rfl) (one_of rfl ?_)
        refine op_call rfl rfl (g_yes rfl rfl rfl g11) (rf8_rest _ y0.1 a.length to hto.1 hto.2.1) ?_; rintro v15 w15 ⟨hO15, hin15, hk15⟩
        refine ops_nil ⟨hS.trans hk15, fun hS => ?_⟩
        refine any_one 14 (by kernel_rfl) (one_of rfl ?_)
        refine op_call rfl rfl (g_yes rfl rfl rfl g11) (rf8_rest w15 key a.length to hto.1 hto.2.1) ?_; rintro v17 w17 ⟨hO17, hin17, hk17⟩
        refine ops_nil ⟨hS.trans hk17, fun hS => ?_⟩
        refine any_one 15 (by kernel_rfl) (one_of rfl ?_)
        refine op_call rfl rfl (g_yes rfl rfl rfl g11) (ref01_Same w17 v15 v17 _ _ (OwnB.by_ (hO15.keep hk17 (fun _ _ => trivial))) (OwnB.by_ hO17)) ?_; rintro v19 w19 ⟨rfl, hk19⟩
        refine ops_nil ⟨hS.trans hk19, fun hS => ?_⟩
        refine any_run 16 (fun w' hS' => (r_not rfl)) rfl (by kernel_rfl) (by kernel_rfl) (by kernel_rfl) (g_yes rfl rfl rfl g11) hS ?_
        refine any_run 17 (fun w' hS' => (r_pickF rfl g11)) rfl (by kernel_rfl) (by kernel_rfl) (by kernel_rfl) rfl hS ?_
        refine any_done (by kernel_rfl) ?_
        exact ⟨by (repeat (first | with_reducible exact offM_refl _ _ | refine offM_updc rfl ?_ | refine offM_upd rfl ?_ | refine offM_updo rfl ?_ | refine offM_updo_none ?_ | refine offM_head rfl rfl ?_)), congrArg (fun b => [Value.bool b]) (by simp [show ¬ l'.length = 1 from (by simp at g11; omega)]), hS⟩
      · refine any_skip 4 rfl (by kernel_rfl) (by kernel_rfl) (by kernel_rfl) (g_no rfl rfl rfl g11) hS ?_
        refine any_skip 5 rfl (by kernel_rfl) (by kernel_rfl) (by kernel_rfl) (g_no rfl rfl rfl g11) hS ?_
        refine any_skip 6 rfl (by kernel_rfl) (by kernel_rfl) (by kernel_rfl) (g_no rfl rfl rfl g11) hS ?_
        refine any_skip 7 rfl (by kernel_rfl) (by kernel_rfl) (by kernel_rfl) (g_no rfl rfl rfl g11) hS ?_
        refine any_skip 8 rfl (by kernel_rfl) (by kernel_rfl) (by kernel_rfl) (g_no rfl rfl rfl g11) hS ?_
        refine any_skip 9 rfl (by kernel_rfl) (by kernel_rfl) (by kernel_rfl) (g_no rfl rfl rfl g11) hS ?_
        refine any_skip 11 rfl (by kernel_rfl) (by kernel_rfl) (by kernel_rfl) (g_no rfl rfl rfl g11) hS ?_
        refine any_skip 12 rfl (by kernel_rfl) (by kernel_rfl) (by kernel_rfl) (g_no rfl rfl rfl g11) hS ?_
        refine any_skip 13 rfl (by kernel_rfl) (by kernel_rfl) (by kernel_rfl) (g_no rfl rfl rfl g11) hS ?_
        refine any_one 10 (by kernel_rfl) (one_of rfl ?_)
        refine op_skip (g_no rfl rfl rfl g11) ?_
        refine ops_nil ⟨hS, fun hS => ?_⟩
        refine any_one 14 (by kernel_rfl) (one_of rfl ?_)
        refine op_skip (g_no rfl rfl rfl g11) ?_
        refine ops_nil ⟨hS, fun hS => ?_⟩
        refine any_one 15 (by kernel_rfl) (one_of rfl ?_)
        refine op_skip (g_no rfl rfl rfl g11) ?_
        refine ops_nil ⟨hS, fun hS => ?_⟩
        refine any_skip 16 rfl (by kernel_rfl) (by kernel_rfl) (by kernel_rfl) (g_no rfl rfl rfl g11) hS ?_
        refine any_run 17 (fun w' hS' => (r_pickT rfl g11)) rfl (by kernel_rfl) (by kernel_rfl) (by kernel_rfl) rfl hS ?_
        refine any_done (by kernel_rfl) ?_
        exact ⟨by (repeat (first | with_reducible exact offM_refl _ _ | refine offM_updc rfl ?_ | refine offM_upd rfl ?_ | refine offM_updo rfl ?_ | refine offM_updo_none ?_ | refine offM_head rfl rfl ?_)), congrArg (fun b => [Value.bool b]) (by simp [show l'.length = 1 from (by simp at g11; omega)]), hS⟩
    · rintro J26 vs w26 ⟨rfl, hk26⟩ -
      refine W_cond_p rfl (fun h27 => ?_) (fun h27 => ?_)
      · refine W_seq ?_
        refine W_region ?_
        have hk726 := hk8.trans hk26
        refine o_mvt rfl ?_
        refine o_ast rfl ?_
        refine ops_nil ?_
        refine W_ret ?_
        refine ret1 v7 rfl ?_ ?_; rfl
        refine ⟨us ++ [v5], hU7.keep hk726 (fun _ _ => trivial), ?_, hin7.mono fun z hz => by have hz : w1.heap.size ≤ z := hz; show w.heap.size ≤ z; omega, hkw7.trans hk726⟩
        rw [hpv, hA.stop hm0 hto hkey h27]
        exact RowsO.mono (by omega) (RowsO.k hk726 (fun _ _ _ _ _ _ => trivial) hR7)
      · refine W_skip ?_
        refine W_seq ?_
        refine W_region ?_
        obtain ⟨beg, kids, y, rs, rfl, rfl, rfl, hway⟩ := hA.go hm0 hto hkey h27
        have hk726 := hk8.trans hk26
        have hbl := hA.wf.1
        have hinc := inc64' (a.length + beg.length) (by omega)
        refine o_mvt rfl ?_
        refine o_mvt rfl ?_
        refine op_run (r_loadA (dgR key) rfl rfl rfl (by first | rfl | (rw [binV_len]; rfl) | (rw [dgR_len]; rfl) | (rw [refR_len]; rfl) | (rw [secR_len]; rfl) | (rw [List.length_map, tagF_len]; rfl) | (rw [dgR_len]; rfl)) ((hk726.blk' hB17 trivial).all)) rfl ?_
        refine o_mvt rfl ?_
        refine op_call rfl rfl rfl (rf08_Nibble w26 key (a.length + beg.length) y (by rw [hkey]; exact at_mid)) ?_; rintro v30 w30 ⟨rfl, hk30⟩
        have hk730 := hk726.trans hk30
        refine op_call rfl rfl rfl (rf8_partP w w30 (.slice (some ⟨b, off, none⟩) l'.length cl) its l' (a.length + beg.length) y (by omega) (Sl.k hS7 hk730) hPr (hkw7.trans hk730) hl') ?_; rintro v31 w31 ⟨its31, hP1, hP2, hP3, hP4⟩
        refine o_ast rfl ?_
        refine ops_nil ?_
        refine W_region ?_
        refine o_mvt rfl ?_
        refine op_run (r_add rfl rfl) rfl ?_
        refine o_ast rfl ?_
        refine ops_nil ?_
        have hkl : ((a ++ beg) ++ [y]).length = a.length + beg.length + 1 := by rw [List.length_append, List.length_append]; rfl
        have hk731 := hk730.trans hP4
        have hpl := partI_len l' (a.length + beg.length) y
        refine ⟨by (repeat (first | with_reducible exact offM_refl _ _ | refine offM_updc rfl ?_ | refine offM_upd rfl ?_ | refine offM_updo rfl ?_ | refine offM_updo_none ?_ | refine offM_head rfl rfl ?_)), ⟨kids y.toNat, (a ++ beg) ++ [y], rs, partI l' (a.length + beg.length) y, its31, v31, v7, us ++ [v5], done ++ [nodeB (.branch beg kids)], ?_, by rw [hkey]; simp, hA.kid y, hs.2 _, by omega, ?_, hP2, hU7.keep hk731 (fun _ _ => trivial), RowsO.k hk731 (fun _ _ _ _ _ _ => trivial) hR7, hin7, hkA7.trans hk731, by rw [hkl, List.length_append]; simp only [List.length_singleton]; omega, ?_⟩, ?_⟩
        · rw [hkl]; exact congrArg (fun z : Int => [v31, v7, Value.int .i64 z]) hinc
        · intro w'' _ hk
          exact (hP1.keep hk (fun z hz => own_ne hP1 (hU7.keep hk731 (fun _ _ => trivial)) (by decide) hz)).sl
        · rw [hpv, hway, List.map_cons, List.append_assoc]; rfl
        · show 65 - (IntKind.i64.wrap (((a.length + beg.length : Nat) : Int) + 1)).toNat < 65 - ((a.length : Nat) : Int).toNat
          rw [hinc]; omega
  · refine W_exit ?_
    refine W_seq ?_
    refine W_region ?_
    refine o_mvt rfl ?_
    refine o_ast rfl ?_
    refine ops_nil ?_
    refine W_ret ?_
    refine ret1 u rfl ?_ ?_; rfl
    have hnil : l' = [] := List.eq_nil_of_length_eq_zero (by omega)
    have hno : T = .no := Classical.byContradiction fun e => hA.some_ e hnil
    rw [hno] at hpv
    have hpv : proveT T0 key = done := by rw [hpv]; exact List.append_nil _
    rw [hpv]
    exact ⟨us, hU, RowsO.mono (by omega) hR, hin.mono fun z hz => by have hz : w1.heap.size ≤ z := hz; show w.heap.size ≤ z; omega, hkw3⟩
end Go.Proofs.Ytpiidddccmohdaa.B
