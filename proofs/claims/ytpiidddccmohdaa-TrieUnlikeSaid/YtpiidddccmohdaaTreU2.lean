/-
  The document's tries: rest, Shared, part.
-/
import Derived.Test.YtpiidddccmohdaaTreU1
import Derived.Test.YtpiidddccmohdaaNib8
namespace Go.Proofs.Ytpiidddccmohdaa.B
open Go
set_option linter.unusedVariables false
set_option maxHeartbeats 2000000
set_option maxRecDepth 100000
attribute [local irreducible] W OpsW OpsQ retP
theorem nib_at (k : Dig) {i : Nat} (h : i < 64) : ∃ x, (nibs k.val)[i]? = some x := ⟨_, List.getElem?_eq_getElem (by rw [nibs_len, k.2]; omega)⟩
theorem rf8_rest (w : World) (key : Dig) (a to : Nat) (hat : a ≤ to) (hto : to ≤ 64) : Ret Try.prog 29 [.agg (dgR key).toArray, .int .i64 a, .int .i64 to].toArray w fun r w' => OwnB w' 5 r (((nibs key.val).drop a).take (to - a)) ∧ InB (fun z => w.heap.size ≤ z) r ∧ Keep All w w' := by
  refine enter (fn := Try.f29) (n := 23) Try.func29 rfl rfl (by simp) ?_
  refine W_seq ?_
  refine W_region ?_
  refine o_box rfl rfl rfl ?_; intro w1 b1 e1 hB1 hk1 hs1
  have hB1 : Blk w1 b1 (dgR key) 30 := hB1
  refine o_asc rfl ?_
  refine ops_nil ?_
  refine W_seq ?_
  refine W_region ?_
  refine o_bs0 rfl rfl rfl ?_; intro w2 b2 e2 hB2 hk2 hs2
  refine o_ast rfl ?_
  refine ops_nil ?_
  refine W_seq ?_
  refine W_seq ?_
  refine W_region ?_
  refine o_mvt rfl ?_
  refine o_ast rfl ?_
  refine ops_nil ?_
  refine W_block ?_
  refine W_loop [7, 8] [7, 8, 11, 12, 13, 14, 15, 16, 17, 18, 19, 20, 21] (fun vs w' => ∃ (k : Nat) (u : Value), vs = [u, .int .i64 (a + k : Nat)] ∧ a + k ≤ to ∧ OwnB w' 5 u (((nibs key.val).drop a).take k) ∧ InB (fun z => w1.heap.size ≤ z) u ∧ Keep All w1 w') (fun vs _ => match vs with | [_, .int _ y] => to - y.toNat | _ => 0) ⟨0, _, rfl, hat, Own.blk (n := 0) (sz := 1) hB2 rfl (Nat.zero_le _), fun z hz => by have : b2 = z := Option.some.inj hz; omega, hk2⟩ ?_
  rintro J3 vs w3 ⟨k, u, rfl, hk, hO, hin, hkw⟩ -
  refine W_seq ?_
  refine W_seq ?_
  refine W_region ?_
  refine o_mvt rfl ?_
  refine o_mvt rfl ?_
  refine op_run (r_lss rfl rfl) rfl ?_
  refine ops_nil ?_
  refine W_cond_p rfl (fun h4 => ?_) (fun h4 => ?_)
  · refine W_skip ?_
    refine W_seq ?_
    refine W_block ?_
    refine W_region ?_
    refine o_mvt rfl ?_
    have hkl : a + k < to := by omega
    obtain ⟨x, hx⟩ := nib_at key (show a + k < 64 by omega)
    have hinc := inc64' (a + k) (by omega)
    have hlen : (((nibs key.val).drop a).take k).length = k := by rw [List.length_take, List.length_drop, nibs_len, key.2]; omega
    refine op_run (r_loadA (dgR key) rfl rfl rfl (by first | rfl | (rw [binV_len]; rfl) | (rw [dgR_len]; rfl) | (rw [refR_len]; rfl) | (rw [secR_len]; rfl) | (rw [List.length_map, tagF_len]; rfl) | (rw [dgR_len]; rfl)) ((hkw.blk' hB1 trivial).all)) rfl ?_
    refine o_mvt rfl ?_
    refine op_call rfl rfl rfl (rf08_Nibble w3 key (a + k) x hx) ?_; rintro v6 w6 ⟨rfl, hk6⟩
    refine o_bs1 (v := c8 x) rfl rfl rfl rfl rfl rfl ?_; intro w7 b7 e7 hB7 hk7 hs7
    refine o_appS (v := u) rfl rfl (Own.blk (n := 1) (sz := 1) hB7 rfl (by unfold maxLen; omega)).sl rfl ti_u8 rfl rfl (hO.keep (hk6.trans hk7) (fun _ _ => trivial)) (by rfl) (by unfold maxLen; omega) (by omega) rfl ?_; intro v8 w8 hown8 hk8 hb8
    refine o_ast rfl ?_
    refine ops_nil ?_
    refine W_region ?_
    refine o_mvt rfl ?_
    refine op_run (r_add rfl rfl) rfl ?_
    refine o_ast rfl ?_
    refine ops_nil ?_
    have e : ((nibs key.val).drop a).take (k + 1) = ((nibs key.val).drop a).take k ++ [x] := by
      have hd : ((nibs key.val).drop a)[k]? = some x := by rw [List.getElem?_drop]; exact hx
      obtain ⟨h1, h2⟩ := List.getElem?_eq_some_iff.1 hd
      rw [List.take_succ_eq_append_getElem h1, h2]
    have hO8 : OwnB w8 5 v8 (((nibs key.val).drop a).take (k + 1)) := by rw [e]; exact OwnB.app (ys := [x]) hown8
    have hz := hkw.size
    have hz2 := (hk6.trans hk7).size
    refine ⟨by (repeat (first | with_reducible exact offM_refl _ _ | refine offM_updc rfl ?_ | refine offM_upd rfl ?_ | refine offM_updo rfl ?_ | refine offM_updo_none ?_ | refine offM_head rfl rfl ?_)), ⟨k + 1, v8, congrArg (fun z : Int => [v8, Value.int .i64 z]) hinc, by omega, hO8, fun z hz => ?_, (hkw.trans (hk6.trans hk7)).own hk8 (fun z hz _ => hin z hz)⟩, ?_⟩
    · rcases hb8 z hz with h | h
      · exact hin z h
      · omega
    · show to - (IntKind.i64.wrap (((a + k : Nat) : Int) + 1)).toNat < to - ((a + k : Nat) : Int).toNat
      rw [hinc]; omega
  · refine W_exit ?_
    refine W_seq ?_
    refine W_region ?_
    refine o_mvt rfl ?_
    refine o_ast rfl ?_
    refine ops_nil ?_
    refine W_ret ?_
    refine ret1 u rfl ?_ ?_; rfl
    have hke : k = to - a := by omega
    rw [← hke]
    exact ⟨hO, hin.mono fun z hz => Nat.le_trans hk1.size hz, hk1.trans hkw⟩
theorem rf8_Shared (w : World) (v : Value) (l : List It) (a : Nat) (ha : a ≤ 64) (hv : ItIn w v l) (h1 : l ≠ []) (hl : l.length ≤ 2 ^ 40) : Ret Try.prog 28 [v, .int .i64 a].toArray w fun r w' => (∃ to : Nat, r = .int .i64 to ∧ ShP l a to) ∧ Keep All w w' := by
  obtain ⟨a0, c0, rfl, hc0, hcm0⟩ := hv.form
  obtain ⟨y0, hy0⟩ : ∃ y, l[0]? = some y := by cases l with
    | nil => exact absurd rfl h1
    | cons x l => exact ⟨x, rfl⟩
  have hm0 := List.mem_of_getElem? hy0
  refine enter (fn := Try.f28) (n := 34) Try.func28 rfl rfl (by simp) ?_
  refine W_seq ?_
  refine W_region ?_
  refine o_asc rfl ?_
  refine ops_nil ?_
  refine W_seq ?_
  refine W_region ?_
  refine o_mvt rfl ?_
  refine o_ast rfl ?_
  refine ops_nil ?_
  refine W_seq ?_
  refine W_block ?_
  refine W_loop [5] [4, 5, 6, 8, 9, 10, 11, 12, 13, 14, 15, 16, 17, 18, 19, 20, 21, 22, 23, 24, 25, 26, 27, 28, 29, 30, 31, 32] (fun vs w' => ∃ t : Nat, vs = [.int .i64 t] ∧ a ≤ t ∧ t ≤ 64 ∧ (∀ i, a ≤ i → i < t → ∀ x ∈ l, ∀ y ∈ l, (nibs x.1.val)[i]? = (nibs y.1.val)[i]?) ∧ Keep All w w') (fun vs _ => match vs with | [.int _ y] => 64 - y.toNat | _ => 0) ⟨a, rfl, Nat.le_refl _, ha, fun i h2 h3 => by omega, Keep.refl _⟩ ?_
  rintro J1 vs w1 ⟨t, rfl, hat, ht, hsame, hkw⟩ -
  refine W_seq ?_
  refine W_seq ?_
  refine W_region ?_
  refine o_mvt rfl ?_
  refine op_run (r_lss rfl rfl) rfl ?_
  refine ops_nil ?_
  refine W_cond_p rfl (fun h2 => ?_) (fun h2 => ?_)
  · refine W_skip ?_
    refine W_block ?_
    refine W_seq ?_
    refine W_seq ?_
    refine W_region ?_
    refine o_asc rfl ?_
    refine ops_nil ?_
    refine W_block ?_
    have htl : t < 64 := by omega
    have hinct := inc64' t (by omega)
    obtain ⟨n0, hn0⟩ := nib_at y0.1 htl
    refine W_loop [6] [4, 6, 10, 11, 12, 13, 14, 15, 16, 17, 18, 19, 20, 21, 22, 23, 24, 25, 26, 27, 28, 29, 30] (fun vs w' => ∃ k : Nat, vs = [.int .i64 k] ∧ k ≤ l.length ∧ (∀ x ∈ l.take k, (nibs x.1.val)[t]? = some n0) ∧ Keep All w1 w') (fun vs _ => match vs with | [.int _ y] => l.length - y.toNat | _ => 0) ⟨0, rfl, Nat.zero_le _, (fun x hx => by cases hx), Keep.refl _⟩ ?_
    rintro J3 vs w3 ⟨k, rfl, hk, hs3, hk3⟩ -
    refine W_seq ?_
    refine W_seq ?_
    refine W_region ?_
    refine o_mvt rfl ?_
    refine o_mvt rfl ?_
    refine op_run (r_len rfl rfl rfl) rfl ?_
    refine op_run (r_lss rfl rfl) rfl ?_
    refine ops_nil ?_
    refine W_cond_p rfl (fun h4 => ?_) (fun h4 => ?_)
    · refine W_skip ?_
      refine W_seq ?_
      refine W_block ?_
      refine W_seq ?_
      have hkl : k < l.length := by omega
      obtain ⟨y, hy⟩ : ∃ y, l[k]? = some y := ⟨_, List.getElem?_eq_getElem hkl⟩
      have hv3 := (hv.k hkw).k hk3
      obtain ⟨b, off, c, vv, ev_, hby, hc⟩ := hv3.at hy
      obtain ⟨b', off', c', vv', ev2_, hby', hc'⟩ := hv3.at hy0
      cases ev_
      cases ev2_
      obtain ⟨n, hn⟩ := nib_at y.1 htl
      have hinc := inc64' k (by omega)
      refine W_quiet (Keep All w3) (by kernel_rfl) (by kernel_rfl) (Keep.drawn _) ?_
      refine q_mvt rfl ?_
      refine q_mvt rfl ?_
      refine q_run (fun _ _ => r_idxS rfl rfl rfl rfl (by omega) (by omega)) rfl ?_
      refine q_run (fun _ _ => (r_fieldAddr rfl rfl rfl rfl rfl)) rfl ?_
      refine q_run (fun _ hk => r_loadA (dgR y.1) rfl rfl rfl (by first | rfl | (rw [binV_len]; rfl) | (rw [dgR_len]; rfl) | (rw [refR_len]; rfl) | (rw [secR_len]; rfl) | (rw [List.length_map, tagF_len]; rfl) | (rw [dgR_len]; rfl)) ((fun j u hj => by rw [Int.toNat_natCast]; exact hk.cell (itR_dg hc j u hj) trivial))) rfl ?_
      refine q_mvt rfl ?_
      refine q_call rfl rfl rfl (fun _ hk => (rf08_Nibble _ y.1 t n hn).mono fun e w'' ⟨u, he, h1, h2⟩ => ⟨u, he, h1, hk.trans h2⟩) ?_
      refine q_mvt rfl ?_
      refine q_run (fun _ _ => r_idxS rfl rfl rfl rfl (by omega) (by omega)) rfl ?_
      refine q_run (fun _ _ => (r_fieldAddr rfl rfl rfl rfl rfl)) rfl ?_
      refine q_run (fun _ hk => r_loadA (dgR y0.1) rfl rfl rfl (by first | rfl | (rw [binV_len]; rfl) | (rw [dgR_len]; rfl) | (rw [refR_len]; rfl) | (rw [secR_len]; rfl) | (rw [List.length_map, tagF_len]; rfl) | (rw [dgR_len]; rfl)) ((fun j u hj => hk.cell (itR_dg hc' j u (by simpa using hj)) trivial))) rfl ?_
      refine q_mvt rfl ?_
      refine q_call rfl rfl rfl (fun _ hk => (rf08_Nibble _ y0.1 t n0 hn0).mono fun e w'' ⟨u, he, h1, h2⟩ => ⟨u, he, h1, hk.trans h2⟩) ?_
      refine q_run (fun _ _ => (r_neq rfl rfl)) rfl ?_
      refine q_nil ?_; intro w12 hk12
      refine W_cond_p rfl (fun h13 => ?_) (fun h13 => ?_)
      · refine W_seq ?_
        refine W_region ?_
        refine o_mvt rfl ?_
        refine o_ast rfl ?_
        refine ops_nil ?_
        refine W_ret ?_
        refine ret1 (.int .i64 t) rfl ?_ ?_; rfl
        have g : n ≠ n0 := fun e => by
          have := UInt8.toNat_inj.2 e
          simp at h13; omega
        exact ⟨⟨t, rfl, hat, ht, hsame, fun _ => ⟨y, List.mem_of_getElem? hy, y0, hm0, by rw [hn, hn0]; exact fun e => g (Option.some.inj e)⟩⟩, (hkw.trans hk3).trans hk12⟩
      · refine W_skip ?_
        refine W_region ?_
        refine o_mvt rfl ?_
        refine op_run (r_add rfl rfl) rfl ?_
        refine o_ast rfl ?_
        refine ops_nil ?_
        have g : n = n0 := UInt8.toNat_inj.1 (by simp at h13; omega)
        refine ⟨by (repeat (first | with_reducible exact offM_refl _ _ | refine offM_updc rfl ?_ | refine offM_upd rfl ?_ | refine offM_updo rfl ?_ | refine offM_updo_none ?_ | refine offM_head rfl rfl ?_)), ⟨k + 1, congrArg (fun z : Int => [Value.int .i64 z]) hinc, by omega, fun x hx => ?_, hk3.trans hk12⟩, ?_⟩
        · rw [List.take_succ_eq_append_getElem hkl, (List.getElem?_eq_some_iff.1 hy).2] at hx
          rcases List.mem_append.1 hx with h | h
          · exact hs3 x h
          · rw [List.mem_singleton.1 h, hn, g]
        · show l.length - (IntKind.i64.wrap ((k : Int) + 1)).toNat < l.length - (k : Int).toNat
          rw [hinc]; omega
    · refine W_exit ?_
      refine W_region ?_
      refine o_mvt rfl ?_
      refine op_run (r_add rfl rfl) rfl ?_
      refine o_ast rfl ?_
      refine ops_nil ?_
      have hke : k = l.length := by omega
      rw [hke, List.take_length] at hs3
      refine ⟨by (repeat (first | with_reducible exact offM_refl _ _ | refine offM_updc rfl ?_ | refine offM_upd rfl ?_ | refine offM_updo rfl ?_ | refine offM_updo_none ?_ | refine offM_head rfl rfl ?_)), ⟨t + 1, congrArg (fun z : Int => [Value.int .i64 z]) hinct, by omega, by omega, fun i h2 h3 x hx y hy => ?_, hkw.trans hk3⟩, ?_⟩
      · by_cases e : i = t
        · rw [e, hs3 x hx, hs3 y hy]
        · exact hsame i h2 (by omega) x hx y hy
      · show 64 - (IntKind.i64.wrap ((t : Int) + 1)).toNat < 64 - (t : Int).toNat
        rw [hinct]; omega
  · refine W_exit ?_
    refine W_seq ?_
    refine W_region ?_
    refine o_mvt rfl ?_
    refine o_ast rfl ?_
    refine ops_nil ?_
    refine W_ret ?_
    refine ret1 (.int .i64 t) rfl ?_ ?_; rfl
    exact ⟨⟨t, rfl, hat, ht, hsame, fun h => by omega⟩, hkw⟩
theorem partI_s {l : List It} {k : Nat} {y : It} (hy : l[k]? = some y) (at_ : Nat) (n : UInt8) : partI (l.take (k + 1)) at_ n = partI (l.take k) at_ n ++ if (nibs y.1.val)[at_]? = some n then [y] else [] := by
  obtain ⟨h1, h2⟩ := List.getElem?_eq_some_iff.1 hy
  rw [List.take_succ_eq_append_getElem h1, h2]
  unfold partI
  rw [List.filter_append, List.filter_cons]
  by_cases e : (nibs y.1.val)[at_]? = some n
  · rw [if_pos e, if_pos (by simpa using e)]; rfl
  · rw [if_neg e, if_neg (by simpa using e)]; rfl
/-- Items that are put together of items that are old. -/
def OutP (w0 w w' : World) (u : Value) (l : List It) : Prop := ∃ its, Own w' 33 33 u l.length (rows itR its) ∧ Prs w0 its l ∧ InB (fun z => w.heap.size ≤ z) u ∧ Keep All w w'
theorem OutP.k {w0 w w1 w' : World} {u : Value} {l : List It} (h : OutP w0 w w1 u l) (hk : Keep All w1 w') : OutP w0 w w' u l := by
  obtain ⟨its, h1, h2, h3, h4⟩ := h; exact ⟨its, h1.keep hk (fun _ _ => trivial), h2, h3, h4.trans hk⟩
theorem OutP.app {w00 w0 w w1 w2 : World} {u u' : Value} {l : List It} {its : List Iv} {k : Dig} {vv : Value} {b : List UInt8} (hP : Prs w00 its l) (hI : InB (fun z => w0.heap.size ≤ z) u) (hk0 : Keep All w0 w) (hb : By w00 vv b) (hk : Keep All w w1)
    (hO : Own w2 33 33 u' (l.length + 1) (rows itR its ++ itR (k, vv))) (hk2 : Keep (fun z => some z ≠ u.ownBlock) w1 w2) (hu : InB (fun z => u.ownBlock = some z ∨ w1.heap.size ≤ z) u') : OutP w00 w0 w2 u' (l ++ [(k, b)]) := by
  have hkw : Keep All w0 w2 := (hk0.trans hk).own hk2 (fun z hz _ => hI z hz)
  refine ⟨its ++ [(k, vv)], ?_, Prs.snoc hb hP, fun z hz => ?_, hkw⟩
  · rw [rows_app, List.length_append]
    have e : rows itR [(k, vv)] = itR (k, vv) := List.append_nil _
    rw [e]; exact hO
  · rcases hu z hz with h | h
    · exact hI z h
    · have := (hk0.trans hk).size; omega
theorem rf8_partP (w0 w : World) (v : Value) (its0 : List Iv) (l : List It) (at_ : Nat) (n : UInt8) (ha : at_ < 64) (hits1 : Sl w v l.length 33 (rows itR its0)) (hits2 : Prs w0 its0 l) (hk0 : Keep All w0 w) (hl : l.length ≤ 2 ^ 20) : Ret Try.prog 30 [v, .int .i64 at_, c8 n].toArray w fun r w' => OutP w0 w w' r (partI l at_ n) := by
  obtain ⟨a0, c0, rfl, hc0, hcm0⟩ := hits1.form
  refine enter (fn := Try.f30) (n := 33) Try.func30 rfl rfl (by simp) ?_
  refine W_seq ?_
  refine W_region ?_
  refine o_asc rfl ?_
  refine ops_nil ?_
  refine W_seq ?_
  refine W_region ?_
  refine o_bs0 rfl rfl rfl ?_; intro w1 b1 e1 hB1 hk1 hs1
  refine o_ast rfl ?_
  refine ops_nil ?_
  refine W_seq ?_
  refine W_seq ?_
  refine W_region ?_
  refine o_asc rfl ?_
  refine ops_nil ?_
  refine W_block ?_
  refine W_loop [7, 8] [7, 8, 10, 11, 12, 13, 14, 15, 16, 17, 18, 19, 20, 21, 22, 23, 24, 25, 26, 27, 28, 29, 30, 31] (fun vs w' => ∃ (k : Nat) (u : Value), vs = [u, .int .i64 k] ∧ k ≤ l.length ∧ OutP w0 w w' u (partI (l.take k) at_ n)) (fun vs _ => match vs with | [_, .int _ y] => l.length - y.toNat | _ => 0) ⟨0, .slice (some ⟨b1, 0, none⟩) 0 0, rfl, Nat.zero_le _, ⟨[], Own.blk (n := 0) (sz := 33) hB1 rfl (Nat.zero_le _), trivial, (fun z hz => by have : b1 = z := Option.some.inj hz; omega), hk1⟩⟩ ?_
  rintro J2 vs w2 ⟨k, u, rfl, hk, hO⟩ -
  refine W_seq ?_
  refine W_seq ?_
  refine W_region ?_
  refine o_mvt rfl ?_
  refine o_mvt rfl ?_
  refine op_run (r_len rfl rfl rfl) rfl ?_
  refine op_run (r_lss rfl rfl) rfl ?_
  refine ops_nil ?_
  refine W_cond_p rfl (fun h3 => ?_) (fun h3 => ?_)
  · refine W_skip ?_
    refine W_seq ?_
    refine W_block ?_
    refine W_seq ?_
    refine W_region ?_
    refine o_mvt rfl ?_
    refine o_mvt rfl ?_
    have hkl : k < l.length := by omega
    obtain ⟨y, hy⟩ : ∃ y, l[k]? = some y := ⟨_, List.getElem?_eq_getElem hkl⟩
    obtain ⟨vv, hvx, hvb⟩ := hits2.get hy
    have hkw3 := hO
    obtain ⟨its, hO1, hO2, hO3, hO4⟩ := hO
    have hlen : (partI (l.take k) at_ n).length ≤ k := by have := partI_len (l.take k) at_ n; rw [List.length_take] at this; omega
    have htk := partI_s hy at_ n
    have hl0 := hits2.len
    obtain ⟨hkl0, hxe⟩ := List.getElem?_eq_some_iff.1 hvx
    rw [← hl0] at hits1
    obtain ⟨b, off, ea_, hc⟩ := rows_at' itR_len hits1 hkl0 (by decide)
    rw [hxe] at hc
    subst ea_
    have hinc := inc64' k (by omega)
    obtain ⟨m, hm⟩ := nib_at y.1 ha
    refine op_run (r_idxS rfl rfl rfl rfl (by omega) (by omega)) rfl ?_
    refine op_run (r_fieldAddr rfl rfl rfl rfl rfl) rfl ?_
    refine op_run (r_loadA (dgR y.1) rfl rfl rfl (by first | rfl | (rw [binV_len]; rfl) | (rw [dgR_len]; rfl) | (rw [refR_len]; rfl) | (rw [secR_len]; rfl) | (rw [List.length_map, tagF_len]; rfl) | (rw [dgR_len]; rfl) | (rw [itR_len]; rfl)) ((fun j u hj => by rw [Int.toNat_natCast]; exact hO4.cell (itR_dg hc j u hj) trivial))) rfl ?_
    refine o_mvt rfl ?_
    refine op_call rfl rfl rfl (rf08_Nibble _ y.1 at_ m hm) ?_; rintro v6 w6 ⟨rfl, hk6⟩
    refine o_mvt rfl ?_
    refine op_run (r_eql rfl rfl) rfl ?_
    refine ops_nil ?_
    refine W_cond_p rfl (fun h7 => ?_) (fun h7 => ?_)
    · refine W_region ?_
      refine o_mvt rfl ?_
      refine o_mvt rfl ?_
      refine o_mvt rfl ?_
      refine op_run (r_idxS rfl rfl rfl rfl (by omega) (by omega)) rfl ?_
      refine op_run (r_loadA (itR (y.1, vv)) rfl rfl rfl (by first | rfl | (rw [binV_len]; rfl) | (rw [dgR_len]; rfl) | (rw [refR_len]; rfl) | (rw [secR_len]; rfl) | (rw [List.length_map, tagF_len]; rfl) | (rw [dgR_len]; rfl) | (rw [itR_len]; rfl)) ((fun j u hj => by rw [Int.toNat_natCast]; exact (hO4.trans hk6).cell (hc j u hj) trivial))) rfl ?_
      refine o_bsA1 (itR (y.1, vv)) rfl rfl (by rw [itR_len]; exact ti_it) (by rw [itR_len]; rfl) (by rw [itR_len]; decide) rfl ?_; intro w10 b10 e10 hB10 hk10 hs10
      refine o_app (v := u) (c := 1) (m := (partI (l.take k) at_ n).length) (itR (y.1, vv)) rfl rfl rfl ti_it rfl (by decide) (hO1.keep (hk6.trans hk10) (fun _ _ => trivial)) (by rw [itR_len]) hB10.all (itR_one (Sl.oneI hvb)) (by unfold maxLen; omega) (by omega) rfl ?_; intro v11 w11 hown11 hk11 hb11
      refine o_ast rfl ?_
      refine ops_nil ?_
      refine W_region ?_
      refine o_mvt rfl ?_
      refine op_run (r_add rfl rfl) rfl ?_
      refine o_ast rfl ?_
      refine ops_nil ?_
      have g : m = n := UInt8.toNat_inj.1 (by omega)
      rw [if_pos (by rw [hm, g])] at htk
      refine ⟨by (repeat (first | with_reducible exact offM_refl _ _ | refine offM_updc rfl ?_ | refine offM_upd rfl ?_ | refine offM_updo rfl ?_ | refine offM_updo_none ?_ | refine offM_head rfl rfl ?_)), ⟨k + 1, v11, congrArg (fun z : Int => [v11, Value.int .i64 z]) hinc, by omega, ?_⟩, ?_⟩
      · rw [htk]; exact OutP.app (k := y.1) (b := y.2) hO2 hO3 hO4 hvb (hk6.trans hk10) hown11 hk11 hb11
      · show l.length - (IntKind.i64.wrap ((k : Int) + 1)).toNat < l.length - (k : Int).toNat
        rw [hinc]; omega
    · refine W_skip ?_
      refine W_region ?_
      refine o_mvt rfl ?_
      refine op_run (r_add rfl rfl) rfl ?_
      refine o_ast rfl ?_
      refine ops_nil ?_
      have g : m ≠ n := fun e => by
        have := UInt8.toNat_inj.2 e
        omega
      rw [if_neg (by rw [hm]; exact fun e => g (Option.some.inj e)), List.append_nil] at htk
      refine ⟨by (repeat (first | with_reducible exact offM_refl _ _ | refine offM_updc rfl ?_ | refine offM_upd rfl ?_ | refine offM_updo rfl ?_ | refine offM_updo_none ?_ | refine offM_head rfl rfl ?_)), ⟨k + 1, u, congrArg (fun z : Int => [u, Value.int .i64 z]) hinc, by omega, by rw [htk]; exact hkw3.k hk6⟩, ?_⟩
      show l.length - (IntKind.i64.wrap ((k : Int) + 1)).toNat < l.length - (k : Int).toNat
      rw [hinc]; omega
  · refine W_exit ?_
    refine W_seq ?_
    refine W_region ?_
    refine o_mvt rfl ?_
    refine o_ast rfl ?_
    refine ops_nil ?_
    refine W_ret ?_
    refine ret1 u rfl ?_ ?_; rfl
    have hke : k = l.length := by omega
    rw [hke, List.take_length] at hO
    exact hO
theorem rf8_part (w : World) (v : Value) (l : List It) (at_ : Nat) (n : UInt8) (ha : at_ < 64) (hv : ItIn w v l) (hl : l.length ≤ 2 ^ 20) : Ret Try.prog 30 [v, .int .i64 at_, c8 n].toArray w fun r w' => Out w w' r (partI l at_ n) := by
  obtain ⟨its0, h1, h2⟩ := hv
  exact rf8_partP w w v its0 l at_ n ha h1 h2 (Keep.refl _) hl
end Go.Proofs.Ytpiidddccmohdaa.B
