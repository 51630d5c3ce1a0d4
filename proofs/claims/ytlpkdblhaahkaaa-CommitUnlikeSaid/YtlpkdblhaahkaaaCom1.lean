/-
  Commits in memory; commits as bytes: refs, list, bytes.
-/
import Derived.Test.YtlpkdblhaahkaaaBin1
import Derived.Test.YtlpkdblhaahkaaaCommitP
import Derived.Test.YtlpkdblhaahkaaaRowsK
import Derived.Test.YtlpkdblhaahkaaaMSha
namespace Go.Proofs.Ytlpkdblhaahkaaa.B
open Go
set_option linter.unusedVariables false
set_option maxHeartbeats 2000000
set_option maxRecDepth 100000
attribute [local irreducible] W OpsW OpsQ retP
def cmV (c : Cm) (vb ve : Value) : List Value := [.int .u64 c.epoch] ++ (refR c.prev ++ (refR c.vols ++ (refR c.idx ++ ([vb] ++ (dgR c.state ++ [ve])))))
theorem cmV_len (c : Cm) (vb ve : Value) : (cmV c vb ve).length = 137 := by unfold cmV; simp only [List.length_append, refR_len, dgR_len]; rfl
theorem cmV_epoch (c : Cm) (vb ve : Value) : (cmV c vb ve)[0]? = some (.int .u64 c.epoch) := rfl
theorem cmV_prev (c : Cm) (vb ve : Value) {j : Nat} {v : Value} (h : (refR c.prev)[j]? = some v) : (cmV c vb ve)[1 + j]? = some v := mid_get (A := [.int .u64 c.epoch]) rfl h
theorem cmV_vols (c : Cm) (vb ve : Value) {j : Nat} {v : Value} (h : (refR c.vols)[j]? = some v) : (cmV c vb ve)[35 + j]? = some v := by
  unfold cmV; rw [← List.append_assoc]
  exact mid_get (by rw [List.length_append, refR_len]; rfl) h
theorem cmV_idx (c : Cm) (vb ve : Value) {j : Nat} {v : Value} (h : (refR c.idx)[j]? = some v) : (cmV c vb ve)[69 + j]? = some v := by
  unfold cmV; rw [← List.append_assoc, ← List.append_assoc]
  exact mid_get (by simp only [List.length_append, refR_len]; rfl) h
theorem cmV_bins (c : Cm) (vb ve : Value) : (cmV c vb ve)[103]? = some vb := by
  unfold cmV; rw [← List.append_assoc, ← List.append_assoc, ← List.append_assoc]
  exact mid_get (j := 0) (by simp only [List.length_append, refR_len]; rfl) rfl
theorem cmV_state (c : Cm) (vb ve : Value) {j : Nat} {v : Value} (h : (dgR c.state)[j]? = some v) : (cmV c vb ve)[104 + j]? = some v := by
  unfold cmV; rw [← List.append_assoc, ← List.append_assoc, ← List.append_assoc, ← List.append_assoc]
  exact mid_get (by simp only [List.length_append, refR_len]; rfl) h
theorem cmV_events (c : Cm) (vb ve : Value) : (cmV c vb ve)[136]? = some ve := by
  unfold cmV; rw [← List.append_assoc, ← List.append_assoc, ← List.append_assoc, ← List.append_assoc, ← List.append_assoc]
  rw [List.getElem?_append_right (by simp only [List.length_append, refR_len, dgR_len]; exact Nat.le_refl 136)]
  simp only [List.length_append, refR_len, dgR_len]; rfl
theorem cmV_one (c : Cm) {vb ve : Value} (hb : one vb = true) (he : one ve = true) : (cmV c vb ve).all one = true := by
  unfold cmV; simp only [List.all_append, refR_one, dgR_one, List.all_cons, List.all_nil, hb, he]; rfl
theorem ti_bin : tinfo Try.prog 59 = some (some (.agg (binV Bn.zero).toArray), 35, 56) := by kernel_rfl
/-- A commit in memory. -/
def CmIn (w : World) (c : Cm) (vb ve : Value) (vks : List Value) : Prop := Sl w vb c.bins.length 35 (rows binV c.bins) ∧ RowsV w ve vks c.events
theorem CmIn.k {w w' : World} {c : Cm} {vb ve : Value} {vks : List Value} (h : CmIn w c vb ve vks) (hk : Keep All w w') : CmIn w' c vb ve vks := ⟨h.1.k hk, h.2.k hk⟩
/-- It has no more than so much. -/
structure Cm.small (c : Cm) : Prop where
  epoch : c.epoch < 2 ^ 64
  nbins : c.bins.length ≤ 65536
  nev : c.events.length ≤ 65536
  ev : ∀ x ∈ c.events, x.length ≤ 100000
theorem cm_refs (w : World) (b : Nat) : Ret Try.prog 20 [.pointer (some ⟨b, 0, none⟩)].toArray w fun r w' => ∃ s, r = .slice (some ⟨s, 0, none⟩) 3 3 ∧ w.heap.size ≤ s ∧ s < w'.heap.size ∧
    Blk w' s [.pointer (some ⟨b, 1, none⟩), .pointer (some ⟨b, 35, none⟩), .pointer (some ⟨b, 69, none⟩)] 55 ∧ Keep All w w' := by
  refine enter (fn := Try.f20) (n := 13) Try.func20 rfl rfl (by simp) ?_
  refine W_seq ?_
  refine W_region ?_
  refine o_asc rfl ?_
  refine ops_nil ?_
  refine W_seq ?_
  refine W_tail 9 (by kernel_rfl) (by kernel_rfl) ?_; intro w1 hk1 hs1
  refine q_mvt rfl ?_
  refine q_run (still1 (r_nilCheck rfl)) rfl ?_
  refine q_run (still1 (r_fieldAddr rfl rfl rfl rfl rfl)) rfl ?_
  refine q_mvt rfl ?_
  refine q_run (still1 (r_nilCheck rfl)) rfl ?_
  refine q_run (still1 (r_fieldAddr rfl rfl rfl rfl rfl)) rfl ?_
  refine q_mvt rfl ?_
  refine q_run (still1 (r_nilCheck rfl)) rfl ?_
  refine q_run (still1 (r_fieldAddr rfl rfl rfl rfl rfl)) rfl ?_
  refine q_nil ?_
  refine o_bsL ([.pointer (some ⟨b, 1, none⟩), .pointer (some ⟨b, 35, none⟩), .pointer (some ⟨b, 69, none⟩)]) rfl rfl rfl rfl rfl rfl rfl rfl rfl ?_; intro w2 b2 e2 hB2 hk2 hs2
  refine o_ast rfl ?_
  refine ops_nil ?_
  refine W_ret ?_
  refine ret1 (.slice (some ⟨b2, 0, none⟩) 3 3) rfl ?_ ?_; rfl
  have hz := hk1.size
  exact ⟨b2, rfl, by omega, by omega, hB2, hk1.trans hk2⟩
theorem flatBn_len (l : List Bn) : (l.flatMap encBn).length ≤ 62 * l.length := by
  induction l with
  | nil => simp
  | cons x l ih => rw [List.flatMap_cons, List.length_append, List.length_cons]; have := encBn_len x; omega
theorem take_flatMap {α : Type} {f : α → List UInt8} {l : List α} {k : Nat} (hk : k < l.length) : (l.take (k + 1)).flatMap f = (l.take k).flatMap f ++ f l[k] := by
  rw [List.take_succ_eq_append_getElem hk, List.flatMap_append]; simp
theorem flatTake_le {f : Bn → List UInt8} (l : List Bn) (k : Nat) : ((l.take k).flatMap f).length ≤ (l.flatMap f).length := by
  have h := List.take_append_drop k l
  have : (l.flatMap f).length = ((l.take k).flatMap f).length + ((l.drop k).flatMap f).length := by
    rw [← List.length_append, ← List.flatMap_append, h]
  omega
theorem cm_listB (w : World) (v vb : Value) (xs : List UInt8) (l : List Bn) (hown : OwnB w 5 v xs) (hb : ∀ w', Keep (fun z => some z ≠ v.ownBlock) w w' → Sl w' vb l.length 35 (rows binV l)) (hl : l.length ≤ 65536) (hlen : xs.length + 62 * l.length + 100 ≤ 2 ^ 40) :
    Ret Try.prog 52 [v, vb, .func (.func 49) #[] #[]].toArray w fun u w' => OwnB w' 5 u (xs ++ (encN l.length ++ l.flatMap encBn)) ∧ Keep (fun z => some z ≠ v.ownBlock) w w' ∧ InB (fun z => v.ownBlock = some z ∨ w.heap.size ≤ z) u := by
  obtain ⟨ab, cb, rfl, hcb, hcbm⟩ := (hb w (Keep.refl _)).form
  have hfl := flatBn_len l
  refine enter (fn := Try.f52) (n := 26) Try.func52 rfl rfl (by simp) ?_
  refine W_seq ?_
  refine W_region ?_
  refine o_asc rfl ?_
  refine ops_nil ?_
  refine W_seq ?_
  refine W_region ?_
  refine o_mvt rfl ?_
  refine o_mvt rfl ?_
  refine op_run (r_len rfl rfl rfl) rfl ?_
  refine op_run ((r_conv rfl rfl rfl).val (congrArg (Value.int .u64) (show IntKind.u64.wrap (l.length : Int) = ((l.length : Nat) : Int) from by rw [wrap_u64]; omega))) rfl ?_
  refine op_call rfl rfl rfl (pack_Number w v xs l.length (by omega) hown (by omega)) ?_; rintro v1 w1 ⟨hO1, hk1, hin1⟩
  have hnl := encN_len10 (v := l.length) (by omega)
  refine o_ast rfl ?_
  refine ops_nil ?_
  refine W_seq ?_
  refine W_seq ?_
  refine W_region ?_
  refine o_mvt rfl ?_
  refine op_run (r_len rfl rfl rfl) rfl ?_
  refine o_mvc rfl ?_
  refine ops_nil ?_
  refine W_block ?_
  refine W_loop [0, 16] [0, 8, 16, 17, 18, 19, 20, 21, 22, 23, 24] (fun vs w' => ∃ (u : Value) (k : Nat), vs = [u, .int .i64 k] ∧ k ≤ l.length ∧ OwnB w' 5 u (xs ++ (encN l.length ++ (l.take k).flatMap encBn)) ∧ Keep (fun z => some z ≠ v.ownBlock) w w' ∧ InB (fun z => v.ownBlock = some z ∨ w.heap.size ≤ z) u) (fun vs _ => match vs with | [_, .int _ y] => l.length - y.toNat | _ => 0) ⟨v1, 0, rfl, Nat.zero_le _, by rw [List.take_zero, List.flatMap_nil, List.append_nil]; exact hO1, hk1, hin1⟩ ?_
  rintro J2 vs w2 ⟨u, k, rfl, hk, hO, hkA, hin⟩ -
  refine W_seq ?_
  refine W_region ?_
  refine op_run (r_lss rfl rfl) rfl ?_
  refine ops_nil ?_
  refine W_seq ?_
  refine W_cond_p rfl (fun h3 => ?_) (fun h3 => ?_)
  · refine W_skip ?_
    refine W_seq ?_
    refine W_block ?_
    refine W_seq ?_
    refine W_region ?_
    have hkl : k < l.length := by omega
    have hS := hb w2 hkA
    obtain ⟨bp, op, rfl, hcell⟩ := rows_at' (i := k) binV_len hS hkl (by decide)
    have hft := flatTake_le (f := encBn) l k
    refine op_run (r_idxS rfl rfl rfl ti_bin (by omega) (by omega)) rfl ?_
    refine op_run (r_loadA (binV l[k]) rfl rfl rfl (by first | rfl | (rw [binV_len]; rfl) | (rw [dgR_len]; rfl) | (rw [refR_len]; rfl) | (rw [secR_len]; rfl) | (rw [List.length_map, tagF_len]; rfl)) ((by intro j x hj; rw [Int.toNat_natCast]; exact hcell j x hj))) rfl ?_
    refine o_alloc rfl rfl rfl ?_; intro w6 b6 e6 hB6 hk6 hs6
    refine o_storeA (cs := binV l[k]) rfl rfl (by first | rfl | exact binV_one _ | exact dgR_one _ | exact refR_one _ | exact secR_one _ | exact all_c8 _) (by first | rfl | (rw [binV_len]; rfl) | (rw [dgR_len]; rfl) | (rw [refR_len]; rfl) | (rw [secR_len]; rfl) | (rw [List.length_map, tagF_len]; rfl)) hB6 (by exact Nat.le_of_eq (by simp [binV_len])) rfl ?_; intro w7 hB7 hk7 hs7
    have hB7 : Blk w7 b6 (binV l[k]) 59 := by
      have h := hB7
      rwa [splice_all (by simp [binV_len])] at h
    have hk27 : Keep All w2 w7 := hk6.new hk7 (by omega)
    have hz2 := hkA.size
    have hz7 := hk27.size
    have hlt7 := hB7.lt
    refine ops_nil ?_
    refine W_region ?_
    refine o_mvt rfl ?_
    refine o_mvt rfl ?_
    refine op_run (r_loadA (binV l[k]) rfl rfl rfl (by first | rfl | (rw [binV_len]; rfl) | (rw [dgR_len]; rfl) | (rw [refR_len]; rfl) | (rw [secR_len]; rfl) | (rw [List.length_map, tagF_len]; rfl)) (hB7.all)) rfl ?_
    refine op_call rfl rfl rfl (bn_Put w7 u (xs ++ (encN l.length ++ (l.take k).flatMap encBn)) l[k] (hO.keep hk27 (fun _ _ => trivial)) (by simp only [List.length_append]; omega)) ?_; rintro v9 w9 ⟨hO9, hk9, hin9⟩
    refine o_ast rfl ?_
    refine ops_nil ?_
    refine W_region ?_
    refine op_run (r_add rfl rfl) rfl ?_
    refine o_mvt rfl ?_
    refine ops_nil ?_
    have hinc := inc64' k (by omega)
    refine ⟨by (repeat (first | with_reducible exact offM_refl _ _ | refine offM_updc rfl ?_ | refine offM_upd rfl ?_ | refine offM_updo rfl ?_ | refine offM_updo_none ?_ | refine offM_head rfl rfl ?_)), ⟨v9, k + 1, congrArg (fun z : Int => [v9, Value.int .i64 z]) hinc, by omega, by rw [take_flatMap hkl, ← List.append_assoc (encN _), ← List.append_assoc]; exact hO9, (hkA.trans hk27.all).own hk9 (fun y hy hA => (hin y hy).resolve_left (fun e => hA e.symm)), fun y hy => ?_⟩, ?_⟩
    · rcases hin9 y hy with h | h
      · exact hin y h
      · exact .inr (by omega)
    · show l.length - (IntKind.i64.wrap ((k : Int) + 1)).toNat < l.length - (k : Int).toNat
      rw [hinc]; omega
  · refine W_exit ?_
    refine W_seq ?_
    refine W_region ?_
    refine o_mvt rfl ?_
    refine o_ast rfl ?_
    refine ops_nil ?_
    refine W_ret ?_
    refine ret1 u rfl ?_ ?_; rfl
    have hke : k = l.length := by omega
    subst hke
    rw [List.take_length] at hO
    exact ⟨hO, hkA, hin⟩
theorem flatB_len {l : List (List UInt8)} (h : ∀ x ∈ l, x.length ≤ 100000) : (l.flatMap encB).length ≤ 100010 * l.length := by
  induction l with
  | nil => simp
  | cons x l ih =>
    rw [List.flatMap_cons, List.length_append, List.length_cons]
    have h1 := h x (List.mem_cons_self ..)
    have h2 := ih fun y hy => h y (List.mem_cons_of_mem _ hy)
    have h3 := encN_len10 (v := x.length) (by omega)
    have h4 : (encB x).length = (encN x.length).length + x.length := by unfold encB; rw [List.length_append]
    omega
theorem flatTakeB_le (l : List (List UInt8)) (k : Nat) : ((l.take k).flatMap encB).length ≤ (l.flatMap encB).length := by
  have h := List.take_append_drop k l
  have : (l.flatMap encB).length = ((l.take k).flatMap encB).length + ((l.drop k).flatMap encB).length := by
    rw [← List.length_append, ← List.flatMap_append, h]
  omega
theorem cm_listE (w : World) (v ve : Value) (vks : List Value) (xs : List UInt8) (l : List (List UInt8)) (hown : OwnB w 5 v xs) (hb : ∀ w', Keep (fun z => some z ≠ v.ownBlock) w w' → RowsV w' ve vks l) (hl : l.length ≤ 65536) (hle : ∀ x ∈ l, x.length ≤ 100000) (hlen : xs.length + 100010 * l.length + 100 ≤ 2 ^ 40) :
    Ret Try.prog 53 [v, ve, .func (.func 54) #[] #[]].toArray w fun u w' => OwnB w' 5 u (xs ++ (encN l.length ++ l.flatMap encB)) ∧ Keep (fun z => some z ≠ v.ownBlock) w w' ∧ InB (fun z => v.ownBlock = some z ∨ w.heap.size ≤ z) u := by
  obtain ⟨ab, cb, rfl, hcb, hcbm⟩ := (hb w (Keep.refl _)).2.1.form
  have hvl := (hb w (Keep.refl _)).1
  have hfl := flatB_len hle
  refine enter (fn := Try.f53) (n := 26) Try.func53 rfl rfl (by simp) ?_
  refine W_seq ?_
  refine W_region ?_
  refine o_asc rfl ?_
  refine ops_nil ?_
  refine W_seq ?_
  refine W_region ?_
  refine o_mvt rfl ?_
  refine o_mvt rfl ?_
  refine op_run (r_len rfl rfl rfl) rfl ?_
  refine op_run ((r_conv rfl rfl rfl).val (congrArg (Value.int .u64) (show IntKind.u64.wrap (l.length : Int) = ((l.length : Nat) : Int) from by rw [wrap_u64]; omega))) rfl ?_
  refine op_call rfl rfl rfl (pack_Number w v xs l.length (by omega) hown (by omega)) ?_; rintro v1 w1 ⟨hO1, hk1, hin1⟩
  have hnl := encN_len10 (v := l.length) (by omega)
  refine o_ast rfl ?_
  refine ops_nil ?_
  refine W_seq ?_
  refine W_seq ?_
  refine W_region ?_
  refine o_mvt rfl ?_
  refine op_run (r_len rfl rfl rfl) rfl ?_
  refine o_mvc rfl ?_
  refine ops_nil ?_
  refine W_block ?_
  refine W_loop [0, 16] [0, 8, 16, 17, 18, 19, 20, 21, 22, 23, 24] (fun vs w' => ∃ (u : Value) (k : Nat), vs = [u, .int .i64 k] ∧ k ≤ l.length ∧ OwnB w' 5 u (xs ++ (encN l.length ++ (l.take k).flatMap encB)) ∧ Keep (fun z => some z ≠ v.ownBlock) w w' ∧ InB (fun z => v.ownBlock = some z ∨ w.heap.size ≤ z) u) (fun vs _ => match vs with | [_, .int _ y] => l.length - y.toNat | _ => 0) ⟨v1, 0, rfl, Nat.zero_le _, by rw [List.take_zero, List.flatMap_nil, List.append_nil]; exact hO1, hk1, hin1⟩ ?_
  rintro J2 vs w2 ⟨u, k, rfl, hk, hO, hkA, hin⟩ -
  refine W_seq ?_
  refine W_region ?_
  refine op_run (r_lss rfl rfl) rfl ?_
  refine ops_nil ?_
  refine W_seq ?_
  refine W_cond_p rfl (fun h3 => ?_) (fun h3 => ?_)
  · refine W_skip ?_
    refine W_seq ?_
    refine W_block ?_
    refine W_seq ?_
    refine W_region ?_
    have hkl : k < l.length := by omega
    have hS := hb w2 hkA
    obtain ⟨vk, hvk⟩ : ∃ vk, vks[k]? = some vk := ⟨_, List.getElem?_eq_getElem (by omega)⟩
    obtain ⟨bp, op, cp, ep, hcell⟩ := hS.at hvk
    cases ep
    have hft := flatTakeB_le l k
    have hz2 := hkA.size
    have hlk := hle l[k] (List.getElem_mem hkl)
    have hlk2 : ((l.take k).flatMap encB).length + (encB l[k]).length ≤ (l.flatMap encB).length := by
      have := flatTakeB_le l (k + 1)
      rw [take_flatMap hkl, List.length_append] at this; exact this
    have hlk3 := encB_ge' l[k]
    refine op_run (r_idxS1 rfl rfl rfl rfl (by omega) (by omega)) rfl ?_
    refine op_run (r_load rfl rfl rfl hcell) rfl ?_
    refine o_ast rfl ?_
    refine ops_nil ?_
    refine W_region ?_
    refine o_mvt rfl ?_
    refine o_mvt rfl ?_
    refine o_mvt rfl ?_
    refine op_call rfl rfl rfl (pack_Bytes w2 u vk (xs ++ (encN l.length ++ (l.take k).flatMap encB)) l[k] hO (fun w' hk' => (hb w' (hkA.own hk' (fun y hy hA => (hin y hy).resolve_left (fun e => hA e.symm)))).2.2 k vk l[k] hvk (List.getElem?_eq_getElem hkl)) (by simp only [List.length_append]; omega)) ?_; rintro v6 w6 ⟨hO6, hk6, hin6⟩
    refine o_ast rfl ?_
    refine ops_nil ?_
    refine W_region ?_
    refine op_run (r_add rfl rfl) rfl ?_
    refine o_mvt rfl ?_
    refine ops_nil ?_
    have hinc := inc64' k (by omega)
    refine ⟨by (repeat (first | with_reducible exact offM_refl _ _ | refine offM_updc rfl ?_ | refine offM_upd rfl ?_ | refine offM_updo rfl ?_ | refine offM_updo_none ?_ | refine offM_head rfl rfl ?_)), ⟨v6, k + 1, congrArg (fun z : Int => [v6, Value.int .i64 z]) hinc, by omega, by rw [take_flatMap hkl, ← List.append_assoc (encN _), ← List.append_assoc]; exact hO6, hkA.own hk6 (fun y hy hA => (hin y hy).resolve_left (fun e => hA e.symm)), fun y hy => ?_⟩, ?_⟩
    · rcases hin6 y hy with h | h
      · exact hin y h
      · exact .inr (by omega)
    · show l.length - (IntKind.i64.wrap ((k : Int) + 1)).toNat < l.length - (k : Int).toNat
      rw [hinc]; omega
  · refine W_exit ?_
    refine W_seq ?_
    refine W_region ?_
    refine o_mvt rfl ?_
    refine o_ast rfl ?_
    refine ops_nil ?_
    refine W_ret ?_
    refine ret1 u rfl ?_ ?_; rfl
    have hke : k = l.length := by omega
    subst hke
    rw [List.take_length] at hO
    exact ⟨hO, hkA, hin⟩
end Go.Proofs.Ytlpkdblhaahkaaa.B
