/-
  An index in memory; its items.
-/
import Derived.Test.YtkmciohghhffnaaIdx1
import Derived.Test.YtkmciohghhffnaaIdx2
import Derived.Test.YtkmciohghhffnaaLookP
import Derived.Test.YtkmciohghhffnaaMapE
namespace Go.Proofs.Ytkmciohghhffnaa.B
open Go
set_option linter.unusedVariables false
set_option maxHeartbeats 2000000
set_option maxRecDepth 100000
attribute [local irreducible] W OpsW OpsQ retP
def useR (u : UV) : List Value := [.int .i64 u.bin, .int .i64 u.slot, .int .i64 u.n]
def useV (u : UV) : Value := .agg (useR u).toArray
def itR (x : Itm) : List Value := dgR x.1 ++ useR x.2
theorem itR_len (x : Itm) : (itR x).length = 35 := by unfold itR; rw [List.length_append, dgR_len]; rfl
theorem itR_one (x : Itm) : (itR x).all one = true := by unfold itR; rw [List.all_append, dgR_one]; rfl
theorem useR_one (u : UV) : (useR u).all one = true := rfl
theorem itR_dig (x : Itm) {j : Nat} {v : Value} (h : (dgR x.1)[j]? = some v) : (itR x)[j]? = some v := by
  have hj := (List.getElem?_eq_some_iff.1 h).1
  unfold itR; rw [List.getElem?_append_left hj]; exact h
theorem itR_use (x : Itm) {j : Nat} {v : Value} (h : (useR x.2)[j]? = some v) : (itR x)[32 + j]? = some v := by
  unfold itR; rw [List.getElem?_append_right (by rw [dgR_len]; omega), dgR_len, show 32 + j - 32 = j by omega]; exact h
theorem use2 {u : UV} {j : Nat} {v : Value} (h : ([.int .i64 u.bin, .int .i64 u.slot] : List Value)[j]? = some v) : (useR u)[j]? = some v := by
  match j, h with
  | 0, h => exact h
  | 1, h => exact h
  | j + 2, h => simp at h
theorem ti_use : tinfo Try.prog 79 = some (some (.agg (useR ⟨0, 0, 0⟩).toArray), 3, 24) := by kernel_rfl
theorem ti_itm : tinfo Try.prog 89 = some (some (.agg (List.replicate 32 (c8 0) ++ useR ⟨0, 0, 0⟩).toArray), 35, 56) := by kernel_rfl
theorem fill_itm {pl : List (Nat × Nat)} {zl : List Value} {d : Dig} {a b n : Int} (hp : pl = [(0, 32), (32, 2), (34, 1)]) (hz : zl.length = 35) :
    fillV (fun i => pl[i]?) zl [(0, .agg (dgR d).toArray), (1, .agg #[.int .i64 a, .int .i64 b]), (2, .int .i64 n)] = some (itR (d, ⟨a, b, n⟩)) := by
  subst hp
  obtain ⟨A, p, q, r, rfl⟩ : ∃ A p q r, zl = A ++ [p, q, r] := by
    refine ⟨zl.take 32, zl[32], zl[33], zl[34], ?_⟩
    conv => lhs; rw [← List.take_append_drop 32 zl]
    congr 1
    rw [List.drop_eq_getElem_cons (by omega), List.drop_eq_getElem_cons (by omega), List.drop_eq_getElem_cons (by omega), List.drop_eq_nil_of_le (by omega)]
  have hA : A.length = 32 := by simpa using hz
  have hd := dgR_len d
  have e1 : splice (A ++ [p, q, r]) 0 (dgR d) = dgR d ++ [p, q, r] := by
    unfold splice; rw [List.take_zero, List.nil_append, Nat.zero_add, hd, List.drop_left' hA]
  have e2 : splice (dgR d ++ [p, q, r]) 32 [.int .i64 a, .int .i64 b] = dgR d ++ [.int .i64 a, .int .i64 b, r] := by
    unfold splice; rw [List.take_left' hd, ← List.drop_drop, List.drop_left' hd]; simp
  have e3 : splice (dgR d ++ [.int .i64 a, .int .i64 b, r]) 34 [.int .i64 n] = itR (d, ⟨a, b, n⟩) := by
    have e4 : (dgR d).take 34 = dgR d := List.take_of_length_le (by omega)
    have e5 : (dgR d).drop 35 = [] := List.drop_eq_nil_of_le (by omega)
    unfold splice itR useR; simp [List.take_append, List.drop_append, hd, e4, e5]
  have ha : (Value.agg (dgR d).toArray).cells.toList = dgR d := rfl
  have h1 : (Value.agg #[.int .i64 a, .int .i64 b]).cells.toList = [.int .i64 a, .int .i64 b] := rfl
  have h2 : (Value.int .i64 n).cells.toList = [.int .i64 n] := rfl
  have s0 : (Value.agg (dgR d).toArray).cells.size = 32 := by show (dgR d).toArray.size = 32; simp [hd]
  have s1 : (Value.agg #[Value.int .i64 a, .int .i64 b]).cells.size = 2 := rfl
  have s2 : (Value.int .i64 n).cells.size = 1 := rfl
  simp only [fillV, List.getElem?_cons_zero, List.getElem?_cons_succ]
  rw [if_pos ⟨s0, by rw [hz]; decide⟩, ha, e1, if_pos ⟨s1, by simp [hd]⟩, h1, e2, if_pos ⟨s2, by simp [hd]⟩, h2, e3]
theorem ix_item (w : World) (x : Itm) : Ret Try.prog 46 [.agg (dgR x.1).toArray, useV x.2].toArray w fun r w' => r = .agg (itR x).toArray ∧ Keep All w w' := by
  refine enter (fn := Try.f46) (n := 11) Try.func46 rfl rfl (by simp) ?_
  refine W_seq ?_
  refine W_region ?_
  refine o_box rfl rfl rfl ?_; intro w1 b1 e1 hB1 hk1 hs1
  refine o_box rfl rfl rfl ?_; intro w2 b2 e2 hB2 hk2 hs2
  refine o_alloc rfl rfl rfl ?_; intro w3 b3 e3 hB3 hk3 hs3
  have hB1' := hk3.blk' (hk2.blk' hB1 trivial) trivial
  have hB2' : Blk w3 b2 (useR x.2) 79 := hk3.blk' hB2 trivial
  have hB3' : Blk w3 b3 (List.replicate 32 (c8 0) ++ useR ⟨0, 0, 0⟩) 89 := hB3
  refine ops_nil ?_
  refine W_seq ?_
  refine W_region ?_
  refine op_run (r_loadA (dgR x.1) rfl rfl rfl (by first | rfl | (rw [binV_len]; rfl) | (rw [dgR_len]; rfl) | (rw [refR_len]; rfl) | (rw [secR_len]; rfl) | (rw [List.length_map, tagF_len]; rfl) | (rw [dgR_len]; rfl) | (rw [itR_len]; rfl)) ((Blk.all hB1'))) rfl ?_
  refine op_run (r_fieldAddr rfl rfl rfl rfl rfl) rfl ?_
  refine op_run (r_loadA ([.int .i64 x.2.bin, .int .i64 x.2.slot]) rfl rfl rfl (by first | rfl | (rw [binV_len]; rfl) | (rw [dgR_len]; rfl) | (rw [refR_len]; rfl) | (rw [secR_len]; rfl) | (rw [List.length_map, tagF_len]; rfl) | (rw [dgR_len]; rfl) | (rw [itR_len]; rfl)) ((fun j u hj => by rw [Addr.add_lit]; show w3.cell? ⟨b2, 0 + j, none⟩ = some u; rw [Nat.zero_add]; exact hB2'.cell (use2 hj)))) rfl ?_
  refine op_run (r_fieldAddr rfl rfl rfl rfl rfl) rfl ?_
  refine op_run (r_load rfl rfl rfl (hB2'.cell rfl)) rfl ?_
  refine op_run (r_build (itR x) (_) ([(0, .agg (dgR x.1).toArray), (1, .agg #[.int .i64 x.2.bin, .int .i64 x.2.slot]), (2, .int .i64 x.2.n)]) rfl rfl rfl rfl rfl (fill_itm (by kernel_rfl) (by rfl))) rfl ?_
  refine o_storeA (cs := itR x) rfl rfl (by first | rfl | exact binV_one _ | exact dgR_one _ | exact refR_one _ | exact secR_one _ | exact all_c8 _ | exact itR_one _) (by first | rfl | (rw [binV_len]; rfl) | (rw [dgR_len]; rfl) | (rw [refR_len]; rfl) | (rw [secR_len]; rfl) | (rw [List.length_map, tagF_len]; rfl) | (rw [dgR_len]; rfl) | (rw [itR_len]; rfl)) hB3' (by exact Nat.le_of_eq (by simp [itR_len]; rfl)) rfl ?_; intro w8 hB8 hk8 hs8
  have hB8' : Blk w8 b3 (itR x) 89 := by
    have h := hB8
    rwa [splice_all (by rw [itR_len]; rfl)] at h
  refine ops_nil ?_
  refine W_ret ?_
  refine retA (itR x) rfl rfl rfl rfl (by first | rfl | (rw [binV_len]; rfl) | (rw [dgR_len]; rfl) | (rw [refR_len]; rfl) | (rw [secR_len]; rfl) | (rw [List.length_map, tagF_len]; rfl) | (rw [dgR_len]; rfl) | (rw [itR_len]; rfl)) (Blk.all hB8') ?_
  exact ⟨rfl, ((hk1.trans hk2).trans hk3).new hk8 (by omega)⟩
/-- An index in memory. -/
structure IdxW (w : World) (mb bm : Nat) (l : List Itm) : Prop where
  m : Blk w mb [.map (some bm)] 83
  u : MapG kD w bm (mapP useV l)
theorem IdxW.k {w w' : World} {mb bm : Nat} {l : List Itm} (h : IdxW w mb bm l) (hk : Keep All w w') : IdxW w' mb bm l := ⟨hk.blk' h.m trivial, h.u.keep hk trivial⟩
theorem ix_New (w : World) : Ret Try.prog 31 [].toArray w fun r w' => ∃ mb bm, r = .pointer (some ⟨mb, 0, none⟩) ∧ IdxW w' mb bm [] ∧ Keep All w w' ∧ w.heap.size ≤ bm ∧ w.heap.size ≤ mb ∧ bm ≠ mb := by
  refine enter (fn := Try.f31) (n := 4) Try.func31 rfl rfl (by simp) ?_
  refine W_seq ?_
  refine W_region ?_
  refine o_asc rfl ?_
  refine ops_nil ?_
  refine W_seq ?_
  refine W_region ?_
  refine o_makeMapG kD rfl ?_; intro w1 b1 e1 hM1 hk1 hs1
  refine op_run (r_build ([.map (some b1)]) (_) ([(0, .map (some b1))]) rfl rfl rfl rfl rfl (rfl)) rfl ?_
  refine o_box (cs := [.map (some b1)]) rfl rfl rfl ?_; intro w3 b3 e3 hB3 hk3 hs3
  refine o_ast rfl ?_
  refine ops_nil ?_
  refine W_ret ?_
  refine ret1 (.pointer (some ⟨b3, 0, none⟩)) rfl ?_ ?_; rfl
  exact ⟨b3, b1, rfl, ⟨hB3, hM1.keep hk3 trivial⟩, hk1.trans hk3, by omega, by omega, by omega⟩
/-- Rising items. -/
def UpI (l : List Itm) : Prop := l.Pairwise fun a b => a.1.val < b.1.val
theorem UpI.nodup {l : List Itm} (h : UpI l) : (l.map (·.1)).Nodup := by
  unfold List.Nodup
  rw [List.pairwise_map]
  have h' : l.Pairwise (fun a b => a.1.val < b.1.val) := h
  exact h'.imp fun {a b} (hab : a.1.val < b.1.val) (e : a.1 = b.1) => List.lt_irrefl a.1.val (by rw [← e] at hab; exact hab)
theorem look_at {l : List Itm} {k : Nat} {x : Itm} (hu : UpI l) (hx : l[k]? = some x) : lookP l x.1 = some x.2 := lookP_at hu.nodup (List.mem_of_getElem? hx)
theorem ix_Items (w : World) (mb bm : Nat) (l : List Itm) (h : IdxW w mb bm l) (hu : UpI l) (hl : l.length ≤ 1000000) :
    Ret Try.prog 12 [.pointer (some ⟨mb, 0, none⟩)].toArray w fun r w' => Own w' 89 35 r l.length (rows itR l) ∧ Keep All w w' ∧ InB (fun z => w.heap.size ≤ z) r := by
  have hkeys : (mapP useV l).map (·.1) = l.map (·.1) := mapP_keys _ _
  refine enter (fn := Try.f12) (n := 29) Try.func12 rfl rfl (by simp) ?_
  refine W_seq ?_
  refine W_region ?_
  refine o_asc rfl ?_
  refine ops_nil ?_
  refine W_seq ?_
  refine W_seq ?_
  refine W_region ?_
  refine o_mvt rfl ?_
  refine op_run (r_nilCheck rfl) rfl ?_
  refine op_run (r_fieldAddr rfl rfl rfl rfl rfl) rfl ?_
  refine op_run (r_load rfl rfl rfl (h.m.cell rfl)) rfl ?_
  refine op_call rfl rfl rfl (kd_Keys w bm) ?_; rintro v2 w2 ⟨rfl, hB2, hk2, hs2⟩
  obtain ⟨es, cl, hes1, hes2, hes3⟩ := (h.u.keep hk2 trivial)
  refine op_call rfl rfl rfl (sl_SortedD w2 (mapP useV l) (l.map (·.1)) (by rw [hkeys]) (by rw [List.pairwise_map]; exact hu) w.heap.size bm (.map es cl) (by unfold mapP; rw [List.length_map]; exact hl) (fun w1 hw1 => ⟨es, cl, hw1.2, hes2, hes3⟩) ⟨hB2, hes1⟩) ?_; rintro v3 w3 ⟨hS3, hk3, hi3⟩
  have hk03 := hk2.trans hk3
  have h3 := h.k hk03
  rw [List.length_map] at hS3
  obtain ⟨a3, c3, rfl, hc3, hcm3⟩ := hS3.form
  refine op_run (r_len rfl rfl rfl) rfl ?_
  refine o_mvc rfl ?_
  refine ops_nil ?_
  refine W_block ?_
  refine W_loop [2, 12] [2, 4, 12, 13, 14, 15, 16, 17, 18, 19, 20, 21, 22, 23, 24, 25, 26, 27] (fun vs w' => ∃ (u : Value) (k : Nat), vs = [u, .int .i64 k] ∧ k ≤ l.length ∧ Own w' 89 35 u k (rows itR (l.take k)) ∧ InB (fun z => w3.heap.size ≤ z) u ∧ Keep All w3 w') (fun vs _ => match vs with | [_, .int _ y] => l.length - y.toNat | _ => 0) ⟨.slice none 0 0, 0, rfl, Nat.zero_le _, own_nil _ _ _, InB.nil, Keep.refl _⟩ ?_
  rintro J4 vs w4 ⟨u, k, rfl, hk, hOu, hIu, hk4⟩ -
  refine W_seq ?_
  refine W_region ?_
  refine op_run (r_lss rfl rfl) rfl ?_
  refine ops_nil ?_
  refine W_seq ?_
  refine W_cond_p rfl (fun h5 => ?_) (fun h5 => ?_)
  · refine W_skip ?_
    refine W_seq ?_
    refine W_block ?_
    refine W_seq ?_
    refine W_region ?_
    have hkl : k < l.length := by omega
    have hinc := inc64' k (by omega)
    obtain ⟨x, hx⟩ : ∃ x, l[k]? = some x := ⟨_, List.getElem?_eq_getElem hkl⟩
    have hS4 := hS3.keep hk4 (fun _ _ => trivial)
    have hrow : rows dgR (l.map (·.1)) = rows (fun y : Itm => dgR y.1) l := by unfold rows; rw [List.flatMap_map]
    rw [hrow] at hS4
    obtain ⟨sb, so, rfl, hcx⟩ := rows_at' (row := fun y : Itm => dgR y.1) (fun y => dgR_len y.1) hS4 hkl (by decide)
    have hxe : l[k] = x := by rw [List.getElem?_eq_getElem hkl] at hx; exact Option.some.inj hx
    rw [hxe] at hcx
    refine op_run (r_idxS rfl rfl rfl rfl (by omega) (by omega)) rfl ?_
    refine op_run (r_loadA (dgR x.1) rfl rfl rfl (by first | rfl | (rw [binV_len]; rfl) | (rw [dgR_len]; rfl) | (rw [refR_len]; rfl) | (rw [secR_len]; rfl) | (rw [List.length_map, tagF_len]; rfl) | (rw [dgR_len]; rfl) | (rw [itR_len]; rfl)) ((fun j v hj => by rw [Int.toNat_natCast]; exact hcx j v hj))) rfl ?_
    refine o_alloc rfl rfl rfl ?_; intro w8 b8 e8 hB8 hk8 hs8
    have hB8' : Blk w8 b8 (List.replicate 32 (c8 0)) 41 := hB8
    refine o_storeA (cs := dgR x.1) rfl rfl (by first | rfl | exact binV_one _ | exact dgR_one _ | exact refR_one _ | exact secR_one _ | exact all_c8 _ | exact dgR_one _) (by first | rfl | (rw [binV_len]; rfl) | (rw [dgR_len]; rfl) | (rw [refR_len]; rfl) | (rw [secR_len]; rfl) | (rw [List.length_map, tagF_len]; rfl) | (rw [dgR_len]; rfl) | (rw [itR_len]; rfl)) hB8' (by exact Nat.le_of_eq (by simp [dgR_len])) rfl ?_; intro w9 hB9 hk9 hs9
    have hB9' : Blk w9 b8 (dgR x.1) 41 := by
      have h := hB9
      rwa [splice_all (by rw [dgR_len]; rfl)] at h
    have hk9' : Keep All w4 w9 := hk8.new hk9 (by omega)
    have h9 := (h3.k hk4).k hk9'
    refine ops_nil ?_
    refine W_gate 9 (fun w' => Keep All w9 w') (by kernel_rfl) (Keep.drawn w9) (fun hS => ?_)
    refine gt_run 1 (fun w' hS' => (r_loadA (dgR x.1) rfl rfl rfl (by first | rfl | (rw [binV_len]; rfl) | (rw [dgR_len]; rfl) | (rw [refR_len]; rfl) | (rw [secR_len]; rfl) | (rw [List.length_map, tagF_len]; rfl) | (rw [dgR_len]; rfl) | (rw [itR_len]; rfl)) ((Blk.all (hS'.blk' hB9' trivial))))) rfl (by kernel_rfl) (by kernel_rfl) (by kernel_rfl) (by kernel_rfl) rfl hS ?_
    refine gt_mvt 2 rfl (by kernel_rfl) (by kernel_rfl) (by kernel_rfl) (by kernel_rfl) rfl hS ?_
    refine gt_run 3 (fun w' hS' => (r_nilCheck rfl)) rfl (by kernel_rfl) (by kernel_rfl) (by kernel_rfl) (by kernel_rfl) rfl hS ?_
    refine gt_run 4 (fun w' hS' => (r_fieldAddr rfl rfl rfl rfl rfl)) rfl (by kernel_rfl) (by kernel_rfl) (by kernel_rfl) (by kernel_rfl) rfl hS ?_
    refine gt_run 5 (fun w' hS' => (r_load rfl rfl rfl (((hS'.blk' h9.m trivial).cell rfl)))) rfl (by kernel_rfl) (by kernel_rfl) (by kernel_rfl) (by kernel_rfl) rfl hS ?_
    refine gt_run 6 (fun w' hS' => (r_loadA (dgR x.1) rfl rfl rfl (by first | rfl | (rw [binV_len]; rfl) | (rw [dgR_len]; rfl) | (rw [refR_len]; rfl) | (rw [secR_len]; rfl) | (rw [List.length_map, tagF_len]; rfl) | (rw [dgR_len]; rfl) | (rw [itR_len]; rfl)) ((Blk.all (hS'.blk' hB9' trivial))))) rfl (by kernel_rfl) (by kernel_rfl) (by kernel_rfl) (by kernel_rfl) rfl hS ?_
    refine gt_run 7 (fun w' hS' => ((r_lookupG (a := x.1) (keyOk_D) rfl rfl rfl ti_use ((h9.u.keep hS' trivial))).val ((by rw [getA_look, look_at hu hx])))) rfl (by kernel_rfl) (by kernel_rfl) (by kernel_rfl) (by kernel_rfl) rfl hS ?_
    refine gp_mvt 0 rfl (by kernel_rfl) (by kernel_rfl) (by kernel_rfl) (by kernel_rfl) rfl hS ?_
    refine gt_one 8 (by kernel_rfl) (one_of rfl ?_)
    refine op_call rfl rfl rfl (ix_item _ x) ?_; rintro v15 w15 ⟨rfl, hk15⟩
    refine ops_nil ⟨(hS.trans hk15), fun hS => ?_⟩
    refine gt_past 9 (by kernel_rfl) (by kernel_rfl) (one_of rfl ?_)
    refine o_bsR itR itR_len [x] rfl ti_itm rfl rfl rfl rfl rfl rfl ?_; intro w17 b17 e17 hB17 hk17 hs17
    have hk917 : Keep All w9 w17 := hS.trans hk17
    have hO17 := (hOu.keep hk9' (fun _ _ => trivial)).keep hk917 (fun _ _ => trivial)
    refine ops_nil ?_
    refine gt_past 10 (by kernel_rfl) (by kernel_rfl) (one_of rfl ?_)
    refine o_app (v := u) (c := 1) (m := k) (k := 1) (rows itR [x]) rfl rfl rfl ti_itm rfl (by decide) hO17 (by rw [rows_len itR_len]; rfl) hB17.all (rows_one itR_one _) (by unfold maxLen; omega) (by omega) rfl ?_; intro v18 w18 hown18 hk18 hb18
    refine ops_nil ?_
    refine gt_past 11 (by kernel_rfl) (by kernel_rfl) (one_of rfl ?_)
    refine o_ast rfl ?_
    refine ops_nil ?_
    refine gt_done (by kernel_rfl) ?_
    refine W_region ?_
    refine op_run (r_add rfl rfl) rfl ?_
    refine o_mvt rfl ?_
    refine ops_nil ?_
    have hz9 := hk9'.size
    have hz4 := hk4.size
    have hz17 := hk917.size
    refine ⟨by (repeat (first | with_reducible exact offM_refl _ _ | refine offM_updc rfl ?_ | refine offM_upd rfl ?_ | refine offM_updo rfl ?_ | refine offM_updo_none ?_ | refine offM_head rfl rfl ?_)), ⟨v18, k + 1, congrArg (fun z : Int => [v18, Value.int .i64 z]) hinc, by omega, ?_, ?_, ?_⟩, ?_⟩
    · rw [List.take_succ_eq_append_getElem hkl, hxe, rows_app]; exact hown18
    · intro z hz
      rcases hb18 z hz with h | h
      · exact hIu z h
      · omega
    · exact ((hk4.trans hk9').trans hk917).low hk18 (fun z hz e => by have := hIu z e.symm; omega)
    · show l.length - (IntKind.i64.wrap ((k : Int) + 1)).toNat < l.length - (k : Int).toNat
      rw [hinc]; omega
  · refine W_exit ?_
    refine W_seq ?_
    refine W_region ?_
    refine o_mvt rfl ?_
    refine o_ast rfl ?_
    refine ops_nil ?_
    refine W_ret ?_
    refine ret1 u rfl ?_ ?_; rfl
    have e : k = l.length := by omega
    subst e
    rw [List.take_length] at hOu
    exact ⟨hOu, hk03.trans hk4, hIu.mono fun z hz => by have := hk03.size; omega⟩
end Go.Proofs.Ytkmciohghhffnaa.B
