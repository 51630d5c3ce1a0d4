/-
  index.Encode; sporranref11.Same.
-/
import Derived.Test.YtkmciohghhffnaaIdx4
import Derived.Test.YtkmciohghhffnaaMRef
namespace Go.Proofs.Ytkmciohghhffnaa.B
open Go
set_option linter.unusedVariables false
set_option maxHeartbeats 2000000
set_option maxRecDepth 100000
attribute [local irreducible] W OpsW OpsQ retP
theorem itR_inj {a b : Itm} : itR a = itR b ↔ a = b := by
  constructor
  · intro h
    obtain ⟨d, u, s, n⟩ := a
    obtain ⟨d', u', s', n'⟩ := b
    unfold itR at h
    obtain ⟨h1, h2⟩ := List.append_inj h (by rw [dgR_len, dgR_len])
    obtain rfl := dgR_inj.1 h1
    unfold useR at h2
    simp only [List.cons.injEq, Value.int.injEq, true_and, and_true] at h2
    obtain ⟨rfl, rfl, rfl⟩ := h2
    rfl
  · rintro rfl; rfl
theorem okC_plc (a b : Int) : okC Try.prog 2 77 [.int .i64 a, .int .i64 b] := by
  show okC Try.prog (1 + 1) 77 [.int .i64 a, .int .i64 b]
  unfold okC
  rw [Try.underlying77]
  simp only
  refine ⟨by kernel_rfl, by kernel_rfl, ?_⟩
  have c1 : Try.prog.cellsOf 3 = 1 := by kernel_rfl
  intro f hf
  simp only [List.mem_cons, List.not_mem_nil, or_false] at hf
  rcases hf with rfl | rfl
  · refine ⟨by kernel_rfl, ?_⟩
    simp only [c1]
    exact okC_int Try.underlying3 _
  · refine ⟨by kernel_rfl, ?_⟩
    simp only [c1]
    exact okC_int Try.underlying3 _
theorem okC_itm (x : Itm) : okC Try.prog 3 89 (itR x) := by
  show okC Try.prog (2 + 1) 89 (itR x)
  unfold okC
  rw [Try.underlying89]
  simp only
  refine ⟨by kernel_rfl, by rw [itR_len]; kernel_rfl, ?_⟩
  have c0 : Try.prog.cellsOf 41 = 32 := by kernel_rfl
  have c1 : Try.prog.cellsOf 3 = 1 := by kernel_rfl
  have c2 : Try.prog.cellsOf 77 = 2 := by kernel_rfl
  have e32 : (itR x).drop 32 = useR x.2 := by unfold itR; rw [List.drop_left' (dgR_len _)]
  have e34 : (itR x).drop 34 = [.int .i64 x.2.n] := by rw [show (34 : Nat) = 32 + 2 from rfl, ← List.drop_drop, e32]; rfl
  intro f hf
  simp only [List.mem_cons, List.not_mem_nil, or_false] at hf
  rcases hf with rfl | rfl | rfl
  · refine ⟨by kernel_rfl, ?_⟩
    simp only [c0]
    rw [show ((itR x).drop 0).take 32 = dgR x.1 by rw [List.drop_zero]; unfold itR; rw [List.take_left' (dgR_len _)]]
    exact okC_dgR x.1
  · refine ⟨by kernel_rfl, ?_⟩
    simp only [c2]
    rw [e32]
    exact okC_plc _ _
  · refine ⟨by kernel_rfl, ?_⟩
    simp only [c1]
    rw [e34]
    exact okC_int Try.underlying3 _
theorem rf11_Same (w : World) (v1 v2 : Value) (L M : List Itm) (g1 : Sl w v1 L.length 35 (rows itR L)) (g2 : Sl w v2 M.length 35 (rows itR M)) :
    Ret Try.prog 11 [v1, v2].toArray w fun u w' => u = .bool (decide (L = M)) ∧ Keep All w w' := by
  obtain ⟨a0, c0, rfl, hc0, hcm0⟩ := g1.form
  obtain ⟨a1, c1, rfl, hc1, hcm1⟩ := g2.form
  have hm0 : c0 ≤ 9223372036854775807 := hcm0
  refine enter (fn := Try.f11) (n := 26) Try.func11 rfl rfl (by simp) ?_
  refine W_seq ?_
  refine W_region ?_
  refine o_asc rfl ?_
  refine ops_nil ?_
  refine W_seq ?_
  refine W_seq ?_
  refine W_region ?_
  refine o_mvt rfl ?_
  refine op_run (r_len rfl rfl rfl) rfl ?_
  refine o_mvt rfl ?_
  refine op_run (r_len rfl rfl rfl) rfl ?_
  refine op_run (r_neq rfl rfl) rfl ?_
  refine ops_nil ?_
  refine W_cond_p rfl (fun h1 => ?_) (fun h1 => ?_)
  · refine W_seq ?_
    refine W_region ?_
    refine o_asc rfl ?_
    refine ops_nil ?_
    refine W_ret ?_
    refine ret1 (.bool false) rfl ?_ ?_; rfl
    exact ⟨congrArg Value.bool (decide_eq_false fun e => by subst e; omega).symm, Keep.refl _⟩
  · refine W_skip ?_
    refine W_seq ?_
    refine W_seq ?_
    refine W_region ?_
    refine o_asc rfl ?_
    refine ops_nil ?_
    refine W_block ?_
    have hle : L.length = M.length := by omega
    refine W_loop [5] [4, 5, 11, 12, 13, 14, 15, 16, 17, 18, 19, 20, 21, 22, 23, 24, 25] (fun vs w' => ∃ k : Nat, vs = [.int .i64 k] ∧ k ≤ L.length ∧ L.take k = M.take k ∧ Keep All w w') (fun vs _ => match vs with | [.int _ y] => L.length - y.toNat | _ => 0) ⟨0, rfl, Nat.zero_le _, rfl, Keep.refl _⟩ ?_
    rintro J3 vs w3 ⟨k, rfl, hk, htk, hkA⟩ -
    refine W_seq ?_
    refine W_seq ?_
    refine W_region ?_
    refine o_mvt rfl ?_
    refine o_mvt rfl ?_
    refine op_run (r_len rfl rfl rfl) rfl ?_
    refine op_run (r_lss rfl rfl) rfl ?_
    refine ops_nil ?_
    refine W_cond_p rfl (fun h4 => ?_) (fun h4 => ?_)
    · refine W_skip ?_
      refine W_seq ?_
      refine W_block ?_
      refine W_seq ?_
      have hkl : k < L.length := by omega
      have hkl2 : k < M.length := by omega
      obtain ⟨bp, op, e1_, hcell⟩ := rows_at' (i := k) itR_len (g1.keep hkA fun _ _ => trivial) hkl (by decide)
      obtain ⟨bq, oq, e2_, hcell2⟩ := rows_at' (i := k) itR_len (g2.keep hkA fun _ _ => trivial) hkl2 (by decide)
      cases e1_; cases e2_
      obtain ⟨x, hx⟩ : ∃ x, x = L[k] := ⟨_, rfl⟩
      obtain ⟨y, hy⟩ : ∃ y, y = M[k] := ⟨_, rfl⟩
      rw [← hx] at hcell
      rw [← hy] at hcell2
      refine W_quiet (Keep All w3) (by kernel_rfl) (by kernel_rfl) (Keep.drawn _) ?_
      refine q_mvt rfl ?_
      refine q_mvt rfl ?_
      refine q_run (fun _ _ => r_idxS rfl rfl rfl ti_itm (by omega) (by omega)) rfl ?_
      refine q_run (fun _ hk => r_loadA (itR x) rfl rfl rfl (by first | rfl | (rw [binV_len]; rfl) | (rw [dgR_len]; rfl) | (rw [refR_len]; rfl) | (rw [secR_len]; rfl) | (rw [List.length_map, tagF_len]; rfl) | (rw [itR_len]; rfl)) ((by intro j z hj; rw [Int.toNat_natCast]; exact hk.cell (hcell j z hj) trivial))) rfl ?_
      refine q_mvt rfl ?_
      refine q_mvt rfl ?_
      refine q_run (fun _ _ => r_idxS rfl rfl rfl ti_itm (by omega) (by omega)) rfl ?_
      refine q_run (fun _ hk => r_loadA (itR y) rfl rfl rfl (by first | rfl | (rw [binV_len]; rfl) | (rw [dgR_len]; rfl) | (rw [refR_len]; rfl) | (rw [secR_len]; rfl) | (rw [List.length_map, tagF_len]; rfl) | (rw [itR_len]; rfl)) ((by intro j z hj; rw [Int.toNat_natCast]; exact hk.cell (hcell2 j z hj) trivial))) rfl ?_
      refine q_run (fun _ _ => (r_neqC (p := x = y) rfl rfl rfl rfl (by kernel_rfl) (okC_itm _) (okC_itm _) rfl (itR_inj))) rfl ?_
      refine q_nil ?_; intro w11 hk11
      refine W_cond rfl (fun h12 => ?_) (fun h12 => ?_)
      · refine W_seq ?_
        refine W_region ?_
        refine o_asc rfl ?_
        refine ops_nil ?_
        refine W_ret ?_
        refine ret1 (.bool false) rfl ?_ ?_; rfl
        refine ⟨congrArg Value.bool (decide_eq_false fun e => ?_).symm, hkA.trans hk11⟩
        subst e; rw [hx, hy] at h12; simp at h12
      · refine W_skip ?_
        refine W_region ?_
        refine o_mvt rfl ?_
        refine op_run (r_add rfl rfl) rfl ?_
        refine o_ast rfl ?_
        refine ops_nil ?_
        have hinc := inc64' k (by omega)
        have he : L[k] = M[k] := by rw [hx, hy] at h12; simpa using h12
        refine ⟨by (repeat (first | with_reducible exact offM_refl _ _ | refine offM_updc rfl ?_ | refine offM_upd rfl ?_ | refine offM_updo rfl ?_ | refine offM_updo_none ?_ | refine offM_head rfl rfl ?_)), ⟨k + 1, congrArg (fun z : Int => [Value.int .i64 z]) hinc, by omega, by rw [List.take_succ_eq_append_getElem hkl, List.take_succ_eq_append_getElem hkl2, htk, he], hkA.trans hk11⟩, ?_⟩
        show L.length - (IntKind.i64.wrap ((k : Int) + 1)).toNat < L.length - (k : Int).toNat
        rw [hinc]; omega
    · refine W_exit ?_
      refine W_seq ?_
      refine W_region ?_
      refine o_asc rfl ?_
      refine ops_nil ?_
      refine W_ret ?_
      refine ret1 (.bool true) rfl ?_ ?_; rfl
      refine ⟨congrArg Value.bool (decide_eq_true ?_).symm, hkA⟩
      have h := htk
      rw [show k = L.length by omega, List.take_length, hle, List.take_length] at h; exact h
theorem fl_lenI {α : Type} (f : α → List UInt8) (m : Nat) : ∀ (l : List α), (∀ x ∈ l, (f x).length ≤ m) → (l.flatMap f).length ≤ l.length * m
  | [], _ => Nat.zero_le _
  | x :: l, h => by
    rw [List.flatMap_cons, List.length_append, List.length_cons, Nat.add_mul, Nat.one_mul]
    have h1 := h x (List.mem_cons_self ..)
    have h2 := fl_lenI f m l (fun y hy => h y (List.mem_cons_of_mem _ hy))
    omega
/-- The numbers of an item. -/
def numsI (x : Itm) : List Nat := [(x.2.bin + 1).toNat, x.2.slot.toNat, x.2.n.toNat]
theorem encIt_nums (x : Itm) : encIt x = x.1.val ++ (numsI x).flatMap encN := by unfold encIt numsI; simp
theorem numsI_le {x : Itm} (h : inI x) : ∀ n ∈ numsI x, n ≤ 2147483648 := by
  obtain ⟨h1, h2, h3, h4, h5, h6⟩ := h
  intro n hn
  unfold numsI at hn
  simp only [List.mem_cons, List.not_mem_nil, or_false] at hn
  omega
theorem numsI_at {x : Itm} (h : inI x) {j : Nat} (hj : j < 3) : ∃ n : Nat, (numsI x)[j]? = some n ∧ ([.int .i64 (x.2.bin + 1), .int .i64 x.2.slot, .int .i64 x.2.n] : List Value)[j]? = some (.int .i64 n) := by
  obtain ⟨h1, h2, h3, h4, h5, h6⟩ := h
  match j, hj with
  | 0, _ => exact ⟨_, rfl, congrArg (fun z : Int => some (Value.int .i64 z)) (show x.2.bin + 1 = (((x.2.bin + 1).toNat : Nat) : Int) by omega)⟩
  | 1, _ => exact ⟨_, rfl, congrArg (fun z : Int => some (Value.int .i64 z)) (show x.2.slot = ((x.2.slot.toNat : Nat) : Int) by omega)⟩
  | 2, _ => exact ⟨_, rfl, congrArg (fun z : Int => some (Value.int .i64 z)) (show x.2.n = ((x.2.n.toNat : Nat) : Int) by omega)⟩
theorem encIt_pre {x : Itm} (h : inI x) (j : Nat) : (x.1.val ++ ((numsI x).take j).flatMap encN).length ≤ 62 := by
  rw [List.length_append, x.1.2]
  have h1 := fl_lenI encN 10 ((numsI x).take j) (fun n hn => encN_len10 (by have := numsI_le h n (List.mem_of_mem_take hn); omega))
  have h2 : ((numsI x).take j).length ≤ 3 := by rw [List.length_take]; exact Nat.min_le_right _ _
  omega
theorem encIt_len {x : Itm} (h : inI x) : (encIt x).length ≤ 62 := by
  have := encIt_pre h 3
  rw [encIt_nums]; exact this
theorem own_neI {w : World} {e e' sz sz' n n' : Nat} {v v' : Value} {xs xs' : List Value} (h : Own w e sz v n xs) (h' : Own w e' sz' v' n' xs') (hne : e ≠ e') : InB (fun z => some z ≠ v.ownBlock) v' := by
  intro z hz hzv
  rcases h.2 with ⟨rfl, _⟩ | ⟨g, cap, cur, rfl, _, hg, _⟩
  · cases hzv
  rcases h'.2 with ⟨rfl, _⟩ | ⟨g', cap', cur', rfl, _, hg', _⟩
  · cases hz
  have e1 : g' = z := by simpa [Value.ownBlock] using hz
  have e2 : z = g := by simpa [Value.ownBlock] using hzv
  subst e1; subst e2
  rw [hg] at hg'
  have := Option.some.inj hg'
  injection this with _ h3
  exact hne h3
theorem itm_sl {w : World} {b : Nat} {x : Itm} (h : Blk w b (itR x) 89) : Sl w (.slice (some ⟨b, 0, none⟩) 32 32) 32 1 (x.1.val.map c8) := by
  refine ⟨_, _, rfl, Nat.le_refl _, by unfold maxLen; omega, by rw [List.length_map, x.1.2], (fun e => by cases e), fun ad had j u hu => ?_⟩
  cases had
  refine ⟨rfl, h.cell ?_⟩
  rw [Nat.zero_add]
  exact itR_dig x hu
theorem none_allI {w w' : World} (h : Keep (fun z => some z ≠ (Value.slice none 0 0).ownBlock) w w') : Keep All w w' := h.mono fun _ _ _ e => by cases e
theorem ix_Encode (w : World) (mb bm : Nat) (l : List Itm) (h : IdxW w mb bm l) (hu : UpI l) (hl : l.length ≤ 100000) (hin : ∀ x ∈ l, inI x) :
    Ret Try.prog 14 [.pointer (some ⟨mb, 0, none⟩)].toArray w fun r w' => OwnB w' 5 r (encX l) ∧ Keep All w w' := by
  have hml : (mapP useV l).length = l.length := by unfold mapP; rw [List.length_map]
  refine enter (fn := Try.f14) (n := 46) Try.func14 rfl rfl (by simp) ?_
  refine W_seq ?_
  refine W_region ?_
  refine o_asc rfl ?_
  refine ops_nil ?_
  refine W_seq ?_
  refine W_region ?_
  refine o_mvt rfl ?_
  refine op_run (r_nilCheck rfl) rfl ?_
  refine op_run (r_fieldAddr rfl rfl rfl rfl rfl) rfl ?_
  refine op_run (r_load rfl rfl rfl (h.m.cell rfl)) rfl ?_
  refine op_run (r_lenMapG rfl rfl (h.u)) rfl ?_
  refine op_run ((r_conv rfl rfl rfl).val (conv_len (mapP useV l).length (by omega))) rfl ?_
  refine op_call rfl rfl rfl (pack_Number w (.slice none 0 0) [] (mapP useV l).length (by omega) (own_nil _ _ _) (by decide)) ?_; rintro v3 w3 ⟨hO3, hk3, hin3⟩
  have hk3' : Keep All w w3 := none_allI hk3
  rw [hml, List.nil_append] at hO3
  have hin3' : InB (fun z => w.heap.size ≤ z) v3 := hin3.mono fun z hz => by
    rcases hz with hz | hz
    · cases hz
    · exact hz
  refine o_ast rfl ?_
  refine ops_nil ?_
  refine W_seq ?_
  refine W_seq ?_
  refine W_region ?_
  refine o_mvt rfl ?_
  refine op_call rfl rfl rfl (ix_Items w3 mb bm l (h.k hk3') hu (by omega)) ?_; rintro v4 w4 ⟨hA4, hk4, hi4⟩
  have hO4 := Own.keep hO3 hk4 (fun _ _ => trivial)
  have hk04 := hk3'.trans hk4
  obtain ⟨a0, c0, rfl, hc0, hcm0⟩ := hA4.form
  refine op_run (r_len rfl rfl rfl) rfl ?_
  refine o_mvc rfl ?_
  refine ops_nil ?_
  refine W_block ?_
  refine W_loop [3, 18] [3, 5, 7, 18, 19, 20, 21, 22, 23, 24, 25, 26, 27, 28, 29, 30, 31, 32, 33, 34, 35, 36, 37, 38, 39, 40, 41, 42, 43, 44] (fun vs w' => ∃ (u : Value) (k : Nat), vs = [u, .int .i64 k] ∧ k ≤ l.length ∧ OwnB w' 5 u (encN l.length ++ (l.take k).flatMap encIt) ∧ InB (fun z => w.heap.size ≤ z) u ∧ Keep All w w' ∧ Own w' 89 35 (.slice a0 l.length c0) l.length (rows itR l)) (fun vs _ => match vs with | [_, .int _ y] => l.length - y.toNat | _ => 0) ⟨v3, 0, rfl, Nat.zero_le _, by rw [List.take_zero]; show OwnB w4 _ v3 (encN l.length ++ []); rw [List.append_nil]; exact hO4, hin3', hk04, hA4⟩ ?_
  rintro J5 vs w5 ⟨u, k, rfl, hk, hOu, hIu, hk5, hA5⟩ -
  refine W_seq ?_
  refine W_region ?_
  refine op_run (r_lss rfl rfl) rfl ?_
  refine ops_nil ?_
  refine W_seq ?_
  refine W_cond_p rfl (fun h6 => ?_) (fun h6 => ?_)
  · refine W_skip ?_
    refine W_seq ?_
    refine W_block ?_
    refine W_seq ?_
    refine W_region ?_
    have hkl : k < l.length := by omega
    have hinc := inc64' k (by omega)
    obtain ⟨sb, so, rfl, hcx⟩ := rows_at' (i := k) itR_len hA5.sl hkl (by decide)
    obtain ⟨x, hx⟩ : ∃ x, l[k] = x := ⟨_, rfl⟩
    rw [hx] at hcx
    have hxin := hin x (by rw [← hx]; exact List.getElem_mem hkl)
    obtain ⟨hx1, hx2, hx3, hx4, hx5, hx6⟩ := hxin
    have hxin := hin x (by rw [← hx]; exact List.getElem_mem hkl)
    obtain ⟨pre, hpre⟩ : ∃ pre, encN l.length ++ (l.take k).flatMap encIt = pre := ⟨_, rfl⟩
    have hprel : pre.length ≤ 7000000 := by
      rw [← hpre, List.length_append]
      have e1 := encN_len10 (show l.length < 2 ^ 64 by omega)
      have e2 := fl_lenI encIt 62 (l.take k) (fun y hy => encIt_len (hin y (List.mem_of_mem_take hy)))
      have e3 : (l.take k).length ≤ 100000 := by rw [List.length_take]; omega
      have e4 : (l.take k).length * 62 ≤ 100000 * 62 := Nat.mul_le_mul_right _ e3
      omega
    rw [hpre] at hOu
    refine op_run (r_idxS rfl rfl rfl rfl (by omega) (by omega)) rfl ?_
    refine op_run (r_loadA (itR x) rfl rfl rfl (by first | rfl | (rw [binV_len]; rfl) | (rw [dgR_len]; rfl) | (rw [refR_len]; rfl) | (rw [secR_len]; rfl) | (rw [List.length_map, tagF_len]; rfl) | (rw [itR_len]; rfl)) ((fun m u hm => by rw [Int.toNat_natCast]; exact hcx m u hm))) rfl ?_
    refine o_alloc rfl rfl rfl ?_; intro w9 b9 e9 hB9 hk9 hs9
    have hB9' : Blk w9 b9 (List.replicate 32 (c8 0) ++ useR ⟨0, 0, 0⟩) 89 := hB9
    refine o_storeA (cs := itR x) rfl rfl (by first | rfl | exact binV_one _ | exact dgR_one _ | exact refR_one _ | exact secR_one _ | exact all_c8 _ | exact itR_one _) (by first | rfl | (rw [binV_len]; rfl) | (rw [dgR_len]; rfl) | (rw [refR_len]; rfl) | (rw [secR_len]; rfl) | (rw [List.length_map, tagF_len]; rfl) | (rw [itR_len]; rfl)) hB9' (by exact Nat.le_of_eq (by simp [itR_len]; rfl)) rfl ?_; intro w10 hB10 hk10 hs10
    have hB10' : Blk w10 b9 (itR x) 89 := by
      have h := hB10
      rwa [splice_all (by rw [itR_len]; rfl)] at h
    have hk10' : Keep All w5 w10 := hk9.new hk10 (by omega)
    have hO10 := Own.keep hOu hk10' (fun _ _ => trivial)
    have hA10 := Own.keep hA5 hk10' (fun _ _ => trivial)
    have hlu := hOu.lt
    have hlu10 := hO10.lt
    have hz10 := hk10'.size
    have hl9 := hB10'.lt
    refine ops_nil ?_
    refine W_seq ?_
    refine W_region ?_
    refine o_mvt rfl ?_
    refine op_run (r_fieldAddr rfl rfl rfl rfl rfl) rfl ?_
    refine op_run (r_sliceA rfl rfl rfl) rfl ?_
    refine o_appS (v := u) rfl rfl (itm_sl hB10') rfl ti_u8 rfl rfl hO10 (all_c8 _) (by unfold maxLen; omega) (by omega) rfl ?_; intro v11 w11 hown11 hk11 hb11
    have hO11 : OwnB w11 5 v11 (pre ++ x.1.val) := by
      refine OwnB.app ?_
      rw [x.1.2]; exact hown11
    have hA11 := hA10.keep hk11 (own_neI hO10 hA10 (by decide))
    have hB11 := hk11.blk' hB10' (fun e => by have := hlu b9 e.symm; omega)
    have hI11 : InB (fun z => w.heap.size ≤ z ∧ z ≠ b9) v11 := fun z hz => by
      rcases hb11 z hz with h | h
      · have h1 := hIu z h
        have h2 := hlu z h
        omega
      · have := hk5.size; omega
    have hkw11 : Keep All w w11 := (hk5.trans hk10').low hk11 (fun z hz e => by have := hIu z e.symm; omega)
    refine o_ast rfl ?_
    refine ops_nil ?_
    refine W_seq ?_
    refine W_region ?_
    refine op_run (r_fieldAddr rfl rfl rfl rfl rfl) rfl ?_
    refine op_run (r_fieldAddr rfl rfl rfl rfl rfl) rfl ?_
    refine op_run (r_load rfl rfl rfl (hB11.cell (itR_use x (j := 0) rfl))) rfl ?_
    refine op_run ((r_add rfl rfl).val (congrArg (Value.int .i64) (show IntKind.i64.wrap (x.2.bin + 1) = x.2.bin + 1 from wrap_i64 (by omega) (by omega)))) rfl ?_
    refine op_run (r_fieldAddr rfl rfl rfl rfl rfl) rfl ?_
    refine op_run (r_fieldAddr rfl rfl rfl rfl rfl) rfl ?_
    refine op_run (r_load rfl rfl rfl (hB11.cell (itR_use x (j := 1) rfl))) rfl ?_
    refine op_run (r_fieldAddr rfl rfl rfl rfl rfl) rfl ?_
    refine op_run (r_load rfl rfl rfl (hB11.cell (itR_use x (j := 2) rfl))) rfl ?_
    refine op_run (r_buildA ([.int .i64 (x.2.bin + 1), .int .i64 x.2.slot, .int .i64 x.2.n]) (_) ([(0, .int .i64 (x.2.bin + 1)), (1, .int .i64 x.2.slot), (2, .int .i64 x.2.n)]) rfl rfl rfl rfl rfl (rfl)) rfl ?_
    refine o_mvc rfl ?_
    refine ops_nil ?_
    refine W_block ?_
    refine W_loop [3, 36] [3, 7, 36, 37, 38, 39, 40, 41, 42, 43] (fun vs w' => ∃ (u2 : Value) (j : Nat), vs = [u2, .int .i64 j] ∧ j ≤ 3 ∧ OwnB w' 5 u2 (pre ++ (x.1.val ++ ((numsI x).take j).flatMap encN)) ∧ InB (fun z => w.heap.size ≤ z) u2 ∧ Keep All w w' ∧ Own w' 89 35 (.slice (some ⟨sb, so, none⟩) l.length c0) l.length (rows itR l)) (fun vs _ => match vs with | [_, .int _ y] => 3 - y.toNat | _ => 0) ⟨v11, 0, rfl, Nat.zero_le _, by rw [List.take_zero, List.flatMap_nil, List.append_nil]; exact hO11, hI11.mono fun z hz => hz.1, hkw11, hA11⟩ ?_
    rintro J16 vs w16 ⟨u2, j, rfl, hj, hO16, hI16, hkw16, hA16⟩ -
    refine W_seq ?_
    refine W_region ?_
    refine op_run (r_lss rfl rfl) rfl ?_
    refine ops_nil ?_
    refine W_seq ?_
    refine W_cond_p rfl (fun h17 => ?_) (fun h17 => ?_)
    · refine W_skip ?_
      refine W_seq ?_
      refine W_block ?_
      refine W_seq ?_
      refine W_region ?_
      have hj3 : j < 3 := by omega
      obtain ⟨n, hn1, hn2⟩ := numsI_at hxin hj3
      have hn3 := numsI_le hxin n (List.mem_of_getElem? hn1)
      have hincj := inc64' j (by omega)
      have hprj := encIt_pre hxin j
      have hlu2 := hO16.lt
      refine op_run (r_index1 (v := .int .i64 n) rfl rfl rfl rfl rfl rfl (by omega) (by omega) (by rw [Int.toNat_natCast]; exact hn2)) rfl ?_
      refine o_ast rfl ?_
      refine ops_nil ?_
      refine W_region ?_
      refine o_mvt rfl ?_
      refine o_mvt rfl ?_
      refine op_run ((r_conv rfl rfl rfl).val (congrArg (Value.int .u64) (show IntKind.u64.wrap ((n : Nat) : Int) = ((n : Nat) : Int) from by rw [wrap_u64]; omega))) rfl ?_
      refine op_call rfl rfl rfl (pack_Number w16 u2 _ n (by omega) hO16 (by rw [List.length_append]; omega)) ?_; rintro v19 w19 ⟨hO19, hk19, hin19⟩
      refine o_ast rfl ?_
      refine ops_nil ?_
      refine W_region ?_
      refine op_run (r_add rfl rfl) rfl ?_
      refine o_mvt rfl ?_
      refine ops_nil ?_
      refine ⟨by (repeat (first | with_reducible exact offM_refl _ _ | refine offM_updc rfl ?_ | refine offM_upd rfl ?_ | refine offM_updo rfl ?_ | refine offM_updo_none ?_ | refine offM_head rfl rfl ?_)), ⟨v19, j + 1, congrArg (fun z : Int => [v19, Value.int .i64 z]) hincj, by omega, ?_, ?_, ?_, ?_⟩, ?_⟩
      · have e : pre ++ (x.1.val ++ ((numsI x).take (j + 1)).flatMap encN) = pre ++ (x.1.val ++ ((numsI x).take j).flatMap encN) ++ encN n := by
          rw [List.take_add_one, hn1, List.flatMap_append]
          simp [List.append_assoc]
        rw [e]; exact hO19
      · intro z hz
        rcases hin19 z hz with h | h
        · exact hI16 z h
        · have := hkw16.size; omega
      · exact hkw16.low hk19 (fun z hz e => by have := hI16 z e.symm; omega)
      · exact hA16.keep hk19 (own_neI hO16 hA16 (by decide))
      · show 3 - (IntKind.i64.wrap ((j : Int) + 1)).toNat < 3 - (j : Int).toNat
        rw [hincj]; omega
    · refine W_exit ?_
      refine W_region ?_
      refine op_run (r_add rfl rfl) rfl ?_
      refine o_mvt rfl ?_
      refine ops_nil ?_
      have hj3 : j = 3 := by omega
      subst hj3
      refine ⟨by (repeat (first | with_reducible exact offM_refl _ _ | refine offM_updc rfl ?_ | refine offM_upd rfl ?_ | refine offM_updo rfl ?_ | refine offM_updo_none ?_ | refine offM_head rfl rfl ?_)), ⟨u2, k + 1, congrArg (fun z : Int => [u2, Value.int .i64 z]) hinc, by omega, ?_, hI16, hkw16, hA16⟩, ?_⟩
      · have e : encN l.length ++ (l.take (k + 1)).flatMap encIt = pre ++ (x.1.val ++ ((numsI x).take 3).flatMap encN) := by
          rw [← hpre, List.take_succ_eq_append_getElem hkl, hx, List.flatMap_append]
          show _ = _ ++ (x.1.val ++ (numsI x).flatMap encN)
          rw [← encIt_nums]
          simp [List.append_assoc]
        rw [e]; exact hO16
      · show l.length - (IntKind.i64.wrap ((k : Int) + 1)).toNat < l.length - (k : Int).toNat
        rw [hinc]; omega
  · refine W_exit ?_
    refine W_seq ?_
    refine W_region ?_
    refine o_mvt rfl ?_
    refine o_ast rfl ?_
    refine ops_nil ?_
    refine W_ret ?_
    refine ret1 u rfl ?_ ?_; rfl
    have e : k = l.length := by omega
    subst e
    rw [List.take_length] at hOu
    exact ⟨hOu, hk5⟩
end Go.Proofs.Ytkmciohghhffnaa.B
