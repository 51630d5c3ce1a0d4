/-
  volume.Encode.
-/
import Derived.Test.YtkmciohghhffnaaGreatVDcd
import Derived.Test.YtkmciohghhffnaaGreatVDoB
import Derived.Test.YtkmciohghhffnaaGreatStrB
namespace Go.Proofs.YtkmciohghhffnaaGreat.B
open Go
set_option linter.unusedVariables false
set_option maxHeartbeats 2000000
set_option maxRecDepth 100000
attribute [local irreducible] W OpsW OpsQ retP
def encI (i : Img) : List UInt8 := encV (i.nm, ⟨i.q, i.fr, i.bl⟩)
def ImgOk (i : Img) : Prop := i.nm.length ≤ 20 ∧ i.bl.length ≤ 1000 ∧ (∀ p ∈ i.bl, 0 ≤ p.1 ∧ p.1 < 1048576) ∧ 0 ≤ i.q ∧ i.q ≤ 1048576
theorem fl_len {α : Type} (f : α → List UInt8) (m : Nat) : ∀ (l : List α), (∀ x ∈ l, (f x).length ≤ m) → (l.flatMap f).length ≤ l.length * m
  | [], _ => Nat.zero_le _
  | x :: l, h => by
    rw [List.flatMap_cons, List.length_append, List.length_cons, Nat.add_mul, Nat.one_mul]
    have h1 := h x (List.mem_cons_self ..)
    have h2 := fl_len f m l (fun y hy => h y (List.mem_cons_of_mem _ hy))
    omega
theorem encC_len {p : Int × Bk} (h : 0 ≤ p.1 ∧ p.1 < 1048576) : (encC p).length ≤ 42 := by
  unfold encC
  rw [List.length_append, p.2.2]
  have := encN_len10 (show p.1.toNat < 2 ^ 64 by omega)
  omega
theorem encI_pre {i : Img} (h : ImgOk i) (k : Nat) : (encB i.nm ++ (encN (qN ⟨i.q, i.fr, i.bl⟩) ++ (encN i.bl.length ++ (i.bl.take k).flatMap encC))).length ≤ 42050 := by
  obtain ⟨h1, h2, h3, h4, h5⟩ := h
  have e1 := encB_len i.nm (by omega)
  have e2 := encN_len10 (show qN ⟨i.q, i.fr, i.bl⟩ < 2 ^ 64 by unfold qN; show 2 * i.q.toNat + (if i.fr = true then 1 else 0) < _; split <;> omega)
  have e3 := encN_len10 (show i.bl.length < 2 ^ 64 by omega)
  have e4 := fl_len encC 42 (i.bl.take k) (fun p hp => encC_len (h3 p (List.mem_of_mem_take hp)))
  have e5 : (i.bl.take k).length ≤ 1000 := by rw [List.length_take]; omega
  rw [List.length_append, List.length_append, List.length_append]
  omega
theorem encI_all (i : Img) : encI i = encB i.nm ++ (encN (qN ⟨i.q, i.fr, i.bl⟩) ++ (encN i.bl.length ++ (i.bl.take i.bl.length).flatMap encC)) := by rw [List.take_length]; rfl
theorem encI_len {i : Img} (h : ImgOk i) : (encI i).length ≤ 42050 := by rw [encI_all]; exact encI_pre h _
theorem or_one (q : Nat) (h : q ≤ 1048576) : bitw .or .u64 ((2 * q : Nat) : Int) 1 = ((2 * q + 1 : Nat) : Int) := by
  have h1 := bitw_or (k := .u64) rfl (2 * q) 1 (show 2 * q < 2 ^ 64 by omega) (by decide)
  have h2 := or_add (v := 1) (p := q) (s := 1) (by decide) (by decide)
  have h3 : q * 2 ^ 1 % 2 ^ 64 = 2 * q := by omega
  rw [h3, Nat.or_comm] at h2
  rw [h2] at h1
  refine Eq.trans h1 ?_
  rw [Nat.add_comm]
theorem shl_one (q : Nat) (h : q ≤ 1048576) : IntKind.u64.wrap (((q : Nat) : Int) * 2 ^ (min (1 : Int).toNat IntKind.u64.bits)) = ((2 * q : Nat) : Int) := by
  refine (shl_val q 1 (by decide)).trans ?_
  congr 1
  omega
theorem none_allV {w w' : World} (h : Keep (fun z => some z ≠ (Value.slice none 0 0).ownBlock) w w') : Keep All w w' := h.mono fun _ _ _ e => by cases e
theorem ImgsO.ku {w w' : World} {v u : Value} {L : List Img} {ys : List (Img × Value)} {xs : List UInt8} (h : ImgsO w v L ys) (hu : OwnB w 5 u xs) (hk : Keep (fun z => some z ≠ u.ownBlock) w w') : ImgsO w' v L ys :=
  ⟨h.e, h.o.keep hk (own_ne hu h.o (by decide)), fun y hy => (h.b y hy).keep hk (own_ne hu (h.b y hy) (by decide))⟩
theorem dig_sl {w : World} {b : Nat} {p : Int × Bk} (h : Blk w b (nbR p) 71) : Sl w (.slice (some ⟨b, 1, none⟩) 32 32) 32 1 (p.2.val.map c8) := by
  refine ⟨_, _, rfl, Nat.le_refl _, by unfold maxLen; omega, by rw [List.length_map, p.2.2], (fun e => by cases e), fun ad had j u hu => ?_⟩
  cases had
  refine ⟨rfl, h.cell ?_⟩
  show (nbR p)[1 + j]? = some u
  rw [Nat.add_comm]
  exact hu
theorem vl_Encode (w : World) (mb bm : Nat) (l : ModL) (h : ModW w mb bm l) (hsm : SmallM (abs l)) (hbk : BlkN 1000 (abs l)) (hok : ∀ i ∈ imgD (abs l), ImgOk i) :
    Ret Tryz.prog 13 [.pointer (some ⟨mb, 0, none⟩)].toArray w fun r w' => OwnB w' 5 r (encN (abs l).length ++ (imgD (abs l)).flatMap encI) ∧ Keep All w w' ∧ InB (fun z => w.heap.size ≤ z) r := by
  have hln : (mapP ptrV l).length = (abs l).length := by unfold abs mapP; simp
  have hl1 := hsm.1
  have hil := imgD_len (abs l)
  refine enter (fn := Tryz.f13) (n := 62) Tryz.func13 rfl rfl (by simp) ?_
  refine W_seq ?_
  refine W_region ?_
  refine o_asc rfl ?_
  refine ops_nil ?_
  refine W_seq ?_
  refine W_region ?_
  refine o_mvt rfl ?_
  refine op_run (r_nilCheck rfl) rfl ?_
  refine op_run (r_fieldAddr rfl rfl rfl rfl rfl) rfl ?_
  refine op_run (r_load rfl rfl rfl (h.m.cell rfl)) rfl ?_
  refine op_run (r_lenMapG rfl rfl (h.vs)) rfl ?_
  refine op_run ((r_conv rfl rfl rfl).val (conv_len (mapP ptrV l).length (by omega))) rfl ?_
  refine op_call rfl rfl rfl (pack_Number w (.slice none 0 0) [] (mapP ptrV l).length (by omega) (own_nil _ _ _) (by decide)) ?_; rintro v3 w3 ⟨hO3, hk3, hin3⟩
  have hk3' : Keep All w w3 := none_allV hk3
  rw [hln, List.nil_append] at hO3
  have hin3' : InB (fun z => w.heap.size ≤ z) v3 := hin3.mono fun z hz => by
    rcases hz with hz | hz
    · cases hz
    · exact hz
  refine o_ast rfl ?_
  refine ops_nil ?_
  refine W_seq ?_
  refine W_seq ?_
  refine W_region ?_
  refine o_mvt rfl ?_
  refine op_call rfl rfl rfl (md_Images w3 mb bm l (h.k hk3') hsm hbk) ?_; rintro v4 w4 ⟨⟨ysA, hOA⟩, hIA, hk4⟩
  have hA4 := hOA.s
  obtain ⟨a0, c0, rfl, hc0, hcm0⟩ := hA4.o.form
  have hO4 := Own.keep hO3 hk4 (fun _ _ => trivial)
  have hk04 := hk3'.trans hk4
  refine op_run (r_len rfl rfl rfl) rfl ?_
  refine o_mvc rfl ?_
  refine ops_nil ?_
  refine W_block ?_
  refine W_loop [3, 19] [3, 5, 6, 8, 19, 20, 21, 22, 23, 24, 25, 26, 27, 28, 29, 30, 31, 32, 33, 34, 35, 36, 37, 38, 39, 40, 41, 42, 43, 44, 45, 46, 47, 48, 49, 50, 51, 52, 53, 54, 55, 56, 57, 58, 59, 60] (fun vs w' => ∃ (u : Value) (k : Nat), vs = [u, .int .i64 k] ∧ k ≤ (imgD (abs l)).length ∧ OwnB w' 5 u (encN (abs l).length ++ ((imgD (abs l)).take k).flatMap encI) ∧ InB (fun z => w.heap.size ≤ z) u ∧ Keep All w w' ∧ ImgsO w' (.slice a0 (imgD (abs l)).length c0) (imgD (abs l)) ysA) (fun vs _ => match vs with | [_, .int _ y] => (imgD (abs l)).length - y.toNat | _ => 0) ⟨v3, 0, rfl, Nat.zero_le _, by rw [List.take_zero]; show OwnB w4 _ v3 (encN (abs l).length ++ []); rw [List.append_nil]; exact hO4, hin3', hk04, hOA⟩ ?_
  rintro J5 vs w5 ⟨u, k, rfl, hk, hOu, hIu, hk5, hA5⟩ -
  refine W_seq ?_
  refine W_region ?_
  refine op_run (r_lss rfl rfl) rfl ?_
  refine ops_nil ?_
  refine W_seq ?_
  refine W_cond_p rfl (fun h6 => ?_) (fun h6 => ?_)
  · refine W_skip ?_
    refine W_seq ?_
    refine W_block ?_
    refine W_seq ?_
    refine W_region ?_
    have hkl : k < (imgD (abs l)).length := by omega
    obtain ⟨i, x, bi, oi, ci, hy, hi, ei, hci, hbi⟩ := hA5.s.at hkl
    cases ei
    have hio := hok i (List.mem_of_getElem? hi)
    have hinc := inc64' k (by unfold maxLen at hcm0; omega)
    obtain ⟨qn, hqn⟩ : ∃ n : Nat, i.q = n := ⟨i.q.toNat, by have := hio.2.2.2.1; omega⟩
    have hqm : qn ≤ 1048576 := by have := hio.2.2.2.2; omega
    have hbl2 := hio.2.1
    obtain ⟨xa, xc, rfl, _, hxc⟩ := hbi.form
    have hx1 : one (Value.slice xa i.bl.length xc) = true := rfl
    obtain ⟨pre, hpre⟩ : ∃ pre, encN (abs l).length ++ ((imgD (abs l)).take k).flatMap encI = pre := ⟨_, rfl⟩
    have hprel : pre.length ≤ 50000000 := by
      rw [← hpre, List.length_append]
      have e1 := encN_len10 (show (abs l).length < 2 ^ 64 by omega)
      have e2 := fl_len encI 42050 ((imgD (abs l)).take k) (fun y hy => encI_len (hok y (List.mem_of_mem_take hy)))
      have e3 : ((imgD (abs l)).take k).length ≤ 1000 := by rw [List.length_take]; omega
      have e4 : ((imgD (abs l)).take k).length * 42050 ≤ 1000 * 42050 := Nat.mul_le_mul_right _ e3
      omega
    rw [hpre] at hOu
    refine op_run (r_idxS rfl rfl rfl rfl (by omega) (by omega)) rfl ?_
    refine op_run (r_loadA (imR (i, .slice xa i.bl.length xc)) rfl rfl rfl (by first | rfl | (rw [binV_len]; rfl) | (rw [dgR_len]; rfl) | (rw [refR_len]; rfl) | (rw [secR_len]; rfl) | (rw [List.length_map, tagF_len]; rfl) | (rw [imR_len]; rfl) | (rw [nbR_len]; rfl)) ((fun m u hm => by rw [Int.toNat_natCast, Addr.add_lit]; exact hci m u hm))) rfl ?_
    refine o_alloc rfl rfl rfl ?_; intro w9 b9 e9 hB9 hk9 hs9
    have hB9' : Blk w9 b9 (imR (⟨[], 0, false, []⟩, .slice none 0 0)) 69 := hB9
    refine o_storeA (cs := imR (i, .slice xa i.bl.length xc)) rfl rfl (by first | rfl | exact binV_one _ | exact dgR_one _ | exact refR_one _ | exact secR_one _ | exact all_c8 _ | (exact imR_one1 (by assumption)) | exact nbR_one _) (by first | rfl | (rw [binV_len]; rfl) | (rw [dgR_len]; rfl) | (rw [refR_len]; rfl) | (rw [secR_len]; rfl) | (rw [List.length_map, tagF_len]; rfl) | (rw [imR_len]; rfl) | (rw [nbR_len]; rfl)) hB9' (by exact Nat.le_of_eq (by simp [imR_len])) rfl ?_; intro w10 hB10 hk10 hs10
    have hB10' : Blk w10 b9 (imR (i, .slice xa i.bl.length xc)) 69 := by
      have h := hB10
      rwa [splice_all (by rw [imR_len, imR_len])] at h
    have hk10' : Keep All w5 w10 := hk9.new hk10 (by omega)
    have hO10 := Own.keep hOu hk9 (fun _ _ => trivial)
    have hlu := hOu.lt
    have hO10 := Own.keep hO10 hk10 (fun z hz => by have := hlu z hz; omega)
    refine ops_nil ?_
    refine W_seq ?_
    refine W_region ?_
    refine op_run (r_fieldAddr rfl rfl rfl rfl rfl) rfl ?_
    refine op_run (r_load rfl rfl rfl (hB10'.cell rfl)) rfl ?_
    refine op_run ((r_conv rfl rfl rfl).val (congrArg (Value.int .u64) (show IntKind.u64.wrap i.q = ((qn : Nat) : Int) from by rw [hqn, wrap_u64]; omega))) rfl ?_
    refine op_run ((r_shl rfl rfl (by decide)).val (congrArg (Value.int .u64) (shl_one qn (by omega)))) rfl ?_
    refine o_ast rfl ?_
    refine ops_nil ?_
    refine W_cut [6] [6, 27, 28, 29, 30] (fun vs w12 => vs = [.int .u64 ((qN ⟨i.q, i.fr, i.bl⟩ : Nat) : Int)] ∧ w12 = w10) ?_ ?_
    · refine W_seq ?_
      refine W_region ?_
      refine op_run (r_fieldAddr rfl rfl rfl rfl rfl) rfl ?_
      refine op_run (r_load rfl rfl rfl (hB10'.cell rfl)) rfl ?_
      refine ops_nil ?_
      refine W_cond rfl (fun h14 => ?_) (fun h14 => ?_)
      · refine W_region ?_
        refine o_mvt rfl ?_
        refine op_run ((r_or rfl rfl).val (congrArg (Value.int .u64) (or_one qn (by omega)))) rfl ?_
        refine o_ast rfl ?_
        refine ops_nil ?_
        exact ⟨by (repeat (first | with_reducible exact offM_refl _ _ | refine offM_updc rfl ?_ | refine offM_upd rfl ?_ | refine offM_updo rfl ?_ | refine offM_updo_none ?_ | refine offM_head rfl rfl ?_)), congrArg (fun z : Int => [Value.int .u64 z]) (by have h14 : i.fr = true := h14; unfold qN; show ((2 * qn + 1 : Nat) : Int) = ((2 * i.q.toNat + (if i.fr = true then 1 else 0) : Nat) : Int); rw [if_pos h14, hqn, Int.toNat_natCast]), rfl⟩
      · refine W_skip ?_
        exact ⟨by (repeat (first | with_reducible exact offM_refl _ _ | refine offM_updc rfl ?_ | refine offM_upd rfl ?_ | refine offM_updo rfl ?_ | refine offM_updo_none ?_ | refine offM_head rfl rfl ?_)), congrArg (fun z : Int => [Value.int .u64 z]) (by have h14 : i.fr = false := h14; unfold qN; show ((2 * qn : Nat) : Int) = ((2 * i.q.toNat + (if i.fr = true then 1 else 0) : Nat) : Int); rw [if_neg (by rw [h14]; decide), hqn, Int.toNat_natCast]; rfl), rfl⟩
    · rintro J17 vs w17 ⟨rfl, rfl⟩ -
      have hqN : qN ⟨i.q, i.fr, i.bl⟩ < 2 ^ 64 := by unfold qN; show 2 * i.q.toNat + (if i.fr = true then 1 else 0) < _; split <;> omega
      refine W_seq ?_
      refine W_region ?_
      refine o_mvt rfl ?_
      refine op_run (r_fieldAddr rfl rfl rfl rfl rfl) rfl ?_
      refine op_run (r_load rfl rfl rfl (hB10'.cell rfl)) rfl ?_
      refine o_strB rfl rfl rfl rfl ((Nat.le_trans hio.1 (show 20 ≤ maxLen by unfold maxLen; omega))) rfl ?_; intro w19 b19 c19 hby19 e19 hk19 hs19
      have hO19 := Own.keep hO10 hk19 (fun _ _ => trivial)
      have hB19' := hk19.blk' hB10' trivial
      have hlu19 := hO19.lt
      have hz10 := hk10'.size
      have hlb9 := hB10'.lt
      refine op_call rfl rfl rfl (pack_Bytes w19 u _ pre i.nm hO19 (fun w' hk => hby19.keep hk (fun z hz => by have hz : some b19 = some z := hz; injection hz with hz; intro e; have := hlu z e.symm; omega)) (by have := hio.1; omega)) ?_; rintro v20 w20 ⟨hO20, hk20, hin20⟩
      have hA19 := (hA5.k hk10').k hk19
      have hA20 := hA19.ku hO19 hk20
      have nb : ∀ {v : Value}, InB (fun b => u.ownBlock = some b ∨ w19.heap.size ≤ b) v → some b9 ≠ v.ownBlock := fun hv e => by
        rcases hv b9 e.symm with h | h
        · have := hlu b9 h; omega
        · have := hB19'.lt; omega
      have nw : ∀ {v : Value}, InB (fun b => u.ownBlock = some b ∨ w19.heap.size ≤ b) v → InB (fun z => w.heap.size ≤ z) v := fun hv z hz => by
        rcases hv z hz with h | h
        · exact hIu z h
        · have := hk5.size; have := hk19.size; omega
      have hB20 := hk20.blk' hB19' (fun e => by have := hlu b9 e.symm; omega)
      have hkw20 : Keep All w w20 := ((hk5.trans hk10').trans hk19).own hk20 (fun z hz _ => hIu z hz)
      have hz20 := hk20.size
      have hbln := encB_len i.nm (by have := hio.1; omega)
      have hqnl := encN_len10 hqN
      have hcnl := encN_len10 (show i.bl.length < 2 ^ 64 by omega)
      have hnm20 := hio.1
      refine o_mvt rfl ?_
      refine op_call rfl rfl rfl (pack_Number w20 v20 (pre ++ encB i.nm) (qN ⟨i.q, i.fr, i.bl⟩) hqN hO20 (by rw [List.length_append]; omega)) ?_; rintro v21 w21 ⟨hO21, hk21, hin21⟩
      have hin21' : InB (fun b => u.ownBlock = some b ∨ w19.heap.size ≤ b) v21 := hin21.mono fun z hz => by
        rcases hz with h | h
        · exact hin20 z h
        · exact .inr (by omega)
      have hA21 := hA20.ku hO20 hk21
      have hB21 := hk21.blk' hB20 (nb hin20)
      have hkw21 : Keep All w w21 := hkw20.own hk21 (fun z hz _ => nw hin20 z hz)
      have hz21 := hk21.size
      refine o_ast rfl ?_
      refine ops_nil ?_
      refine W_seq ?_
      refine W_region ?_
      refine o_mvt rfl ?_
      refine op_run (r_fieldAddr rfl rfl rfl rfl rfl) rfl ?_
      refine op_run (r_load rfl rfl rfl (hB21.cell rfl)) rfl ?_
      refine op_run (r_len rfl rfl rfl) rfl ?_
      refine op_run ((r_conv rfl rfl rfl).val (conv_len i.bl.length (by omega))) rfl ?_
      refine op_call rfl rfl rfl (pack_Number w21 v21 (pre ++ encB i.nm ++ encN (qN ⟨i.q, i.fr, i.bl⟩)) i.bl.length (by omega) hO21 (by rw [List.length_append, List.length_append]; omega)) ?_; rintro v23 w23 ⟨hO23, hk23, hin23⟩
      have hin23' : InB (fun b => u.ownBlock = some b ∨ w19.heap.size ≤ b) v23 := hin23.mono fun z hz => by
        rcases hz with h | h
        · exact hin21' z h
        · exact .inr (by omega)
      have hA23 := hA21.ku hO21 hk23
      have hB23 := hk23.blk' hB21 (nb hin21')
      have hkw23 : Keep All w w23 := hkw21.own hk23 (fun z hz _ => nw hin21' z hz)
      refine o_ast rfl ?_
      refine ops_nil ?_
      refine W_seq ?_
      refine W_region ?_
      refine op_run (r_fieldAddr rfl rfl rfl rfl rfl) rfl ?_
      refine op_run (r_load rfl rfl rfl (hB23.cell rfl)) rfl ?_
      refine op_run (r_len rfl rfl rfl) rfl ?_
      refine o_mvc rfl ?_
      refine ops_nil ?_
      refine W_block ?_
      refine W_loop [3, 47] [3, 8, 47, 48, 49, 50, 51, 52, 53, 54, 55, 56, 57, 58, 59] (fun vs w' => ∃ (u2 : Value) (j : Nat), vs = [u2, .int .i64 j] ∧ j ≤ i.bl.length ∧ OwnB w' 5 u2 (pre ++ (encB i.nm ++ (encN (qN ⟨i.q, i.fr, i.bl⟩) ++ (encN i.bl.length ++ (i.bl.take j).flatMap encC)))) ∧ InB (fun z => w.heap.size ≤ z) u2 ∧ Keep All w w' ∧ ImgsO w' (.slice (some ⟨bi, oi, none⟩) (imgD (abs l)).length c0) (imgD (abs l)) ysA) (fun vs _ => match vs with | [_, .int _ y] => i.bl.length - y.toNat | _ => 0) ⟨v23, 0, rfl, Nat.zero_le _, by rw [List.take_zero, List.flatMap_nil, List.append_nil]; simpa [List.append_assoc] using hO23, nw hin23', hkw23, hA23⟩ ?_
      rintro J25 vs w25 ⟨u2, j, rfl, hj, hO25, hI25, hkw25, hA25⟩ -
      refine W_seq ?_
      refine W_region ?_
      refine op_run (r_lss rfl rfl) rfl ?_
      refine ops_nil ?_
      refine W_seq ?_
      refine W_cond_p rfl (fun h26 => ?_) (fun h26 => ?_)
      · refine W_skip ?_
        refine W_seq ?_
        refine W_block ?_
        refine W_seq ?_
        refine W_region ?_
        have hjl : j < i.bl.length := by omega
        have hincj := inc64' j (by omega)
        have hbj := (hA25.b _ (List.mem_of_getElem? hy)).sl
        obtain ⟨p, pb, po, pc, hp, ep, hcp⟩ := nb_at hbj hjl
        cases ep
        have hpio := hio.2.2.1 p (List.mem_of_getElem? hp)
        obtain ⟨pn, hpn⟩ : ∃ n : Nat, p.1 = n := ⟨p.1.toNat, by omega⟩
        have hlu2 := hO25.lt
        obtain ⟨pr2, hpr2⟩ : ∃ pr2, pre ++ (encB i.nm ++ (encN (qN ⟨i.q, i.fr, i.bl⟩) ++ (encN i.bl.length ++ (i.bl.take j).flatMap encC))) = pr2 := ⟨_, rfl⟩
        have hpr2l : pr2.length ≤ 60000000 := by
          rw [← hpr2, List.length_append]
          have := encI_pre hio j
          omega
        rw [hpr2] at hO25
        refine op_run (r_idxS rfl rfl rfl rfl (by omega) (by omega)) rfl ?_
        refine op_run (r_loadA (nbR p) rfl rfl rfl (by first | rfl | (rw [binV_len]; rfl) | (rw [dgR_len]; rfl) | (rw [refR_len]; rfl) | (rw [secR_len]; rfl) | (rw [List.length_map, tagF_len]; rfl) | (rw [imR_len]; rfl) | (rw [nbR_len]; rfl)) ((fun m u hm => by rw [Int.toNat_natCast]; exact hcp m u hm))) rfl ?_
        refine o_alloc rfl rfl rfl ?_; intro w29 b29 e29 hB29 hk29 hs29
        have hB29' : Blk w29 b29 (nbR (0, Bk.zero)) 71 := hB29
        refine o_storeA (cs := nbR p) rfl rfl (by first | rfl | exact binV_one _ | exact dgR_one _ | exact refR_one _ | exact secR_one _ | exact all_c8 _ | (exact imR_one1 (by assumption)) | exact nbR_one _) (by first | rfl | (rw [binV_len]; rfl) | (rw [dgR_len]; rfl) | (rw [refR_len]; rfl) | (rw [secR_len]; rfl) | (rw [List.length_map, tagF_len]; rfl) | (rw [imR_len]; rfl) | (rw [nbR_len]; rfl)) hB29' (by exact Nat.le_of_eq (by simp [nbR_len])) rfl ?_; intro w30 hB30 hk30 hs30
        have hB30' : Blk w30 b29 (nbR p) 71 := by
          have h := hB30
          rwa [splice_all (by rw [nbR_len, nbR_len])] at h
        have hk30' : Keep All w25 w30 := hk29.new hk30 (by omega)
        have hO30 := Own.keep (Own.keep hO25 hk29 (fun _ _ => trivial)) hk30 (fun z hz => by have := hlu2 z hz; omega)
        have hA30 := hA25.k hk30'
        have hne : some b29 ≠ u2.ownBlock := fun e => by have := hlu2 b29 e.symm; omega
        have hz30 := hk30'.size
        have hl30 := hB30'.lt
        refine ops_nil ?_
        refine W_held (fun w' => Keep (fun z => some z ≠ u2.ownBlock) w30 w') (by kernel_rfl) ((Keep.drawn w30).all) (fun hS => ?_)
        refine any_mvt 0 rfl (by kernel_rfl) (by kernel_rfl) (by kernel_rfl) rfl hS ?_
        refine any_run 1 (fun w' hS' => (r_fieldAddr rfl rfl rfl rfl rfl)) rfl (by kernel_rfl) (by kernel_rfl) (by kernel_rfl) rfl hS ?_
        refine any_run 2 (fun w' hS' => (r_load rfl rfl rfl (((hS'.blk' hB30' hne).cell rfl)))) rfl (by kernel_rfl) (by kernel_rfl) (by kernel_rfl) rfl hS ?_
        refine any_run 3 (fun w' hS' => ((r_conv rfl rfl rfl).val (congrArg (Value.int .u64) (show IntKind.u64.wrap p.1 = ((pn : Nat) : Int) from by rw [hpn, wrap_u64]; omega)))) rfl (by kernel_rfl) (by kernel_rfl) (by kernel_rfl) rfl hS ?_
        refine any_run 5 (fun w' hS' => (r_fieldAddr rfl rfl rfl rfl rfl)) rfl (by kernel_rfl) (by kernel_rfl) (by kernel_rfl) rfl hS ?_
        refine any_run 6 (fun w' hS' => (r_sliceA rfl rfl rfl)) rfl (by kernel_rfl) (by kernel_rfl) (by kernel_rfl) rfl hS ?_
        refine any_one 4 (by kernel_rfl) (one_of rfl ?_)
        refine op_call rfl rfl rfl (pack_Number _ u2 pr2 pn (by omega) (Own.keep hO30 (Keep.drawn w30) (fun _ _ => trivial)) (by omega)) ?_; rintro v33 w33 ⟨hO33, hk33, hin33⟩
        have hsD := (Keep.drawn w30).size
        refine ops_nil ⟨(hS.trans hk33), fun hS => ?_⟩
        refine any_one 7 (by kernel_rfl) (one_of rfl ?_)
        refine o_appS (v := v33) rfl rfl (dig_sl (hS.blk' hB30' hne)) rfl ti_u8 rfl rfl hO33 (all_c8 _) (by unfold maxLen; rw [List.length_append]; have := encN_len10 (show pn < 2 ^ 64 by omega); omega) (by rw [List.length_append]; have := encN_len10 (show pn < 2 ^ 64 by omega); omega) rfl ?_; intro v35 w35 hown35 hk35 hb35
        have hI33 : InB (fun z => u2.ownBlock = some z ∨ w30.heap.size ≤ z) v33 := hin33.mono fun z hz => by
          rcases hz with h | h
          · exact .inl h
          · exact .inr (by omega)
        refine ops_nil ⟨(hS.own hk35 (fun z hz hA => (hI33 z hz).elim (fun h => absurd h.symm hA) id)), fun hS => ?_⟩
        refine any_ast 8 rfl (by kernel_rfl) (by kernel_rfl) (by kernel_rfl) rfl hS ?_
        refine any_done (by kernel_rfl) ?_
        refine W_region ?_
        refine op_run (r_add rfl rfl) rfl ?_
        refine o_mvt rfl ?_
        refine ops_nil ?_
        have hO35 : OwnB w35 5 v35 (pr2 ++ encN pn ++ p.2.val) := by
          have h := hown35
          refine OwnB.app ?_
          rw [p.2.2]; exact h
        have hw30 : Keep All w w30 := hkw25.trans hk30'
        refine ⟨by (repeat (first | with_reducible exact offM_refl _ _ | refine offM_updc rfl ?_ | refine offM_upd rfl ?_ | refine offM_updo rfl ?_ | refine offM_updo_none ?_ | refine offM_head rfl rfl ?_)), ⟨v35, j + 1, congrArg (fun z : Int => [v35, Value.int .i64 z]) hincj, by omega, ?_, ?_, hw30.own hS (fun z hz _ => hI25 z hz), ?_⟩, ?_⟩
        · have e : pre ++ (encB i.nm ++ (encN (qN ⟨i.q, i.fr, i.bl⟩) ++ (encN i.bl.length ++ (i.bl.take (j + 1)).flatMap encC))) = pr2 ++ encN pn ++ p.2.val := by
            rw [← hpr2, List.take_succ_eq_append_getElem hjl, (List.getElem?_eq_some_iff.1 hp).2, List.flatMap_append]
            have : [p].flatMap encC = encN pn ++ p.2.val := by
              rw [List.flatMap_cons, List.flatMap_nil, List.append_nil]
              unfold encC
              rw [hpn, Int.toNat_natCast]
            rw [this]
            simp [List.append_assoc]
          rw [e]; exact hO35
        · intro z hz
          rcases hb35 z hz with h | h
          · rcases hI33 z h with h | h
            · exact hI25 z h
            · have := hw30.size; omega
          · have := hw30.size; have := hk33.size; omega
        · exact hA30.ku hO30 hS
        · show i.bl.length - (IntKind.i64.wrap ((j : Int) + 1)).toNat < i.bl.length - (j : Int).toNat
          rw [hincj]; omega
      · refine W_exit ?_
        refine W_region ?_
        refine op_run (r_add rfl rfl) rfl ?_
        refine o_mvt rfl ?_
        refine ops_nil ?_
        have hje : j = i.bl.length := by omega
        refine ⟨by (repeat (first | with_reducible exact offM_refl _ _ | refine offM_updc rfl ?_ | refine offM_upd rfl ?_ | refine offM_updo rfl ?_ | refine offM_updo_none ?_ | refine offM_head rfl rfl ?_)), ⟨u2, k + 1, congrArg (fun z : Int => [u2, Value.int .i64 z]) hinc, by omega, ?_, hI25, hkw25, hA25⟩, ?_⟩
        · have e : encN (abs l).length ++ ((imgD (abs l)).take (k + 1)).flatMap encI = pre ++ (encB i.nm ++ (encN (qN ⟨i.q, i.fr, i.bl⟩) ++ (encN i.bl.length ++ (i.bl.take j).flatMap encC))) := by
            rw [← hpre, List.take_succ_eq_append_getElem hkl, (List.getElem?_eq_some_iff.1 hi).2, List.flatMap_append, List.append_assoc]
            congr 1; congr 1
            rw [List.flatMap_cons, List.flatMap_nil, List.append_nil, encI_all, hje]
          rw [e]; exact hO25
        · show (imgD (abs l)).length - (IntKind.i64.wrap ((k : Int) + 1)).toNat < (imgD (abs l)).length - (k : Int).toNat
          rw [hinc]; omega
  · refine W_exit ?_
    refine W_seq ?_
    refine W_region ?_
    refine o_mvt rfl ?_
    refine o_ast rfl ?_
    refine ops_nil ?_
    refine W_ret ?_
    refine ret1 u rfl ?_ ?_; rfl
    have hke : k = (imgD (abs l)).length := by omega
    rw [hke, List.take_length] at hOu
    exact ⟨hOu, hk5, hIu⟩
end Go.Proofs.YtkmciohghhffnaaGreat.B
