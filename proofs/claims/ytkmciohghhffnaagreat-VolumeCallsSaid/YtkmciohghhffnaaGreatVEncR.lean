/-
  sporranref12.Encode.
-/
import Derived.Test.YtkmciohghhffnaaGreatVDecP
import Derived.Test.YtkmciohghhffnaaGreatVImgS
namespace Go.Proofs.YtkmciohghhffnaaGreat.B
open Go
set_option linter.unusedVariables false
set_option maxHeartbeats 2000000
set_option maxRecDepth 100000
attribute [local irreducible] W OpsW OpsQ retP
theorem Keep.lowV {B : Nat → Prop} {w w1 w2 : World} (h : Keep All w w1) (h2 : Keep B w1 w2) (hB : ∀ z, z < w.heap.size → B z) : Keep All w w2 :=
  (Keep.trans (A := fun z => z < w.heap.size) (h.mono fun _ _ _ => trivial) (h2.mono fun z _ hz => hB z hz)).mono fun _ hz _ => hz
theorem rf12_Encode (w : World) (v : Value) (L : List Img) (ys : List (Img × Value)) (h : ImgsS w v L ys) (hL : L.length ≤ 1000) (hok : ∀ i ∈ L, ImgOk i) :
    Ret Tryz.prog 14 [v].toArray w fun r w' => OwnB w' 5 r (encN L.length ++ L.flatMap encI) ∧ Keep All w w' := by
  obtain ⟨a0, c0, rfl, hc0, hcm0⟩ := h.o.form
  have hys := h.len
  refine enter (fn := Tryz.f14) (n := 86) Tryz.func14 rfl rfl (by simp) ?_
  refine W_seq ?_
  refine W_region ?_
  refine o_asc rfl ?_
  refine ops_nil ?_
  refine W_seq ?_
  refine W_region ?_
  refine o_bs0 rfl rfl rfl ?_; intro w1 b1 e1 hB1 hk1 hs1
  refine o_mvt rfl ?_
  refine op_run (r_len rfl rfl rfl) rfl ?_
  refine op_run ((r_conv rfl rfl rfl).val (conv_len L.length (by omega))) rfl ?_
  refine op_call rfl rfl rfl (ref01_Number w1 _ [] L.length (by omega) (Own.blk (n := 0) hB1 rfl (Nat.zero_le _)) (by decide)) ?_; rintro v2 w2 ⟨hO2, hk2, hin2⟩
  have hkw2 : Keep All w w2 := hk1.lowV hk2 (fun z hz e => by have e : z = b1 := Option.some.inj e; omega)
  rw [List.nil_append] at hO2
  have hin2' : InB (fun z => w.heap.size ≤ z) v2 := hin2.mono fun z hz => by
    rcases hz with hz | hz
    · have hz : b1 = z := Option.some.inj hz
      omega
    · omega
  refine o_ast rfl ?_
  refine ops_nil ?_
  refine W_seq ?_
  refine W_seq ?_
  refine W_region ?_
  refine o_asc rfl ?_
  refine ops_nil ?_
  refine W_block ?_
  refine W_loop [3, 4] [3, 4, 5, 6, 12, 13, 14, 15, 16, 17, 18, 19, 20, 21, 22, 23, 24, 25, 26, 27, 28, 29, 30, 31, 32, 33, 34, 35, 36, 37, 38, 39, 40, 41, 42, 43, 44, 45, 46, 47, 48, 49, 50, 51, 52, 53, 54, 55, 56, 57, 58, 59, 60, 61, 62, 63, 64, 65, 66, 67, 68, 69, 70, 71, 72, 73, 74, 75, 76, 77, 78, 79, 80, 81, 82, 83, 84] (fun vs w' => ∃ (u : Value) (k : Nat), vs = [u, .int .i64 k] ∧ k ≤ L.length ∧ OwnB w' 5 u (encN L.length ++ (L.take k).flatMap encI) ∧ InB (fun z => w.heap.size ≤ z) u ∧ Keep All w w') (fun vs _ => match vs with | [_, .int _ y] => L.length - y.toNat | _ => 0) ⟨v2, 0, rfl, Nat.zero_le _, by rw [List.take_zero, List.flatMap_nil, List.append_nil]; exact hO2, hin2', hkw2⟩ ?_
  rintro J3 vs w3 ⟨u, k, rfl, hk, hO3, hI3, hkw3⟩ -
  refine W_seq ?_
  refine W_seq ?_
  refine W_region ?_
  refine o_mvt rfl ?_
  refine o_mvt rfl ?_
  refine op_run (r_len rfl rfl rfl) rfl ?_
  refine op_run (r_lss rfl rfl) rfl ?_
  refine ops_nil ?_
  refine W_cond_p rfl (fun h4 => ?_) (fun h4 => ?_)
  · refine W_skip ?_
    refine W_seq ?_
    refine W_block ?_
    refine W_seq ?_
    refine W_region ?_
    refine o_mvt rfl ?_
    refine o_mvt rfl ?_
    have hkl : k < L.length := by omega
    obtain ⟨i, x, bi, oi, ci, hy, hi, ei, hcx, hsl⟩ := h.at hkl
    cases ei
    have hio := hok i (List.mem_of_getElem? hi)
    have hie : L[k] = i := (List.getElem?_eq_some_iff.1 hi).2
    have hinc := inc64' k (by omega)
    obtain ⟨qn, hqn⟩ : ∃ n : Nat, i.q = n := ⟨i.q.toNat, by have := hio.2.2.2.1; omega⟩
    have hqm : qn ≤ 1048576 := by have := hio.2.2.2.2; omega
    have hbl2 := hio.2.1
    have hnm20 := hio.1
    obtain ⟨xa, xc, rfl, _, hxc⟩ := hsl.form
    obtain ⟨pre, hpre⟩ : ∃ pre, encN L.length ++ (L.take k).flatMap encI = pre := ⟨_, rfl⟩
    have hprel : pre.length ≤ 50000000 := by
      rw [← hpre, List.length_append]
      have e1 := encN_len10 (show L.length < 2 ^ 64 by omega)
      have e2 := fl_len encI 42050 (L.take k) (fun y hy => encI_len (hok y (List.mem_of_mem_take hy)))
      have e3 : (L.take k).length ≤ 1000 := by rw [List.length_take]; omega
      have e4 : (L.take k).length * 42050 ≤ 1000 * 42050 := Nat.mul_le_mul_right _ e3
      omega
    rw [hpre] at hO3
    refine op_run (r_idxS rfl rfl rfl rfl (by omega) (by omega)) rfl ?_
    refine op_run (r_fieldAddr rfl rfl rfl rfl rfl) rfl ?_
    refine op_run (r_load rfl rfl rfl (by rw [Int.toNat_natCast]; exact hkw3.cell (hcx 1 _ rfl) trivial)) rfl ?_
    refine op_run ((r_conv rfl rfl rfl).val (congrArg (Value.int .u64) (show IntKind.u64.wrap i.q = ((qn : Nat) : Int) from by rw [hqn, wrap_u64]; omega))) rfl ?_
    refine op_run ((r_mul rfl rfl).val (congrArg (Value.int .u64) (show IntKind.u64.wrap (2 * ((qn : Nat) : Int)) = ((2 * qn : Nat) : Int) from by rw [wrap_u64]; omega))) rfl ?_
    refine o_ast rfl ?_
    refine ops_nil ?_
    refine W_cut [5] [5, 25, 26, 27, 28, 29, 30, 31] (fun vs w7 => vs = [.int .u64 ((qN ⟨i.q, i.fr, i.bl⟩ : Nat) : Int)] ∧ w7 = w3) ?_ ?_
    · refine W_seq ?_
      refine W_region ?_
      refine o_mvt rfl ?_
      refine o_mvt rfl ?_
      refine op_run (r_idxS rfl rfl rfl rfl (by omega) (by omega)) rfl ?_
      refine op_run (r_fieldAddr rfl rfl rfl rfl rfl) rfl ?_
      refine op_run (r_load rfl rfl rfl (by rw [Int.toNat_natCast]; exact hkw3.cell (hcx 2 _ rfl) trivial)) rfl ?_
      refine ops_nil ?_
      refine W_cond rfl (fun h10 => ?_) (fun h10 => ?_)
      · refine W_region ?_
        refine o_mvt rfl ?_
        refine op_run ((r_add rfl rfl).val (congrArg (Value.int .u64) (show IntKind.u64.wrap (((2 * qn : Nat) : Int) + 1) = ((2 * qn + 1 : Nat) : Int) from by rw [wrap_u64]; omega))) rfl ?_
        refine o_ast rfl ?_
        refine ops_nil ?_
        exact ⟨by (repeat (first | with_reducible exact offM_refl _ _ | refine offM_updc rfl ?_ | refine offM_upd rfl ?_ | refine offM_updo rfl ?_ | refine offM_updo_none ?_ | refine offM_head rfl rfl ?_)), congrArg (fun z : Int => [Value.int .u64 z]) (by have h10 : i.fr = true := h10; unfold qN; show ((2 * qn + 1 : Nat) : Int) = ((2 * i.q.toNat + (if i.fr = true then 1 else 0) : Nat) : Int); rw [if_pos h10, hqn, Int.toNat_natCast]), rfl⟩
      · refine W_skip ?_
        exact ⟨by (repeat (first | with_reducible exact offM_refl _ _ | refine offM_updc rfl ?_ | refine offM_upd rfl ?_ | refine offM_updo rfl ?_ | refine offM_updo_none ?_ | refine offM_head rfl rfl ?_)), congrArg (fun z : Int => [Value.int .u64 z]) (by have h10 : i.fr = false := h10; unfold qN; show ((2 * qn : Nat) : Int) = ((2 * i.q.toNat + (if i.fr = true then 1 else 0) : Nat) : Int); rw [if_neg (by rw [h10]; decide), hqn, Int.toNat_natCast]; rfl), rfl⟩
    · rintro J13 vs w13 ⟨rfl, rfl⟩ -
      have hqN : qN ⟨i.q, i.fr, i.bl⟩ < 2 ^ 64 := by unfold qN; show 2 * i.q.toNat + (if i.fr = true then 1 else 0) < _; split <;> omega
      refine W_seq ?_
      refine W_region ?_
      refine o_mvt rfl ?_
      refine o_mvt rfl ?_
      refine o_mvt rfl ?_
      refine op_run (r_idxS rfl rfl rfl rfl (by omega) (by omega)) rfl ?_
      refine op_run (r_fieldAddr rfl rfl rfl rfl rfl) rfl ?_
      refine op_run (r_load rfl rfl rfl (by rw [Int.toNat_natCast]; exact hkw3.cell (hcx 0 _ rfl) trivial)) rfl ?_
      refine o_strB rfl rfl rfl rfl ((Nat.le_trans hio.1 (show 20 ≤ maxLen by unfold maxLen; omega))) rfl ?_; intro w16 b16 c16 hby16 e16 hk16 hs16
      have hO16 := Own.keep hO3 hk16 (fun _ _ => trivial)
      have hlu := hO3.lt
      have hkw16 := hkw3.trans hk16
      refine op_call rfl rfl rfl (ref01_Bytes w16 u _ pre i.nm hO16 (fun w' hk => hby16.keep hk (fun z hz => by have hz : some b16 = some z := hz; injection hz with hz; intro e; have := hlu z e.symm; omega)) (by have := hio.1; omega)) ?_; rintro v17 w17 ⟨hO17, hk17, hin17⟩
      have hkw17 := hkw16.lowV hk17 (fun z hz e => by have := hI3 z e.symm; omega)
      have hI17 : InB (fun z => w.heap.size ≤ z) v17 := hin17.mono fun z hz => by
        rcases hz with hz | hz
        · exact hI3 z hz
        · have := hkw16.size; omega
      have hbln := encB_len i.nm (by have := hio.1; omega)
      have hqnl := encN_len10 hqN
      have hcnl := encN_len10 (show i.bl.length < 2 ^ 64 by omega)
      refine o_ast rfl ?_
      refine ops_nil ?_
      refine W_seq ?_
      refine W_region ?_
      refine o_mvt rfl ?_
      refine o_mvt rfl ?_
      refine op_call rfl rfl rfl (ref01_Number w17 v17 (pre ++ encB i.nm) (qN ⟨i.q, i.fr, i.bl⟩) hqN hO17 (by rw [List.length_append]; omega)) ?_; rintro v18 w18 ⟨hO18, hk18, hin18⟩
      have hkw18 := hkw17.lowV hk18 (fun z hz e => by have := hI17 z e.symm; omega)
      have hI18 : InB (fun z => w.heap.size ≤ z) v18 := hin18.mono fun z hz => by
        rcases hz with hz | hz
        · exact hI17 z hz
        · have := hkw17.size; omega
      refine o_ast rfl ?_
      refine ops_nil ?_
      refine W_seq ?_
      refine W_region ?_
      refine o_mvt rfl ?_
      refine o_mvt rfl ?_
      refine o_mvt rfl ?_
      refine op_run (r_idxS rfl rfl rfl rfl (by omega) (by omega)) rfl ?_
      refine op_run (r_fieldAddr rfl rfl rfl rfl rfl) rfl ?_
      refine op_run (r_load rfl rfl rfl (by rw [Int.toNat_natCast]; exact hkw18.cell (hcx 3 _ rfl) trivial)) rfl ?_
      refine op_run (r_len rfl rfl rfl) rfl ?_
      refine op_run ((r_conv rfl rfl rfl).val (conv_len i.bl.length (by omega))) rfl ?_
      refine op_call rfl rfl rfl (ref01_Number w18 v18 (pre ++ encB i.nm ++ encN (qN ⟨i.q, i.fr, i.bl⟩)) i.bl.length (by omega) hO18 (by rw [List.length_append, List.length_append]; omega)) ?_; rintro v21 w21 ⟨hO21, hk21, hin21⟩
      have hkw21 := hkw18.lowV hk21 (fun z hz e => by have := hI18 z e.symm; omega)
      have hI21 : InB (fun z => w.heap.size ≤ z) v21 := hin21.mono fun z hz => by
        rcases hz with hz | hz
        · exact hI18 z hz
        · have := hkw18.size; omega
      refine o_ast rfl ?_
      refine ops_nil ?_
      refine W_seq ?_
      refine W_region ?_
      refine o_asc rfl ?_
      refine ops_nil ?_
      refine W_block ?_
      refine W_loop [3, 6] [3, 6, 52, 53, 54, 55, 56, 57, 58, 59, 60, 61, 62, 63, 64, 65, 66, 67, 68, 69, 70, 71, 72, 73, 74, 75, 76, 77, 78, 79, 80, 81, 82, 83, 84] (fun vs w' => ∃ (u2 : Value) (j : Nat), vs = [u2, .int .i64 j] ∧ j ≤ i.bl.length ∧ OwnB w' 5 u2 (pre ++ (encB i.nm ++ (encN (qN ⟨i.q, i.fr, i.bl⟩) ++ (encN i.bl.length ++ (i.bl.take j).flatMap encC)))) ∧ InB (fun z => w.heap.size ≤ z) u2 ∧ Keep All w w') (fun vs _ => match vs with | [_, .int _ y] => i.bl.length - y.toNat | _ => 0) ⟨v21, 0, rfl, Nat.zero_le _, by rw [List.take_zero, List.flatMap_nil, List.append_nil]; simpa [List.append_assoc] using hO21, hI21, hkw21⟩ ?_
      rintro J22 vs w22 ⟨u2, j, rfl, hj, hO22, hI22, hkw22⟩ -
      refine W_seq ?_
      refine W_seq ?_
      refine W_region ?_
      refine o_mvt rfl ?_
      refine o_mvt rfl ?_
      refine o_mvt rfl ?_
      refine op_run (r_idxS rfl rfl rfl rfl (by omega) (by omega)) rfl ?_
      refine op_run (r_fieldAddr rfl rfl rfl rfl rfl) rfl ?_
      refine op_run (r_load rfl rfl rfl (by rw [Int.toNat_natCast]; exact hkw22.cell (hcx 3 _ rfl) trivial)) rfl ?_
      refine op_run (r_len rfl rfl rfl) rfl ?_
      refine op_run (r_lss rfl rfl) rfl ?_
      refine ops_nil ?_
      refine W_cond_p rfl (fun h25 => ?_) (fun h25 => ?_)
      · refine W_skip ?_
        refine W_seq ?_
        refine W_block ?_
        refine W_seq ?_
        refine W_region ?_
        refine o_mvt rfl ?_
        refine o_mvt rfl ?_
        refine o_mvt rfl ?_
        have hjl : j < i.bl.length := by omega
        have hincj := inc64' j (by omega)
        obtain ⟨p, pb, po, pc, hp, ep, hcp⟩ := nb_at hsl hjl
        cases ep
        have hpio := hio.2.2.1 p (List.mem_of_getElem? hp)
        obtain ⟨pn, hpn⟩ : ∃ n : Nat, p.1 = n := ⟨p.1.toNat, by omega⟩
        have hlu2 := hO22.lt
        have hpnl := encN_len10 (show pn < 2 ^ 64 by omega)
        have hdg : ∀ W, Keep All w W → Sl W (.slice (some ⟨pb, po + j * 33 + 1, none⟩) 32 32) 32 1 (p.2.val.map c8) := fun W hk => ⟨_, _, rfl, Nat.le_refl _, by unfold maxLen; omega, by rw [List.length_map, p.2.2], (fun e => by cases e), fun ad had m y hm => by
          cases had
          refine ⟨rfl, hk.cell ?_ trivial⟩
          have h := hcp (1 + m) y (by show (nbR p)[1 + m]? = some y; rw [Nat.add_comm]; exact hm)
          rw [Addr.add_lit, ← Nat.add_assoc] at h
          exact h⟩
        obtain ⟨pr2, hpr2⟩ : ∃ pr2, pre ++ (encB i.nm ++ (encN (qN ⟨i.q, i.fr, i.bl⟩) ++ (encN i.bl.length ++ (i.bl.take j).flatMap encC))) = pr2 := ⟨_, rfl⟩
        have hpr2l : pr2.length ≤ 60000000 := by
          rw [← hpr2, List.length_append]
          have := encI_pre hio j
          omega
        rw [hpr2] at hO22
        refine op_run (r_idxS rfl rfl rfl rfl (by omega) (by omega)) rfl ?_
        refine op_run (r_fieldAddr rfl rfl rfl rfl rfl) rfl ?_
        refine op_run (r_load rfl rfl rfl (by rw [Int.toNat_natCast]; exact hkw22.cell (hcx 3 _ rfl) trivial)) rfl ?_
        refine o_mvt rfl ?_
        refine op_run (r_idxS rfl rfl rfl rfl (by omega) (by omega)) rfl ?_
        refine op_run (r_fieldAddr rfl rfl rfl rfl rfl) rfl ?_
        refine op_run (r_load rfl rfl rfl (by rw [Int.toNat_natCast]; have h := hcp 0 _ rfl; rw [Addr.add_lit] at h; exact hkw22.cell h trivial)) rfl ?_
        refine op_run ((r_conv rfl rfl rfl).val (congrArg (Value.int .u64) (show IntKind.u64.wrap p.1 = ((pn : Nat) : Int) from by rw [hpn, wrap_u64]; omega))) rfl ?_
        refine op_call rfl rfl rfl (ref01_Number w22 u2 pr2 pn (by omega) hO22 (by omega)) ?_; rintro v30 w30 ⟨hO30, hk30, hin30⟩
        have hkw30 := hkw22.lowV hk30 (fun z hz e => by have := hI22 z e.symm; omega)
        have hI30 : InB (fun z => w.heap.size ≤ z) v30 := hin30.mono fun z hz => by
          rcases hz with hz | hz
          · exact hI22 z hz
          · have := hkw22.size; omega
        refine o_ast rfl ?_
        refine ops_nil ?_
        refine W_region ?_
        refine o_mvt rfl ?_
        refine o_mvt rfl ?_
        refine o_mvt rfl ?_
        refine op_run (r_idxS rfl rfl rfl rfl (by omega) (by omega)) rfl ?_
        refine op_run (r_fieldAddr rfl rfl rfl rfl rfl) rfl ?_
        refine op_run (r_load rfl rfl rfl (by rw [Int.toNat_natCast]; exact hkw30.cell (hcx 3 _ rfl) trivial)) rfl ?_
        refine o_mvt rfl ?_
        refine op_run (r_idxS rfl rfl rfl rfl (by omega) (by omega)) rfl ?_
        refine op_run (r_fieldAddr rfl rfl rfl rfl rfl) rfl ?_
        refine op_run (r_sliceA rfl rfl rfl) rfl ?_
        refine o_appS (v := v30) rfl rfl (hdg _ hkw30) rfl ti_u8 rfl rfl hO30 (all_c8 _) (by unfold maxLen; rw [List.length_append]; omega) (by rw [List.length_append]; omega) rfl ?_; intro v34 w34 hown34 hk34 hb34
        refine o_ast rfl ?_
        refine ops_nil ?_
        refine W_region ?_
        refine o_mvt rfl ?_
        refine op_run (r_add rfl rfl) rfl ?_
        refine o_ast rfl ?_
        refine ops_nil ?_
        have hO34 : OwnB w34 5 v34 (pr2 ++ encN pn ++ p.2.val) := by
          have h := hown34
          refine OwnB.app ?_
          rw [p.2.2]; exact h
        refine ⟨by (repeat (first | with_reducible exact offM_refl _ _ | refine offM_updc rfl ?_ | refine offM_upd rfl ?_ | refine offM_updo rfl ?_ | refine offM_updo_none ?_ | refine offM_head rfl rfl ?_)), ⟨v34, j + 1, congrArg (fun z : Int => [v34, Value.int .i64 z]) hincj, by omega, ?_, ?_, ?_⟩, ?_⟩
        · have e : pre ++ (encB i.nm ++ (encN (qN ⟨i.q, i.fr, i.bl⟩) ++ (encN i.bl.length ++ (i.bl.take (j + 1)).flatMap encC))) = pr2 ++ encN pn ++ p.2.val := by
            rw [← hpr2, List.take_succ_eq_append_getElem hjl, (List.getElem?_eq_some_iff.1 hp).2, List.flatMap_append]
            have : [p].flatMap encC = encN pn ++ p.2.val := by
              rw [List.flatMap_cons, List.flatMap_nil, List.append_nil]
              unfold encC
              rw [hpn, Int.toNat_natCast]
            rw [this]
            simp [List.append_assoc]
          rw [e]; exact hO34
        · intro z hz
          rcases hb34 z hz with h | h
          · exact hI30 z h
          · have := hkw30.size; omega
        · exact hkw30.lowV hk34 (fun z hz e => by have := hI30 z e.symm; omega)
        · show i.bl.length - (IntKind.i64.wrap ((j : Int) + 1)).toNat < i.bl.length - (j : Int).toNat
          rw [hincj]; omega
      · refine W_exit ?_
        refine W_region ?_
        refine o_mvt rfl ?_
        refine op_run (r_add rfl rfl) rfl ?_
        refine o_ast rfl ?_
        refine ops_nil ?_
        have hje : j = i.bl.length := by omega
        subst hje
        refine ⟨by (repeat (first | with_reducible exact offM_refl _ _ | refine offM_updc rfl ?_ | refine offM_upd rfl ?_ | refine offM_updo rfl ?_ | refine offM_updo_none ?_ | refine offM_head rfl rfl ?_)), ⟨u2, k + 1, congrArg (fun z : Int => [u2, Value.int .i64 z]) hinc, by omega, ?_, hI22, hkw22⟩, ?_⟩
        · have e : encN L.length ++ (L.take (k + 1)).flatMap encI = pre ++ (encB i.nm ++ (encN (qN ⟨i.q, i.fr, i.bl⟩) ++ (encN i.bl.length ++ (i.bl.take i.bl.length).flatMap encC))) := by
            rw [← hpre, List.take_succ_eq_append_getElem hkl, hie, List.flatMap_append, ← encI_all]
            simp [List.append_assoc]
          rw [e]; exact hO22
        · show L.length - (IntKind.i64.wrap ((k : Int) + 1)).toNat < L.length - (k : Int).toNat
          rw [hinc]; omega
  · refine W_exit ?_
    refine W_seq ?_
    refine W_region ?_
    refine o_mvt rfl ?_
    refine o_ast rfl ?_
    refine ops_nil ?_
    refine W_ret ?_
    refine ret1 u rfl ?_ ?_; rfl
    have e : k = L.length := by omega
    subst e
    rw [List.take_length] at hO3
    exact ⟨hO3, hkw3⟩
end Go.Proofs.YtkmciohghhffnaaGreat.B
