/-
  sporranref12.Decode. (Under way.)
-/
import Derived.Test.YtkmciohghhffnaaVDecP
import Derived.Test.YtkmciohghhffnaaIn01b
namespace Go.Proofs.Ytkmciohghhffnaa.B
open Go
set_option linter.unusedVariables false
set_option maxHeartbeats 2000000
set_option maxRecDepth 100000
attribute [local irreducible] W OpsW OpsQ retP
theorem ImgsO.kA {A : Nat → Prop} {w w' : World} {v : Value} {L : List Img} {ys : List (Img × Value)} (h : ImgsO w v L ys) (hk : Keep A w w') (ho : InB A v) (hb : ∀ y ∈ ys, InB A y.2) : ImgsO w' v L ys :=
  ⟨h.e, h.o.keep hk ho, fun y hy => (h.b y hy).keep hk (hb y hy)⟩
theorem ImgsO.st {w w' : World} {v : Value} {b : Nat} {L : List Img} {ys : List (Img × Value)} (h : ImgsO w v L ys) (hk : Keep (· ≠ b) w w') (hb : w.heap.size ≤ b) : ImgsO w' v L ys :=
  h.kA hk (fun z hz e => by have := h.o.lt z hz; omega) (fun y hy z hz e => by have := (h.b y hy).lt z hz; omega)
section
variable {P : Program} {F : Fr} {w : World} {dst : Option Tmp} {ty : TypeId} {pos : String} {after : Array Edge} {g : Option (Nat × Bool)}
theorem r_geqStr {t t' : TypeId} {x y : Operand} {a b : List UInt8} (hx : ev F x = .string ⟨a.toArray⟩) (hy : ev F y = .string ⟨b.toArray⟩) : Run1 P F ⟨dst, .binOp .geq t x y t', ty, pos, after, g⟩ w (.bool (!decide (a < b))) w := by
  unfold Run1
  simp [execOp, hx, hy, eqGuard, binOp, Op.stringOp, ByteArray.toList_eq, Go.Proofs.bytesLess_eq]
end
/-- What the document's Decode tells. -/
def RdcQ (w : World) (xs : List UInt8) (r : Value) (w' : World) : Prop :=
  ((setR12 xs = none ∧ r = .tuple #[.slice none 0 0, .int .i64 3]) ∨ ∃ L v' ys, setR12 xs = some L ∧ r = .tuple #[v', .int .i64 0] ∧ ImgsS w' v' (L.map img1) ys) ∧ Keep All w w'
/-- The last name so far. -/
def lastN (acc : AL) : List UInt8 := match acc.getLast? with
  | none => []
  | some x => x.1
theorem lastN_snoc (acc : AL) (x : List UInt8 × VA) : lastN (acc ++ [x]) = x.1 := by unfold lastN; rw [List.getLast?_concat]
/-- The last number so far. -/
def lastC (acc : List (Int × Bk)) : Int := match acc.getLast? with
  | none => -1
  | some x => x.1
theorem lastC_snoc (acc : List (Int × Bk)) (x : Int × Bk) : lastC (acc ++ [x]) = x.1 := by unfold lastC; rw [List.getLast?_concat]
theorem quo2 (y : Nat) (h : y < 2 ^ 64) : IntKind.u64.wrap (((y : Nat) : Int).tdiv 2) = ((y / 2 : Nat) : Int) := by
  rw [Int.tdiv_eq_ediv_of_nonneg (by omega), wrap_u64]
  omega
theorem nb_dig (n : Int) (d : Bk) : splice (nbR (n, Bk.zero)) 1 (blkR d) = nbR (n, d) := by
  unfold splice
  have h1 : (blkR d).length = 32 := blkR_len d
  rw [h1, List.drop_eq_nil_of_le (by rw [nbR_len]; omega), List.append_nil]
  rfl
def cell1 (n : Int) : List Value := nbR (n, Bk.zero)
theorem rf12_Decode (w : World) (v : Value) (xs : List UInt8) (hx : By w v xs) (hl : xs.length ≤ 1000000) : Ret Try.prog 29 [v].toArray w (RdcQ w xs) := by
  obtain ⟨a0, c0, rfl, hc0, hcm0⟩ := hx.form
  obtain ⟨N2, hN2⟩ : ∃ N, numR 1073741824 xs false = N := ⟨_, rfl⟩
  obtain ⟨m, bs2, bad2⟩ := N2
  have hm : m ≤ 1073741824 := by have := numR_le 1073741824 xs false; rw [hN2] at this; exact this
  refine enter (fn := Try.f29) (n := 116) Try.func29 rfl rfl (by simp) ?_
  refine W_seq ?_
  refine W_region ?_
  refine o_asc rfl ?_
  refine o_asc rfl ?_
  refine ops_nil ?_
  refine W_seq ?_
  refine W_region ?_
  refine o_mvt rfl ?_
  refine op_run (r_build ([.slice a0 xs.length c0, .int .i64 0, .bool false]) (_) ([(0, .slice a0 xs.length c0)]) rfl rfl rfl rfl rfl (rfl)) rfl ?_
  refine o_box (cs := [.slice a0 xs.length c0, .int .i64 0, .bool false]) rfl rfl rfl ?_; intro w2 b2 e2 hB2 hk2 hs2
  obtain ⟨A, hA⟩ : ∃ A : Nat → Prop, A = fun k => k < w.heap.size := ⟨_, rfl⟩
  have hR2 : RIn w2 b2 A xs false := RIn.new hB2 (hx.keep hk2 (fun _ _ => trivial)) (by rw [hA]; exact hx.ltE) (by omega)
  have hAlt : ∀ k, A k → k < w.heap.size := by rw [hA]; exact fun k h => h
  have hAb : ¬ A b2 := fun h => by have := hAlt _ h; omega
  have hl2 := hR2.lt
  refine o_ast rfl ?_
  refine ops_nil ?_
  refine W_seq ?_
  refine W_region ?_
  refine o_mvt rfl ?_
  refine op_call rfl rfl rfl (rn_Number w2 b2 A xs false 1073741824 hAb hR2) ?_; rintro v3 w3 ⟨rfl, hR3, hk3⟩
  rw [hN2] at hR3 ⊢
  have hR3 : RIn w3 b2 A bs2 bad2 := hR3
  have hk03 : Keep All w w3 := hk2.new hk3 (by omega)
  have hz3 := hk3.size
  refine o_ast rfl ?_
  refine ops_nil ?_
  refine W_seq ?_
  refine W_region ?_
  refine o_bs0 rfl rfl rfl ?_; intro w4 b4 e4 hB4 hk4 hs4
  have hI4 : ImgsO w4 (.slice (some ⟨b4, 0, none⟩) 0 0) (([] : AL).map img1) [] := ⟨rfl, Own.blk hB4 rfl (Nat.zero_le _), fun y hy => by cases hy⟩
  refine o_ast rfl ?_
  refine ops_nil ?_
  refine W_seq ?_
  refine W_seq ?_
  refine W_region ?_
  refine o_asc rfl ?_
  refine ops_nil ?_
  refine W_block ?_
  refine W_loop [6, 7] [2, 3, 6, 7, 8, 9, 10, 11, 12, 19, 20, 21, 22, 23, 24, 25, 26, 27, 28, 29, 30, 31, 32, 33, 34, 35, 36, 37, 38, 39, 40, 41, 42, 43, 44, 45, 46, 47, 48, 49, 50, 51, 52, 53, 54, 55, 56, 57, 58, 59, 60, 61, 62, 63, 64, 65, 66, 67, 68, 69, 70, 71, 72, 73, 74, 75, 76, 77, 78, 79, 80, 81, 82, 83, 84, 85, 86, 87, 88, 89, 90, 91, 92, 93, 94, 95, 96, 97, 98, 99, 100, 101, 102, 103, 104, 105, 106, 107, 108, 109, 110, 111] (fun vs w' => ∃ (u : Value) (i : Nat) (acc : AL) (ys : List (Img × Value)) (rest : List UInt8) (bd : Bool), vs = [u, .int .u64 i] ∧ i ≤ m ∧ acc.length = i ∧ ImgsO w' u (acc.map img1) ys ∧ RIn w' b2 A rest bd ∧ Keep All w w' ∧ w3.heap.size ≤ w'.heap.size ∧ InB (fun z => w3.heap.size ≤ z) u ∧ (∀ y ∈ ys, InB (fun z => w3.heap.size ≤ z) y.2) ∧ (bd = false → bad2 = false ∧ volsR m [] bs2 = preV acc (volsR (m - i) (lastN acc) rest)) ∧ (bd = true → bad2 = true ∨ volsR m [] bs2 = none)) (fun vs _ => match vs with | [_, .int _ y] => m - y.toNat | _ => 0) ⟨_, 0, [], [], bs2, bad2, rfl, Nat.zero_le _, rfl, hI4, hR3.k hk4, hk03.trans hk4, by have := hk4.size; omega, (fun z hz => by have hz : some b4 = some z := hz; injection hz with hz; omega), (fun y hy => by cases hy), (fun e => ⟨e, by rw [preV_nil]; rfl⟩), (fun e => .inl e)⟩ ?_
  rintro J5 vs w5 ⟨u, i, acc, ys, rest, bd, rfl, hi, hal, hI5, hR5, hk5, hz5, hIu, hIy, hgo, hno⟩ -
  refine W_seq ?_
  refine W_cut [28] [19, 20, 21, 22, 23, 24, 25, 26, 27, 28] (fun vs w6 => vs = [.bool (decide (i < m ∧ bd = false))] ∧ w6 = w5) ?_ ?_
  · refine W_region ?_
    refine o_mvt rfl ?_
    refine o_mvt rfl ?_
    refine op_run (r_lss rfl rfl) rfl ?_
    refine o_mvt rfl ?_
    refine g_split rfl rfl rfl (fun g7 => ?_) (fun g7 => ?_)
    · refine o_mvt (g_yes rfl rfl rfl g7) ?_
      refine op_run (r_nilCheck rfl) (g_yes rfl rfl rfl g7) ?_
      refine op_run (r_fieldAddr rfl rfl rfl rfl rfl) (g_yes rfl rfl rfl g7) ?_
      refine op_run (r_load rfl rfl rfl (by obtain ⟨_, _, _, hB, _⟩ := hR5; exact hB.cell rfl)) (g_yes rfl rfl rfl g7) ?_
      refine op_run (r_not rfl) (g_yes rfl rfl rfl g7) ?_
      refine o_pkTt rfl g7 rfl ?_
      refine ops_nil ?_
      exact ⟨by (repeat (first | with_reducible exact offM_refl _ _ | refine offM_updc rfl ?_ | refine offM_upd rfl ?_ | refine offM_updo rfl ?_ | refine offM_updo_none ?_ | refine offM_head rfl rfl ?_)), congrArg (fun b => [Value.bool b]) (by have g := of_decide_eq_true g7; rw [show decide (i < m ∧ bd = false) = decide (bd = false) by rw [decide_eq_decide]; exact ⟨fun h => h.2, fun h => ⟨by omega, h⟩⟩]; cases bd <;> rfl), rfl⟩
    · refine op_skip (g_no rfl rfl rfl g7) ?_
      refine op_skip (g_no rfl rfl rfl g7) ?_
      refine op_skip (g_no rfl rfl rfl g7) ?_
      refine op_skip (g_no rfl rfl rfl g7) ?_
      refine op_skip (g_no rfl rfl rfl g7) ?_
      refine o_pkFc rfl g7 rfl ?_
      refine ops_nil ?_
      exact ⟨by (repeat (first | with_reducible exact offM_refl _ _ | refine offM_updc rfl ?_ | refine offM_upd rfl ?_ | refine offM_updo rfl ?_ | refine offM_updo_none ?_ | refine offM_head rfl rfl ?_)), congrArg (fun b => [Value.bool b]) (by have g := of_decide_eq_false g7; symm; apply decide_eq_false; rintro ⟨h, _⟩; omega), rfl⟩
  · rintro J11 vs w11 ⟨rfl, rfl⟩ -
    refine W_cond rfl (fun h12 => ?_) (fun h12 => ?_)
    · refine W_skip ?_
      refine W_seq ?_
      refine W_block ?_
      refine W_seq ?_
      refine W_region ?_
      refine o_mvt rfl ?_
      obtain ⟨him, hbd⟩ := of_decide_eq_true h12
      subst hbd
      obtain ⟨hb2, hC⟩ := hgo rfl
      obtain ⟨k, hk⟩ : ∃ k, m - i = k + 1 := ⟨m - i - 1, by omega⟩
      rw [hk] at hC
      have hinc : IntKind.u64.wrap ((i : Int) + 1) = ((i + 1 : Nat) : Int) := by rw [wrap_u64]; omega
      have hneb : ∀ {z : Nat}, w3.heap.size ≤ z → z ≠ b2 := fun h e => by omega
      refine op_call rfl rfl rfl (rn_Bytes w11 b2 A rest false 20 hAb hR5 (by decide)) ?_; rintro v13 w13 ⟨hby13, hin13, hR13, hk13⟩
      obtain ⟨B1, hB1⟩ : ∃ B, bytsR 20 rest false = B := ⟨_, rfl⟩
      rw [hB1] at hby13 hR13
      obtain ⟨nm, r1, b1⟩ := B1
      have hby13 : By w13 v13 nm := hby13
      have hR13 : RIn w13 b2 A r1 b1 := hR13
      have hI13 := hI5.kA hk13 (hIu.mono fun z hz => hneb hz) (fun y hy => (hIy y hy).mono fun z hz => hneb hz)
      have hkw13 : Keep All w w13 := hk5.new hk13 (by omega)
      refine op_run (r_bytesStr rfl (hby13) rfl rfl rfl) rfl ?_
      refine op_run (r_build (imR (⟨nm, 0, false, []⟩, .slice none 0 0)) (_) ([(0, strA nm)]) rfl rfl rfl rfl rfl (rfl)) rfl ?_
      refine o_alloc rfl rfl rfl ?_; intro w16 b16 e16 hB16 hk16 hs16
      have hB16' : Blk w16 b16 (imR (⟨[], 0, false, []⟩, .slice none 0 0)) 55 := hB16
      refine o_storeA (cs := imR (⟨nm, 0, false, []⟩, .slice none 0 0)) rfl rfl (by first | rfl | exact binV_one _ | exact dgR_one _ | exact refR_one _ | exact secR_one _ | exact all_c8 _ | exact imR_one1 rfl | exact nbR_one _ | exact blkR_one _) (by first | rfl | (rw [binV_len]; rfl) | (rw [dgR_len]; rfl) | (rw [refR_len]; rfl) | (rw [secR_len]; rfl) | (rw [List.length_map, tagF_len]; rfl) | (rw [nbR_len]; rfl) | (rw [imR_len]; rfl) | (rw [blkR_len]; rfl)) hB16' (by exact Nat.le_of_eq (by simp [imR_len])) rfl ?_; intro w17 hB17 hk17 hs17
      have hB17' : Blk w17 b16 (imR (⟨nm, 0, false, []⟩, .slice none 0 0)) 55 := by
        have h := hB17
        rwa [splice_all (by rw [imR_len, imR_len])] at h
      have hk17' : Keep All w13 w17 := hk16.new hk17 (by omega)
      have hz13 := hk13.size
      have hR17 := hR13.k hk17'
      refine ops_nil ?_
      refine W_seq ?_
      refine W_region ?_
      refine o_mvt rfl ?_
      refine op_call rfl rfl rfl (rn_Number w17 b2 A r1 b1 2097153 hAb hR17) ?_; rintro v18 w18 ⟨rfl, hR18, hk18⟩
      obtain ⟨Q, hQ⟩ : ∃ Q, numR 2097153 r1 b1 = Q := ⟨_, rfl⟩
      rw [hQ] at hR18 ⊢
      have hqm : Q.1 ≤ 2097153 := by rw [← hQ]; exact numR_le _ _ _
      have hne16 : b16 ≠ b2 := by omega
      have hB18 := hk18.blk' hB17' hne16
      have hlt16 := hB17'.lt
      refine o_ast rfl ?_
      refine ops_nil ?_
      refine W_seq ?_
      refine W_region ?_
      refine o_mvt rfl ?_
      refine op_run ((r_quo rfl rfl (by decide)).val (congrArg (Value.int .u64) (quo2 Q.1 (by omega)))) rfl ?_
      refine op_run ((r_conv rfl rfl rfl).val (congrArg (Value.int .i64) (conv_i64 (Q.1 / 2) (by omega)))) rfl ?_
      refine op_run (r_fieldAddr rfl rfl rfl rfl rfl) rfl ?_
      refine o_store (v := (.int .i64 ((Q.1 / 2 : Nat) : Int))) rfl rfl rfl rfl hB18 (by show 1 < 4; decide) rfl ?_; intro w19 hB19 hk19 hs19
      have hB19' : Blk w19 b16 (imR (⟨nm, ((Q.1 / 2 : Nat) : Int), false, []⟩, .slice none 0 0)) 55 := hB19
      refine ops_nil ?_
      refine W_seq ?_
      refine W_region ?_
      refine o_mvt rfl ?_
      refine op_run ((r_rem rfl rfl (by decide)).val (congrArg (Value.int .u64) (show ((Q.1 : Nat) : Int).tmod 2 = ((Q.1 % 2 : Nat) : Int) from (Int.ofNat_tmod Q.1 2).symm))) rfl ?_
      refine op_run (r_eql rfl rfl) rfl ?_
      refine op_run (r_fieldAddr rfl rfl rfl rfl rfl) rfl ?_
      refine o_store (v := (.bool (decide (((Q.1 % 2 : Nat) : Int) = 1)))) rfl rfl rfl rfl hB19' (by show 2 < 4; decide) rfl ?_; intro w20 hB20 hk20 hs20
      obtain ⟨fr, hfr⟩ : ∃ fr : Bool, decide (((Q.1 % 2 : Nat) : Int) = 1) = fr := ⟨_, rfl⟩
      have hB20' : Blk w20 b16 (imR (⟨nm, ((Q.1 / 2 : Nat) : Int), fr, []⟩, .slice none 0 0)) 55 := by rw [← hfr]; exact hB20
      have hAne : ∀ k, A k → k ≠ b16 := fun k hk => by have := hAlt _ hk; have := hkw13.size; omega
      have hR20 := (hR18.keep hk19 (show b2 ≠ b16 by omega) hAne).keep hk20 (show b2 ≠ b16 by omega) hAne
      have hz17 := hk17'.size
      have hz18 := hk18.size
      have hI18 : ImgsO w18 u (acc.map img1) ys := (hI13.k hk17').kA hk18 (hIu.mono fun z hz => hneb hz) (fun y hy => (hIy y hy).mono fun z hz => hneb hz)
      have hlo13 : ∀ z, u.ownBlock = some z → z < w13.heap.size := fun z hz => by have := hI5.o.lt z hz; omega
      have hly13 : ∀ y ∈ ys, ∀ z, y.2.ownBlock = some z → z < w13.heap.size := fun y hy z hz => by have := (hI5.b y hy).lt z hz; omega
      have hI20 : ImgsO w20 u (acc.map img1) ys := (hI18.kA hk19 (fun z hz => by have := hlo13 z hz; omega) (fun y hy z hz => by have := hly13 y hy z hz; omega)).kA hk20 (fun z hz => by have := hlo13 z hz; omega) (fun y hy z hz => by have := hly13 y hy z hz; omega)
      have hz135 := hkw13.size
      have hkw20 : Keep All w w20 := (((hkw13.trans hk17').new hk18 (by omega)).new hk19 (by omega)).new hk20 (by omega)
      refine ops_nil ?_
      refine W_seq ?_
      refine W_region ?_
      refine o_mvt rfl ?_
      refine op_run (r_fieldAddr rfl rfl rfl rfl rfl) rfl ?_
      refine op_run (r_load rfl rfl rfl (hB20'.cell rfl)) rfl ?_
      refine op_run ((r_conv rfl rfl rfl).val (conv_len (Q.1 / 2) (by omega))) rfl ?_
      refine op_call rfl rfl rfl (rn_Number w20 b2 A Q.2.1 Q.2.2 (Q.1 / 2) hAb hR20) ?_; rintro v22 w22 ⟨rfl, hR22, hk22⟩
      obtain ⟨M2, hM2⟩ : ∃ M, numR (Q.1 / 2) Q.2.1 Q.2.2 = M := ⟨_, rfl⟩
      have hmm := numR_le (Q.1 / 2) Q.2.1 Q.2.2
      rw [hM2] at hR22 hmm ⊢
      obtain ⟨m2, bs3, bad3⟩ := M2
      have hmm : m2 ≤ Q.1 / 2 := hmm
      have hR22 : RIn w22 b2 A bs3 bad3 := hR22
      have hB22 := hk22.blk' hB20' hne16
      have hI22 := hI20.kA hk22 (hIu.mono fun z hz => hneb hz) (fun y hy => (hIy y hy).mono fun z hz => hneb hz)
      have hkw22 : Keep All w w22 := hkw20.new hk22 (by omega)
      have hz22 := hk22.size
      have hz20 : w18.heap.size ≤ w20.heap.size := by have := hk19.size; have := hk20.size; omega
      have hfailV : (bad3 = true ∨ cellsR m2 (-1) bs3 = none) → volsR m [] bs2 = none := fun hh => by
        rw [hC, volsR_no]
        · rfl
        · rw [hB1]
          show b1 = true ∨ volR1 r1 = none ∨ _
          cases hb1 : b1 with
          | true => exact .inl rfl
          | false =>
            refine .inr (.inl ?_)
            rw [hb1] at hQ
            unfold volR1
            simp only
            rw [hQ, hM2]
            show (if bad3 = true then none else _) = none
            rcases hh with hh | hh
            · rw [if_pos hh]
            · split
              · rfl
              · show (match cellsR m2 (-1) bs3 with | none => none | some r => _) = none
                rw [hh]
      have hfail : (bad3 = true ∨ cellsR m2 (-1) bs3 = none) → setR12 xs = none := fun hh => dec_none hN2 (.inr (hfailV hh))
      refine o_ast rfl ?_
      refine ops_nil ?_
      refine W_seq ?_
      refine W_seq ?_
      refine W_region ?_
      refine o_asc rfl ?_
      refine ops_nil ?_
      refine W_block ?_
      refine W_loop [11] [2, 3, 11, 12, 50, 51, 52, 53, 54, 55, 56, 57, 58, 59, 60, 61, 62, 63, 64, 65, 66, 67, 68, 69, 70, 71, 72, 73, 74, 75, 76, 77, 78, 79, 80, 81, 82, 83, 84, 85, 86, 87, 88] (fun vs w' => ∃ (j : Nat) (ac2 : List (Int × Bk)) (u2 : Value) (rs2 : List UInt8) (bd2 : Bool), vs = [.int .u64 j] ∧ j ≤ m2 ∧ ac2.length = j ∧ Blk w' b16 (imR (⟨nm, ((Q.1 / 2 : Nat) : Int), fr, ac2⟩, u2)) 55 ∧ Own w' 60 33 u2 ac2.length (rows nbR ac2) ∧ InB (fun z => w22.heap.size ≤ z) u2 ∧ RIn w' b2 A rs2 bd2 ∧ Keep All w w' ∧ w22.heap.size ≤ w'.heap.size ∧ ImgsO w' u (acc.map img1) ys ∧ (bd2 = false → bad3 = false ∧ cellsR m2 (-1) bs3 = preC ac2 (cellsR (m2 - j) (lastC ac2) rs2)) ∧ (bd2 = true → bad3 = true ∨ cellsR m2 (-1) bs3 = none)) (fun vs _ => match vs with | [.int _ y] => m2 - y.toNat | _ => 0) ⟨0, [], .slice none 0 0, bs3, bad3, rfl, Nat.zero_le _, rfl, hB22, own_nil _ _ _, InB.nil, hR22, hkw22, Nat.le_refl _, hI22, (fun e => ⟨e, by rw [preC_nil]; rfl⟩), (fun e => .inl e)⟩ ?_
      rintro J23 vs w23 ⟨j, ac2, u2, rs2, bd2, rfl, hj, haj, hB23, hO23, hI2, hR23, hkw23, hz23, hI23, hgo2, hno2⟩ -
      refine W_seq ?_
      refine W_cut [59] [50, 51, 52, 53, 54, 55, 56, 57, 58, 59] (fun vs w24 => vs = [.bool (decide (j < m2 ∧ bd2 = false))] ∧ w24 = w23) ?_ ?_
      · refine W_region ?_
        refine o_mvt rfl ?_
        refine o_mvt rfl ?_
        refine op_run (r_lss rfl rfl) rfl ?_
        refine o_mvt rfl ?_
        refine g_split rfl rfl rfl (fun g25 => ?_) (fun g25 => ?_)
        · refine o_mvt (g_yes rfl rfl rfl g25) ?_
          refine op_run (r_nilCheck rfl) (g_yes rfl rfl rfl g25) ?_
          refine op_run (r_fieldAddr rfl rfl rfl rfl rfl) (g_yes rfl rfl rfl g25) ?_
          refine op_run (r_load rfl rfl rfl (by obtain ⟨_, _, _, hB, _⟩ := hR23; exact hB.cell rfl)) (g_yes rfl rfl rfl g25) ?_
          refine op_run (r_not rfl) (g_yes rfl rfl rfl g25) ?_
          refine o_pkTt rfl g25 rfl ?_
          refine ops_nil ?_
          exact ⟨by (repeat (first | with_reducible exact offM_refl _ _ | refine offM_updc rfl ?_ | refine offM_upd rfl ?_ | refine offM_updo rfl ?_ | refine offM_updo_none ?_ | refine offM_head rfl rfl ?_)), congrArg (fun b => [Value.bool b]) (by have g := of_decide_eq_true g25; rw [show decide (j < m2 ∧ bd2 = false) = decide (bd2 = false) by rw [decide_eq_decide]; exact ⟨fun h => h.2, fun h => ⟨by omega, h⟩⟩]; cases bd2 <;> rfl), rfl⟩
        · refine op_skip (g_no rfl rfl rfl g25) ?_
          refine op_skip (g_no rfl rfl rfl g25) ?_
          refine op_skip (g_no rfl rfl rfl g25) ?_
          refine op_skip (g_no rfl rfl rfl g25) ?_
          refine op_skip (g_no rfl rfl rfl g25) ?_
          refine o_pkFc rfl g25 rfl ?_
          refine ops_nil ?_
          exact ⟨by (repeat (first | with_reducible exact offM_refl _ _ | refine offM_updc rfl ?_ | refine offM_upd rfl ?_ | refine offM_updo rfl ?_ | refine offM_updo_none ?_ | refine offM_head rfl rfl ?_)), congrArg (fun b => [Value.bool b]) (by have g := of_decide_eq_false g25; symm; apply decide_eq_false; rintro ⟨h, _⟩; omega), rfl⟩
      · rintro J29 vs w29 ⟨rfl, rfl⟩ -
        refine W_cond rfl (fun h30 => ?_) (fun h30 => ?_)
        · refine W_skip ?_
          refine W_seq ?_
          refine W_block ?_
          refine W_seq ?_
          refine W_region ?_
          refine o_mvt rfl ?_
          obtain ⟨hjm, hbd2⟩ := of_decide_eq_true h30
          subst hbd2
          obtain ⟨hb3, hC2⟩ := hgo2 rfl
          obtain ⟨k2, hk2'⟩ : ∃ k, m2 - j = k + 1 := ⟨m2 - j - 1, by omega⟩
          rw [hk2'] at hC2
          have hincj : IntKind.u64.wrap ((j : Int) + 1) = ((j + 1 : Nat) : Int) := by rw [wrap_u64]; omega
          refine op_call rfl rfl rfl (rn_Number w29 b2 A rs2 false 1048575 hAb hR23) ?_; rintro v31 w31 ⟨rfl, hR31, hk31⟩
          obtain ⟨C, hCe⟩ : ∃ C, numR 1048575 rs2 false = C := ⟨_, rfl⟩
          have hCm : C.1 ≤ 1048575 := by rw [← hCe]; exact numR_le _ _ _
          rw [hCe] at hR31 ⊢
          refine op_run ((r_conv rfl rfl rfl).val (congrArg (Value.int .i64) (conv_i64 C.1 (by omega)))) rfl ?_
          refine op_run (r_build (nbR (((C.1 : Nat) : Int), Bk.zero)) (_) ([(0, .int .i64 ((C.1 : Nat) : Int))]) rfl rfl rfl rfl rfl (rfl)) rfl ?_
          refine o_alloc rfl rfl rfl ?_; intro w33 b33 e33 hB33 hk33 hs33
          have hB33' : Blk w33 b33 (nbR (0, Bk.zero)) 60 := hB33
          refine o_storeA (cs := nbR (((C.1 : Nat) : Int), Bk.zero)) rfl rfl (by first | rfl | exact binV_one _ | exact dgR_one _ | exact refR_one _ | exact secR_one _ | exact all_c8 _ | exact imR_one1 rfl | exact nbR_one _ | exact blkR_one _) (by first | rfl | (rw [binV_len]; rfl) | (rw [dgR_len]; rfl) | (rw [refR_len]; rfl) | (rw [secR_len]; rfl) | (rw [List.length_map, tagF_len]; rfl) | (rw [nbR_len]; rfl) | (rw [imR_len]; rfl) | (rw [blkR_len]; rfl)) hB33' (by exact Nat.le_of_eq (by simp [nbR_len])) rfl ?_; intro w34 hB34 hk34 hs34
          have hB34' : Blk w34 b33 (nbR (((C.1 : Nat) : Int), Bk.zero)) 60 := by
            have h := hB34
            rwa [splice_all (by rw [nbR_len, nbR_len])] at h
          have hk34' : Keep All w31 w34 := hk33.new hk34 (by omega)
          have hz31 := hk31.size
          have hR34 := hR31.k hk34'
          refine ops_nil ?_
          refine W_seq ?_
          refine W_region ?_
          refine o_mvt rfl ?_
          refine op_call rfl rfl rfl (rn_Digest w34 b2 A C.2.1 C.2.2 hAb (fun k hk => by have := hAlt _ hk; have := hkw23.size; have := hk34'.size; omega) hR34) ?_; rintro v35 w35 ⟨rfl, hR35, hk35⟩
          obtain ⟨D, hD⟩ : ∃ D, digR C.2.1 C.2.2 = D := ⟨_, rfl⟩
          rw [hD] at hR35 ⊢
          have hlt33 := hB34'.lt
          have hz34 := hk34'.size
          have hB35 := hk35.blk' hB34' (show b33 ≠ b2 by omega)
          refine op_run (r_fieldAddr rfl rfl rfl rfl rfl) rfl ?_
          refine o_storeA (cs := blkR D.1) rfl rfl (by first | rfl | exact binV_one _ | exact dgR_one _ | exact refR_one _ | exact secR_one _ | exact all_c8 _ | exact imR_one1 rfl | exact nbR_one _ | exact blkR_one _) (by first | rfl | (rw [binV_len]; rfl) | (rw [dgR_len]; rfl) | (rw [refR_len]; rfl) | (rw [secR_len]; rfl) | (rw [List.length_map, tagF_len]; rfl) | (rw [nbR_len]; rfl) | (rw [imR_len]; rfl) | (rw [blkR_len]; rfl)) hB35 (by rw [blkR_len, nbR_len]; decide) rfl ?_; intro w36 hB36 hk36 hs36
          have hB36' : Blk w36 b33 (nbR (((C.1 : Nat) : Int), D.1)) 60 := by
            have h : Blk w36 b33 (splice (nbR (((C.1 : Nat) : Int), Bk.zero)) 1 (blkR D.1)) 60 := hB36
            rwa [nb_dig] at h
          have hK36 : Keep (· ≠ b2) w29 w36 := ((hk31.trans hk34'.all).trans hk35).new hk36 (by omega)
          have hB1636 := hK36.blk' hB23 hne16
          have hO36 := hO23.keep hK36 (fun z hz => by have := hI2 z hz; omega)
          have hI36 := hI23.kA hK36 (hIu.mono fun z hz => hneb hz) (fun y hy => (hIy y hy).mono fun z hz => hneb hz)
          have hR36 : RIn w36 b2 A D.2.1 D.2.2 := hR35.keep hk36 (show b2 ≠ b33 by omega) (fun k hk => by have := hAlt _ hk; have := hkw23.size; omega)
          have hz35 := hk35.size
          have hkw36 : Keep All w w36 := ((((hkw23.new hk31 (by omega)).trans hk34').new hk35 (by omega))).new hk36 (by have := hkw23.size; omega)
          obtain ⟨ua, uc, eu, _, huc⟩ := hO36.form
          subst eu
          refine ops_nil ?_
          refine W_seq ?_
          refine W_cut [82] [69, 70, 71, 72, 73, 74, 75, 76, 77, 78, 79, 80, 81, 82] (fun vs w37 => vs = [.bool (decide (((C.1 : Nat) : Int) ≤ lastC ac2))] ∧ Keep All w36 w37) ?_ ?_
          · refine W_quiet (Keep All w36) (by kernel_rfl) (by kernel_rfl) (Keep.drawn _) ?_
            refine q_mvt rfl ?_
            refine q_run (fun _ _ => (r_gtr rfl rfl)) rfl ?_
            refine q_mvt rfl ?_
            refine q_split rfl rfl rfl (fun g39 => ?_) (fun g39 => ?_)
            · refine q_run (fun _ _ => (r_fieldAddr rfl rfl rfl rfl rfl)) (g_yes rfl rfl rfl g39) ?_
              have hj0 : 0 < j := by have := of_decide_eq_true g39; omega
              obtain ⟨p, pb, po, pc, hp, ep, hcp⟩ := nb_at hO36.sl (show j - 1 < ac2.length by omega)
              cases ep
              have hlastp : lastC ac2 = p.1 := by unfold lastC; rw [List.getLast?_eq_getElem?, haj, hp]
              refine q_run (fun _ hk => r_load rfl rfl rfl (hk.cell (hB1636.cell rfl) trivial)) (g_yes rfl rfl rfl g39) ?_
              refine q_mvt (g_yes rfl rfl rfl g39) ?_
              refine q_run (fun _ _ => ((r_sub rfl rfl).val (congrArg (Value.int .u64) (show IntKind.u64.wrap ((j : Int) - 1) = ((j - 1 : Nat) : Int) from by rw [wrap_u64]; omega)))) (g_yes rfl rfl rfl g39) ?_
              refine q_run (fun _ _ => r_idxS rfl rfl rfl rfl (by omega) (by omega)) (g_yes rfl rfl rfl g39) ?_
              refine q_run (fun _ _ => (r_fieldAddr rfl rfl rfl rfl rfl)) (g_yes rfl rfl rfl g39) ?_
              refine q_run (fun _ hk => r_load rfl rfl rfl (hk.cell (by rw [Int.toNat_natCast]; have h := hcp 0 _ rfl; rw [Addr.add_lit] at h; exact h) trivial)) (g_yes rfl rfl rfl g39) ?_
              refine q_run (fun _ _ => (r_fieldAddr rfl rfl rfl rfl rfl)) (g_yes rfl rfl rfl g39) ?_
              refine q_run (fun _ hk => r_load rfl rfl rfl (hk.cell (hB36'.cell rfl) trivial)) (g_yes rfl rfl rfl g39) ?_
              refine q_run (fun _ _ => (r_geq rfl rfl)) (g_yes rfl rfl rfl g39) ?_
              refine q_pkTt rfl g39 rfl ?_
              refine q_nil ?_; intro w44 hk44
              exact ⟨by (repeat (first | with_reducible exact offM_refl _ _ | refine offM_updc rfl ?_ | refine offM_upd rfl ?_ | refine offM_updo rfl ?_ | refine offM_updo_none ?_ | refine offM_head rfl rfl ?_)), congrArg (fun b => [Value.bool b]) (by rw [hlastp]), hk44⟩
            · refine q_skip (g_no rfl rfl rfl g39) ?_
              refine q_skip (g_no rfl rfl rfl g39) ?_
              refine q_skip (g_no rfl rfl rfl g39) ?_
              refine q_skip (g_no rfl rfl rfl g39) ?_
              refine q_skip (g_no rfl rfl rfl g39) ?_
              refine q_skip (g_no rfl rfl rfl g39) ?_
              refine q_skip (g_no rfl rfl rfl g39) ?_
              refine q_skip (g_no rfl rfl rfl g39) ?_
              refine q_skip (g_no rfl rfl rfl g39) ?_
              refine q_skip (g_no rfl rfl rfl g39) ?_
              refine q_pkFc rfl g39 rfl ?_
              refine q_nil ?_; intro w46 hk46
              have hj0 : j = 0 := by have := of_decide_eq_false g39; omega
              have hl0 : lastC ac2 = -1 := by
                have : ac2 = [] := List.length_eq_zero_iff.1 (by omega)
                rw [this]; rfl
              exact ⟨by (repeat (first | with_reducible exact offM_refl _ _ | refine offM_updc rfl ?_ | refine offM_upd rfl ?_ | refine offM_updo rfl ?_ | refine offM_updo_none ?_ | refine offM_head rfl rfl ?_)), congrArg (fun b => [Value.bool b]) (by rw [hl0]; symm; apply decide_eq_false; omega), hk46⟩
          · rintro J48 vs w48 ⟨rfl, hk48⟩ -
            refine W_cond rfl (fun h49 => ?_) (fun h49 => ?_)
            · refine W_seq ?_
              refine W_region ?_
              refine o_asc rfl ?_
              refine o_asc rfl ?_
              refine ops_nil ?_
              refine W_ret ?_
              refine ret2 (.slice none 0 0) (.int .i64 3) rfl ?_ ?_ ?_; rfl; rfl
              have h49 := of_decide_eq_true h49
              exact ⟨.inl ⟨hfail (.inr (by rw [hC2, cellsR_no (.inl (by rw [hCe]; exact h49))]; rfl)), rfl⟩, hkw36.trans hk48⟩
            · refine W_skip ?_
              refine W_region ?_
              refine op_run (r_fieldAddr rfl rfl rfl rfl rfl) rfl ?_
              have h49 := of_decide_eq_false h49
              have hB1648 := hk48.blk' hB1636 trivial
              have hB48 := hk48.blk' hB36' trivial
              have hO48 := hO36.keep hk48 (fun _ _ => trivial)
              have hml : ac2.length ≤ 1048576 := by omega
              refine op_run (r_load rfl rfl rfl (hB1648.cell rfl)) rfl ?_
              refine op_run (r_loadA (nbR (((C.1 : Nat) : Int), D.1)) rfl rfl rfl (by first | rfl | (rw [binV_len]; rfl) | (rw [dgR_len]; rfl) | (rw [refR_len]; rfl) | (rw [secR_len]; rfl) | (rw [List.length_map, tagF_len]; rfl) | (rw [nbR_len]; rfl) | (rw [imR_len]; rfl) | (rw [blkR_len]; rfl)) (hB48.all)) rfl ?_
              refine o_bsR nbR nbR_len [(((C.1 : Nat) : Int), D.1)] rfl ti_nb rfl rfl rfl rfl rfl rfl ?_; intro w53 b53 e53 hB53 hk53 hs53
              refine o_app (v := .slice ua ac2.length uc) (c := 1) (m := ac2.length) (k := 1) (rows nbR [(((C.1 : Nat) : Int), D.1)]) rfl rfl rfl ti_nb rfl (by decide) (hO48.keep hk53 (fun _ _ => trivial)) (by rw [rows_len nbR_len]; rfl) hB53.all (rows_one nbR_one _) (by unfold maxLen; omega) (by omega) rfl ?_; intro v54 w54 hown54 hk54 hb54
              have hk48' := hk48.trans hk53
              have hz48 := hk48'.size
              have hne54 : some b16 ≠ (Value.slice ua ac2.length uc).ownBlock := fun e => by have := hI2 b16 e.symm; have := hB22.lt; omega
              have hB1654 := hk54.blk' (hk53.blk' hB1648 trivial) hne54
              have hv54 : InB (fun z => w22.heap.size ≤ z) v54 := fun z hz => by
                rcases hb54 z hz with h | h
                · exact hI2 z h
                · have := hkw36.size; have := hK36.size; omega
              refine op_run (r_fieldAddr rfl rfl rfl rfl rfl) rfl ?_
              refine o_store (v := v54) rfl rfl (own_one hown54) rfl hB1654 (show 3 < 4 by decide) rfl ?_; intro w55 hB55 hk55 hs55
              refine ops_nil ?_
              refine W_region ?_
              refine o_mvt rfl ?_
              refine op_run (r_add rfl rfl) rfl ?_
              refine o_ast rfl ?_
              refine ops_nil ?_
              have hB55' : Blk w55 b16 (imR (⟨nm, ((Q.1 / 2 : Nat) : Int), fr, ac2 ++ [(((C.1 : Nat) : Int), D.1)]⟩, v54)) 55 := hB55
              have hl22 := hB22.lt
              have hO55 : Own w55 60 33 v54 (ac2 ++ [(((C.1 : Nat) : Int), D.1)]).length (rows nbR (ac2 ++ [(((C.1 : Nat) : Int), D.1)])) := by
                rw [List.length_append, rows_app]
                exact hown54.keep hk55 (fun z hz => by have := hv54 z hz; omega)
              have hR55 : RIn w55 b2 A D.2.1 D.2.2 := ((hR36.k hk48').keep hk54 (fun e => by have := hI2 b2 e.symm; omega) (fun k hk e => by have := hI2 k e.symm; have := hAlt _ hk; have := hkw22.size; omega)).keep hk55 (show b2 ≠ b16 by omega) hAne
              have hI55 : ImgsO w55 u (acc.map img1) ys := ((hI36.k hk48').kA hk54 (fun z hz e => by have := hlo13 z hz; have := hI2 z e.symm; omega) (fun y hy z hz e => by have := hly13 y hy z hz; have := hI2 z e.symm; omega)).kA hk55 (fun z hz => by have := hlo13 z hz; omega) (fun y hy z hz => by have := hly13 y hy z hz; omega)
              have hkw55 : Keep All w w55 := ((hkw36.trans hk48').own hk54 (fun z hz _ => by have := hI2 z hz; have := hkw22.size; omega)).new hk55 (by omega)
              have hz55 : w22.heap.size ≤ w55.heap.size := by have := hK36.size; have := hk54.size; have := hk55.size; omega
              refine ⟨by (repeat (first | with_reducible exact offM_refl _ _ | refine offM_updc rfl ?_ | refine offM_upd rfl ?_ | refine offM_updo rfl ?_ | refine offM_updo_none ?_ | refine offM_head rfl rfl ?_)), ⟨j + 1, ac2 ++ [(((C.1 : Nat) : Int), D.1)], v54, D.2.1, D.2.2, congrArg (fun z : Int => [Value.int .u64 z]) hincj, by omega, by rw [List.length_append, haj]; rfl, hB55', hO55, hv54, hR55, hkw55, hz55, hI55, ?_, ?_⟩, ?_⟩
              · intro e
                refine ⟨hb3, ?_⟩
                have h1 : ¬ ((numR 1048575 rs2 false).1 : Int) ≤ lastC ac2 := by rw [hCe]; exact h49
                have h2 : (digR (numR 1048575 rs2 false).2.1 (numR 1048575 rs2 false).2.2).2.2 = false := by rw [hCe, hD]; exact e
                have h3 := cellsR_ok (k := k2) (acc := ac2) h1 h2
                rw [hCe, hD] at h3
                rw [hC2, show m2 - (j + 1) = k2 by omega, lastC_snoc]
                exact h3
              · intro e
                exact .inr (by rw [hC2, cellsR_no (.inr (by rw [hCe, hD]; exact e))]; rfl)
              · show m2 - (IntKind.u64.wrap ((j : Int) + 1)).toNat < m2 - (j : Int).toNat
                rw [hincj]; omega
        · refine W_exit ?_
          refine W_seq ?_
          obtain ⟨ua, uc, eu, _, huc⟩ := hO23.form
          subst eu
          obtain ⟨xu, cu, eu2, _, hucu⟩ := hI23.o.form
          subst eu2
          have hlm : (acc.map img1).length = i := by rw [List.length_map, hal]
          refine W_cut [107] [89, 90, 91, 92, 93, 94, 95, 96, 97, 98, 99, 100, 101, 102, 103, 104, 105, 106, 107] (fun vs w57 => vs = [.bool (decide (¬ (namedB nm ∧ lastN acc < nm)))] ∧ Keep All w29 w57) ?_ ?_
          · refine W_held (fun w' => Keep All w29 w') (by kernel_rfl) (Keep.drawn w29) (fun hS => ?_)
            refine any_run 0 (fun w' hS' => (r_fieldAddr rfl rfl rfl rfl rfl)) rfl (by kernel_rfl) (by kernel_rfl) (by kernel_rfl) rfl hS ?_
            refine any_run 1 (fun w' hS' => (r_load rfl rfl rfl (((hS'.blk' hB23 trivial).cell rfl)))) rfl (by kernel_rfl) (by kernel_rfl) (by kernel_rfl) rfl hS ?_
            refine any_one 2 (by kernel_rfl) (one_of rfl ?_)
            refine op_call rfl rfl rfl (rf12_Named _ nm (by have h1 := bytsR_le 20 rest false; rw [hB1] at h1; exact Nat.le_trans h1 (by decide))) ?_; rintro v60 w60 ⟨rfl, rfl⟩
            refine ops_nil ⟨hS, fun hS => ?_⟩
            refine any_run 3 (fun w' hS' => (r_not rfl)) rfl (by kernel_rfl) (by kernel_rfl) (by kernel_rfl) rfl hS ?_
            refine any_mvt 4 rfl (by kernel_rfl) (by kernel_rfl) (by kernel_rfl) rfl hS ?_
            refine a_split 93 false rfl (fun g62 => ?_) (fun g62 => ?_)
            · refine any_mvt 5 rfl (by kernel_rfl) (by kernel_rfl) (by kernel_rfl) (g_yes rfl rfl rfl (by rw [g62] <;> rfl)) hS ?_
              refine any_run 6 (fun w' hS' => (r_gtr rfl rfl)) rfl (by kernel_rfl) (by kernel_rfl) (by kernel_rfl) (g_yes rfl rfl rfl (by rw [g62] <;> rfl)) hS ?_
              refine any_mvt 7 rfl (by kernel_rfl) (by kernel_rfl) (by kernel_rfl) (g_yes rfl rfl rfl (by rw [g62] <;> rfl)) hS ?_
              refine a_split 96 true rfl (fun g63 => ?_) (fun g63 => ?_)
              · refine any_mvt 8 rfl (by kernel_rfl) (by kernel_rfl) (by kernel_rfl) (g_yes rfl rfl rfl g63) hS ?_
                refine any_mvt 9 rfl (by kernel_rfl) (by kernel_rfl) (by kernel_rfl) (g_yes rfl rfl rfl g63) hS ?_
                refine any_run 10 (fun w' hS' => ((r_sub rfl rfl).val (congrArg (Value.int .u64) (show IntKind.u64.wrap ((i : Int) - 1) = ((i - 1 : Nat) : Int) from by have := of_decide_eq_true g63; rw [wrap_u64]; omega)))) rfl (by kernel_rfl) (by kernel_rfl) (by kernel_rfl) (g_yes rfl rfl rfl g63) hS ?_
                have hi0 : 0 < i := by have := of_decide_eq_true g63; omega
                obtain ⟨i', x', bx, ox, cx, hyx, hix, ex, hcx, hbx⟩ := hI23.s.at (show i - 1 < (acc.map img1).length by omega)
                cases ex
                obtain ⟨a1, ha1⟩ : ∃ a, acc[i - 1]? = some a := ⟨_, List.getElem?_eq_getElem (by omega)⟩
                have hi'' : i' = img1 a1 := by
                  rw [List.getElem?_map, ha1] at hix
                  exact (Option.some.inj hix).symm
                subst hi''
                have hlastn : lastN acc = a1.1 := by unfold lastN; rw [List.getLast?_eq_getElem?, hal, ha1]
                refine any_run 11 (fun w' hS' => (r_idxS rfl rfl rfl rfl (by omega) (by omega))) rfl (by kernel_rfl) (by kernel_rfl) (by kernel_rfl) (g_yes rfl rfl rfl g63) hS ?_
                refine any_run 12 (fun w' hS' => (r_fieldAddr rfl rfl rfl rfl rfl)) rfl (by kernel_rfl) (by kernel_rfl) (by kernel_rfl) (g_yes rfl rfl rfl g63) hS ?_
                refine any_run 13 (fun w' hS' => (r_load rfl rfl rfl ((by rw [Int.toNat_natCast]; exact hS'.cell (hcx 0 _ rfl) trivial)))) rfl (by kernel_rfl) (by kernel_rfl) (by kernel_rfl) (g_yes rfl rfl rfl g63) hS ?_
                refine any_run 14 (fun w' hS' => (r_fieldAddr rfl rfl rfl rfl rfl)) rfl (by kernel_rfl) (by kernel_rfl) (by kernel_rfl) (g_yes rfl rfl rfl g63) hS ?_
                refine any_run 15 (fun w' hS' => (r_load rfl rfl rfl (((hS'.blk' hB23 trivial).cell rfl)))) rfl (by kernel_rfl) (by kernel_rfl) (by kernel_rfl) (g_yes rfl rfl rfl g63) hS ?_
                refine any_run 16 (fun w' hS' => (r_geqStr (a := a1.1) (b := nm) rfl rfl)) rfl (by kernel_rfl) (by kernel_rfl) (by kernel_rfl) (g_yes rfl rfl rfl g63) hS ?_
                refine any_run 17 (fun w' hS' => (r_pickT rfl g63)) rfl (by kernel_rfl) (by kernel_rfl) (by kernel_rfl) (g_yes rfl rfl rfl (by rw [g62] <;> rfl)) hS ?_
                refine any_run 18 (fun w' hS' => (r_pickF rfl (by rw [g62] <;> rfl))) rfl (by kernel_rfl) (by kernel_rfl) (by kernel_rfl) rfl hS ?_
                refine any_done (by kernel_rfl) ?_
                exact ⟨by (repeat (first | with_reducible exact offM_refl _ _ | refine offM_updc rfl ?_ | refine offM_upd rfl ?_ | refine offM_updo rfl ?_ | refine offM_updo_none ?_ | refine offM_head rfl rfl ?_)), congrArg (fun b => [Value.bool b]) (by have q1 : namedB nm := (by simpa using g62); rw [hlastn, ← decide_not, decide_eq_decide]; exact ⟨fun h hh => h hh.2, fun h hh => h ⟨q1, hh⟩⟩), hS⟩
              · refine any_skip 8 rfl (by kernel_rfl) (by kernel_rfl) (by kernel_rfl) (g_no rfl rfl rfl g63) hS ?_
                refine any_skip 9 rfl (by kernel_rfl) (by kernel_rfl) (by kernel_rfl) (g_no rfl rfl rfl g63) hS ?_
                refine any_skip 10 rfl (by kernel_rfl) (by kernel_rfl) (by kernel_rfl) (g_no rfl rfl rfl g63) hS ?_
                refine any_skip 11 rfl (by kernel_rfl) (by kernel_rfl) (by kernel_rfl) (g_no rfl rfl rfl g63) hS ?_
                refine any_skip 12 rfl (by kernel_rfl) (by kernel_rfl) (by kernel_rfl) (g_no rfl rfl rfl g63) hS ?_
                refine any_skip 13 rfl (by kernel_rfl) (by kernel_rfl) (by kernel_rfl) (g_no rfl rfl rfl g63) hS ?_
                refine any_skip 14 rfl (by kernel_rfl) (by kernel_rfl) (by kernel_rfl) (g_no rfl rfl rfl g63) hS ?_
                refine any_skip 15 rfl (by kernel_rfl) (by kernel_rfl) (by kernel_rfl) (g_no rfl rfl rfl g63) hS ?_
                refine any_skip 16 rfl (by kernel_rfl) (by kernel_rfl) (by kernel_rfl) (g_no rfl rfl rfl g63) hS ?_
                refine any_run 17 (fun w' hS' => (r_pickF rfl g63)) rfl (by kernel_rfl) (by kernel_rfl) (by kernel_rfl) (g_yes rfl rfl rfl (by rw [g62] <;> rfl)) hS ?_
                refine any_run 18 (fun w' hS' => (r_pickF rfl (by rw [g62] <;> rfl))) rfl (by kernel_rfl) (by kernel_rfl) (by kernel_rfl) rfl hS ?_
                refine any_done (by kernel_rfl) ?_
                exact ⟨by (repeat (first | with_reducible exact offM_refl _ _ | refine offM_updc rfl ?_ | refine offM_upd rfl ?_ | refine offM_updo rfl ?_ | refine offM_updo_none ?_ | refine offM_head rfl rfl ?_)), congrArg (fun b => [Value.bool b]) (by have q1 : namedB nm := (by simpa using g62); have hi0 : i = 0 := (by have := of_decide_eq_false g63; omega); have ha0 : acc = [] := List.length_eq_zero_iff.1 (by omega); symm; apply decide_eq_false; intro hh; apply hh; refine ⟨q1, ?_⟩; rw [ha0]; show [] < nm; cases hnm : nm with | nil => exact absurd hnm q1.2.1 | cons a b => exact List.nil_lt_cons a b), hS⟩
            · refine any_skip 5 rfl (by kernel_rfl) (by kernel_rfl) (by kernel_rfl) (g_no rfl rfl rfl (by rw [g62] <;> rfl)) hS ?_
              refine any_skip 6 rfl (by kernel_rfl) (by kernel_rfl) (by kernel_rfl) (g_no rfl rfl rfl (by rw [g62] <;> rfl)) hS ?_
              refine any_skip 7 rfl (by kernel_rfl) (by kernel_rfl) (by kernel_rfl) (g_no rfl rfl rfl (by rw [g62] <;> rfl)) hS ?_
              refine any_skip 8 rfl (by kernel_rfl) (by kernel_rfl) (by kernel_rfl) (g_und rfl rfl rfl) hS ?_
              refine any_skip 9 rfl (by kernel_rfl) (by kernel_rfl) (by kernel_rfl) (g_und rfl rfl rfl) hS ?_
              refine any_skip 10 rfl (by kernel_rfl) (by kernel_rfl) (by kernel_rfl) (g_und rfl rfl rfl) hS ?_
              refine any_skip 11 rfl (by kernel_rfl) (by kernel_rfl) (by kernel_rfl) (g_und rfl rfl rfl) hS ?_
              refine any_skip 12 rfl (by kernel_rfl) (by kernel_rfl) (by kernel_rfl) (g_und rfl rfl rfl) hS ?_
              refine any_skip 13 rfl (by kernel_rfl) (by kernel_rfl) (by kernel_rfl) (g_und rfl rfl rfl) hS ?_
              refine any_skip 14 rfl (by kernel_rfl) (by kernel_rfl) (by kernel_rfl) (g_und rfl rfl rfl) hS ?_
              refine any_skip 15 rfl (by kernel_rfl) (by kernel_rfl) (by kernel_rfl) (g_und rfl rfl rfl) hS ?_
              refine any_skip 16 rfl (by kernel_rfl) (by kernel_rfl) (by kernel_rfl) (g_und rfl rfl rfl) hS ?_
              refine any_skip 17 rfl (by kernel_rfl) (by kernel_rfl) (by kernel_rfl) (g_no rfl rfl rfl (by rw [g62] <;> rfl)) hS ?_
              refine any_run 18 (fun w' hS' => (r_pickT rfl (by rw [g62] <;> rfl))) rfl (by kernel_rfl) (by kernel_rfl) (by kernel_rfl) rfl hS ?_
              refine any_done (by kernel_rfl) ?_
              exact ⟨by (repeat (first | with_reducible exact offM_refl _ _ | refine offM_updc rfl ?_ | refine offM_upd rfl ?_ | refine offM_updo rfl ?_ | refine offM_updo_none ?_ | refine offM_head rfl rfl ?_)), congrArg (fun b => [Value.bool b]) (by have q1 : ¬ namedB nm := (by simpa using g62); symm; apply decide_eq_true; exact fun hh => q1 hh.1), hS⟩
          · rintro J71 vs w71 ⟨rfl, hk71⟩ -
            refine W_cond rfl (fun h72 => ?_) (fun h72 => ?_)
            · refine W_seq ?_
              refine W_region ?_
              refine o_asc rfl ?_
              refine o_asc rfl ?_
              refine ops_nil ?_
              refine W_ret ?_
              refine ret2 (.slice none 0 0) (.int .i64 3) rfl ?_ ?_ ?_; rfl; rfl
              have h72 := of_decide_eq_true h72
              refine ⟨.inl ⟨dec_none hN2 (.inr ?_), rfl⟩, hkw23.trans hk71⟩
              rw [hC, volsR_no]
              · rfl
              · rw [hB1]
                by_cases hnm : namedB nm
                · exact .inr (.inr (.inr fun hl => h72 ⟨hnm, hl⟩))
                · exact .inr (.inr (.inl hnm))
            · refine W_skip ?_
              refine W_region ?_
              refine o_mvt rfl ?_
              have h72 : namedB nm ∧ lastN acc < nm := Classical.byContradiction fun hh => of_decide_eq_false h72 hh
              have hB71 := hk71.blk' hB23 trivial
              have hI71 := hI23.k hk71
              have hO71 := hO23.keep hk71 (fun _ _ => trivial)
              refine op_run (r_loadA (imR (⟨nm, ((Q.1 / 2 : Nat) : Int), fr, ac2⟩, .slice ua ac2.length uc)) rfl rfl rfl (by first | rfl | (rw [binV_len]; rfl) | (rw [dgR_len]; rfl) | (rw [refR_len]; rfl) | (rw [secR_len]; rfl) | (rw [List.length_map, tagF_len]; rfl) | (rw [nbR_len]; rfl) | (rw [imR_len]; rfl) | (rw [blkR_len]; rfl)) (hB71.all)) rfl ?_
              refine o_bsR imR imR_len [(⟨nm, ((Q.1 / 2 : Nat) : Int), fr, ac2⟩, .slice ua ac2.length uc)] rfl ti_im rfl rfl rfl rfl rfl rfl ?_; intro w75 b75 e75 hB75 hk75 hs75
              refine o_app (v := .slice xu (acc.map img1).length cu) (c := 1) (m := (acc.map img1).length) (k := 1) (rows imR [(⟨nm, ((Q.1 / 2 : Nat) : Int), fr, ac2⟩, .slice ua ac2.length uc)]) rfl rfl rfl ti_im rfl (by decide) (hI71.o.keep hk75 (fun _ _ => trivial)) (by rw [rows_len imR_len]; rfl) hB75.all (rowsIm_one fun y hy => by rw [List.mem_singleton.1 hy]; rfl) (by unfold maxLen; omega) (by omega) rfl ?_; intro v76 w76 hown76 hk76 hb76
              refine o_ast rfl ?_
              refine ops_nil ?_
              refine W_region ?_
              refine o_mvt rfl ?_
              refine op_run (r_add rfl rfl) rfl ?_
              refine o_ast rfl ?_
              refine ops_nil ?_
              have hI75 := hI71.k hk75
              have hO75 := hO71.keep hk75 (fun _ _ => trivial)
              have hk75' := hk71.trans hk75
              have hz75 := hk75'.size
              have e1 : ((acc ++ [(nm, (⟨((Q.1 / 2 : Nat) : Int), fr, ac2⟩ : VA))]).map img1) = acc.map img1 ++ [⟨nm, ((Q.1 / 2 : Nat) : Int), fr, ac2⟩] := by rw [List.map_append]; rfl
              refine ⟨by (repeat (first | with_reducible exact offM_refl _ _ | refine offM_updc rfl ?_ | refine offM_upd rfl ?_ | refine offM_updo rfl ?_ | refine offM_updo_none ?_ | refine offM_head rfl rfl ?_)), ⟨v76, i + 1, acc ++ [(nm, ⟨((Q.1 / 2 : Nat) : Int), fr, ac2⟩)], ys ++ [(⟨nm, ((Q.1 / 2 : Nat) : Int), fr, ac2⟩, .slice ua ac2.length uc)], rs2, bd2, congrArg (fun z : Int => [v76, Value.int .u64 z]) hinc, by omega, by rw [List.length_append, hal]; rfl, ⟨by rw [e1, List.map_append, hI23.e]; rfl, ?_, ?_⟩, ?_, ?_, ?_, ?_, ?_, ?_, ?_⟩, ?_⟩
              · rw [e1, List.length_append, rows_app]; exact hown76
              · intro y hy
                rcases List.mem_append.1 hy with hy | hy
                · exact (hI75.b y hy).keep hk76 (own_ne hI75.o (hI75.b y hy) (by decide))
                · rw [List.mem_singleton.1 hy]
                  exact hO75.keep hk76 (own_ne hI75.o hO75 (by decide))
              · exact (hR23.k hk75').keep hk76 (fun e => by have := hIu b2 e.symm; omega) (fun k hk e => by have := hIu k e.symm; have := hAlt _ hk; have := hk03.size; omega)
              · exact (hkw23.trans hk75').own hk76 (fun z hz _ => by have := hIu z hz; have := hk03.size; omega)
              · have := hk76.size; omega
              · intro z hz
                rcases hb76 z hz with h | h
                · exact hIu z h
                · omega
              · intro y hy
                rcases List.mem_append.1 hy with hy | hy
                · exact hIy y hy
                · rw [List.mem_singleton.1 hy]
                  exact hI2.mono fun z hz => by omega
              · intro e
                obtain ⟨hb3, hC2⟩ := hgo2 e
                have hjm : j = m2 := by
                  have := of_decide_eq_false h30
                  exact Classical.byContradiction fun hh => this ⟨by omega, e⟩
                rw [hjm, Nat.sub_self] at hC2
                have hC3 : cellsR m2 (-1) bs3 = some (ac2 ++ [], rs2) := hC2
                rw [List.append_nil] at hC3
                have hq2 : Q.2.2 = false := by
                  cases hq : Q.2.2 with
                  | false => rfl
                  | true =>
                    have h2 := congrArg (fun N => N.2.2) hM2
                    rw [hq, numR_bad, show ((m2, bs3, bad3) : Nat × List UInt8 × Bool).2.2 = bad3 from rfl, hb3] at h2
                    cases h2
                have hb1 : b1 = false := by
                  cases hb : b1 with
                  | false => rfl
                  | true =>
                    have h2 := congrArg (fun N => N.2.2) hQ
                    rw [hb, numR_bad, hq2] at h2
                    cases h2
                have hv1 : volR1 r1 = some (⟨((Q.1 / 2 : Nat) : Int), fr, ac2⟩, rs2) := by
                  unfold volR1
                  simp only
                  rw [hb1] at hQ
                  rw [hQ, hM2]
                  show (if bad3 = true then none else _) = _
                  rw [hb3, if_neg (by decide)]
                  show (match cellsR m2 (-1) bs3 with | none => none | some r => _) = _
                  rw [hC3, ← hfr, show decide (((Q.1 % 2 : Nat) : Int) = 1) = decide (Q.1 % 2 = 1) by rw [decide_eq_decide]; omega]
                refine ⟨hb2, ?_⟩
                rw [hC, show m - (i + 1) = k by omega, lastN_snoc]
                have h4 := volsR_ok (k := k) (acc := acc) (bs := rest) (last := lastN acc) (v := ⟨((Q.1 / 2 : Nat) : Int), fr, ac2⟩) (rest := rs2) (by rw [hB1]; exact hb1) (by rw [hB1]; exact hv1) (by rw [hB1]; exact h72.1) (by rw [hB1]; exact h72.2)
                rw [hB1] at h4
                exact h4
              · exact fun e => .inr (hfailV (hno2 e))
              · show m - (IntKind.u64.wrap ((i : Int) + 1)).toNat < m - (i : Int).toNat
                rw [hinc]; omega
    · refine W_exit ?_
      refine W_seq ?_
      refine W_seq ?_
      refine W_region ?_
      refine o_mvt rfl ?_
      refine op_call rfl rfl rfl (rn_Done w11 b2 A rest bd hR5) ?_; rintro v78 w78 ⟨rfl, hk78⟩
      refine op_run (r_neq rfl rfl) rfl ?_
      refine ops_nil ?_
      refine W_cond_p rfl (fun h79 => ?_) (fun h79 => ?_)
      · refine W_seq ?_
        refine W_region ?_
        refine o_asc rfl ?_
        refine o_asc rfl ?_
        refine ops_nil ?_
        refine W_ret ?_
        refine ret2 (.slice none 0 0) (.int .i64 3) rfl ?_ ?_ ?_; rfl; rfl
        refine ⟨.inl ⟨?_, rfl⟩, hk5.trans hk78⟩
        cases hbd : bd with
        | true => exact dec_none hN2 (hno hbd)
        | false =>
          obtain ⟨hb2, hC⟩ := hgo hbd
          have hie : i = m := by
            have := of_decide_eq_false h12
            exact Classical.byContradiction fun hh => this ⟨by omega, hbd⟩
          rw [hie, Nat.sub_self] at hC
          rw [hb2] at hN2
          rw [dec_some hN2 hC, if_neg]
          intro hr
          have hr : rest = [] := hr
          apply h79
          rw [if_neg]
          rw [hbd, hr]
          rintro (h | h)
          · cases h
          · exact absurd h (by decide)
      · refine W_skip ?_
        refine W_seq ?_
        refine W_region ?_
        refine o_mvt rfl ?_
        refine o_ast rfl ?_
        refine o_asc rfl ?_
        refine ops_nil ?_
        refine W_ret ?_
        refine ret2 u (.int .i64 0) rfl ?_ ?_ ?_; rfl; rfl
        have hcc : ¬ (bd = true ∨ 0 < rest.length) := fun hh => h79 (by rw [if_pos hh]; decide)
        have hbd : bd = false := by
          cases hb : bd with
          | false => rfl
          | true => exact absurd (.inl hb) hcc
        have hrest : rest = [] := by
          cases hr : rest with
          | nil => rfl
          | cons a b => rw [hr] at hcc; exact absurd (.inr (Nat.succ_pos _)) hcc
        obtain ⟨hb2, hC⟩ := hgo hbd
        have hie : i = m := by
          have := of_decide_eq_false h12
          exact Classical.byContradiction fun hh => this ⟨by omega, hbd⟩
        rw [hie, Nat.sub_self] at hC
        rw [hb2] at hN2
        refine ⟨.inr ⟨acc, u, ys, ?_, rfl, (hI5.k hk78).s⟩, hk5.trans hk78⟩
        rw [dec_some hN2 hC, if_pos hrest]
        show some (acc ++ []) = _
        rw [List.append_nil]
end Go.Proofs.Ytkmciohghhffnaa.B
