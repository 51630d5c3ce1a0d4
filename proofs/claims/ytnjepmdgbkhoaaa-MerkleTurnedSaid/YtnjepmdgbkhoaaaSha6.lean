/-
  sha: the digest of bytes.
-/
import Derived.Test.YtnjepmdgbkhoaaaSha5
namespace Go.Proofs.Ytnjepmdgbkhoaaa.B
open Go
set_option linter.unusedVariables false
set_option maxHeartbeats 2000000
set_option maxRecDepth 100000
attribute [local irreducible] W OpsW OpsQ retP
def zc (n : Nat) : Nat := if n % 64 ≤ 55 then 55 - n % 64 else 119 - n % 64
theorem zc_lt (n : Nat) : zc n < 64 := by unfold zc; split <;> omega
theorem zc_cases (n : Nat) : (n % 64 ≤ 55 ∧ zc n = 55 - n % 64) ∨ (55 < n % 64 ∧ zc n = 119 - n % 64) := by
  rcases Nat.lt_or_ge 55 (n % 64) with h | h
  · exact .inr ⟨h, if_neg (by omega)⟩
  · exact .inl ⟨h, if_pos h⟩
theorem zc_end {n z : Nat} (hz : z ≤ zc n) (h : (n + 1 + z) % 64 = 56) : z = zc n := by have := zc_cases n; omega
theorem zc_more {n z : Nat} (hz : z ≤ zc n) (h : ¬ (n + 1 + z) % 64 = 56) : z + 1 ≤ zc n := by have := zc_cases n; omega
theorem zc_sum (n : Nat) : (n + 1 + zc n + 8) % 64 = 0 := by unfold zc; split <;> omega
/-- A number as eight bytes. -/
def lenB (n : Nat) : List UInt8 := (List.range 8).map fun j => UInt8.ofNat (n * 8 / 2 ^ (56 - 8 * j))
theorem lenB_len (n : Nat) : (lenB n).length = 8 := by simp [lenB]
def padP (bs : List UInt8) (z : Nat) : List UInt8 := bs ++ 128 :: List.replicate z 0
theorem padP_len (bs : List UInt8) (z : Nat) : (padP bs z).length = bs.length + 1 + z := by simp [padP]; omega
theorem padP_s (bs : List UInt8) (z : Nat) : padP bs z ++ [0] = padP bs (z + 1) := by
  unfold padP; rw [List.append_assoc, List.cons_append, List.replicate_succ']
def padL (bs : List UInt8) : List UInt8 := padP bs (zc bs.length) ++ lenB bs.length
theorem padL_len (bs : List UInt8) : (padL bs).length = bs.length + 1 + zc bs.length + 8 := by rw [padL, List.length_append, padP_len, lenB_len]
def blk (full : List UInt8) (k : Nat) : List UInt8 := (full.drop (64 * k)).take 64
def initV : V8 := ⟨rootF 2 false, rootF 3 false, rootF 5 false, rootF 7 false, rootF 11 false, rootF 13 false, rootF 17 false, rootF 19 false⟩
theorem tabS_8 : (tabS 8).map c32 = initV.cells := rfl
def sumSt (full : List UInt8) : Nat → V8
  | 0 => initV
  | k + 1 => blockF (tabK 64) (sumSt full k) (blk full k)
theorem sumSt_0 (full : List UInt8) : sumSt full 0 = initV := by unfold sumSt; exact (rfl : initV = initV)
theorem sumSt_s (full : List UInt8) (k : Nat) : sumSt full (k + 1) = blockF (tabK 64) (sumSt full k) (blk full k) := by rw [sumSt]
/-- A byte of the digest. -/
def dgB (v : V8) (m : Nat) : UInt8 := UInt8.ofNat (v.ws.getD (m / 4) 0 >>> (24 - 8 * (m % 4))).toNat
def dgT (v : V8) (t : Nat) : List UInt8 := (List.range 32).map fun m => if m < t then dgB v m else 0
theorem dgT_len (v : V8) (t : Nat) : (dgT v t).length = 32 := by simp [dgT]
theorem dgT_set (v : V8) (t : Nat) : (dgT v t).set t (dgB v t) = dgT v (t + 1) := by
  apply List.ext_getElem?
  intro m
  unfold dgT
  by_cases hm : m < 32
  · by_cases e : t = m
    · subst e
      rw [List.getElem?_set_self (by simp [hm])]
      simp [hm]
    · rw [List.getElem?_set_ne e]
      simp only [List.getElem?_map, List.getElem?_range hm, Option.map_some]
      congr 1
      by_cases h1 : m < t
      · rw [if_pos h1, if_pos (by omega)]
      · rw [if_neg h1, if_neg (by omega)]
  · rw [List.getElem?_eq_none (by simp; omega), List.getElem?_eq_none (by simp; omega)]
/-- The digest. -/
def sumF (bs : List UInt8) : List UInt8 := (List.range 32).map fun m => dgB (sumSt (padL bs) ((padL bs).length / 64)) m
theorem dgT_32 (v : V8) : dgT v 32 = (List.range 32).map fun m => dgB v m := List.map_congr_left fun m hm => if_pos (List.mem_range.1 hm)
theorem sumF_len (bs : List UInt8) : (sumF bs).length = 32 := by simp [sumF]
theorem u8_nat (m : Nat) : IntKind.u8.wrap (m : Int) = ((UInt8.ofNat m).toNat : Int) := by
  rw [wrap_u8, UInt8.toNat_ofNat']; omega
theorem map_set8 (xs : List UInt8) (i : Nat) (x : UInt8) : (xs.map c8).set i (c8 x) = (xs.set i x).map c8 := (List.map_set).symm
theorem tabK_len : (tabK 64).length = 64 := wl_len _ _
theorem get_ws {v : V8} {i : Nat} (h : i < 8) : v.cells[i]? = some (c32 (v.ws.getD i 0)) := get32 (xs := v.ws) h
theorem blk_by {w : World} {g c N : Nat} {full : List UInt8} (h : Sl w (.slice (some ⟨g, 0, none⟩) (64 * N) c) (64 * N) 1 (full.map c8)) (hl : full.length = 64 * N) {k : Nat} (hk : k < N) : By w (.slice (some ⟨g, 64 * k, none⟩) 64 64) (blk full k) ∧ (blk full k).length = 64 := by
  have hb : (blk full k).length = 64 := by unfold blk; rw [List.length_take, List.length_drop]; omega
  refine ⟨?_, hb⟩
  unfold By
  rw [hb]
  obtain ⟨a, c', e, h1, h2, h3, h4, h5⟩ := h
  injection e with e1 e2 e3
  refine ⟨_, 64, rfl, Nat.le_refl _, by unfold maxLen; omega, by rw [List.length_map, hb], (fun e => by cases e), fun x hx i u hu => ?_⟩
  injection hx with hx; subst hx
  have hi : i < 64 := by have := (List.getElem?_eq_some_iff.1 hu).1; rw [List.length_map, hb] at this; exact this
  have hu2 : (full.map c8)[64 * k + i]? = some u := by
    rw [← hu]; unfold blk
    rw [List.getElem?_map, List.getElem?_map, List.getElem?_take, if_pos hi, List.getElem?_drop]
  have h6 := (h5 _ e1.symm (64 * k + i) u hu2).2
  refine ⟨rfl, ?_⟩
  rw [← h6]
  simp only [Nat.zero_add]

theorem dgT_0 (v : V8) : dgT v 0 = List.replicate 32 0 := by
  unfold dgT
  rw [show (List.replicate 32 (0 : UInt8)) = (List.range 32).map fun _ => 0 from rfl]
  exact List.map_congr_left fun m _ => if_neg (Nat.not_lt_zero m)
/-- What stays while the blocks are taken. -/
structure SmI (w : World) (b1 b3 b4 b5 b6 g N c : Nat) (full : List UInt8) (st : V8) (w' : World) : Prop where
  hS : Blk w' b3 st.cells 60
  hD : Blk w' b1 ((dgT initV 0).map c8) 23
  hK : Blk w' b4 ((tabK 64).map c32) 61
  hO : Own w' 5 1 (.slice (some ⟨g, 0, none⟩) (64 * N) c) (64 * N) (full.map c8)
  hR : ckR b5 b6 (.slice (some ⟨g, 0, none⟩) (64 * N) c) w'
  kw : Keep All w w'
theorem SmI.keep {w : World} {b1 b3 b4 b5 b6 g N c l : Nat} {full : List UInt8} {st : V8} {wa wb : World} (h : SmI w b1 b3 b4 b5 b6 g N c full st wa) (hk : Keep (· ≠ l) wa wb) (hb : b1 ≠ l ∧ b3 ≠ l ∧ b4 ≠ l ∧ b5 ≠ l ∧ b6 ≠ l ∧ g ≠ l) (hl : w.heap.size ≤ l) : SmI w b1 b3 b4 b5 b6 g N c full st wb :=
  ⟨hk.blk' h.hS hb.2.1, hk.blk' h.hD hb.1, hk.blk' h.hK hb.2.2.1, h.hO.keep hk (fun j hj => by injection hj with hj; subst hj; exact hb.2.2.2.2.2), ⟨hk.blk' h.hR.1 hb.2.2.2.1, hk.blk' h.hR.2 hb.2.2.2.2.1⟩, h.kw.new hk hl⟩
theorem SmI.all {w : World} {b1 b3 b4 b5 b6 g N c : Nat} {full : List UInt8} {st : V8} {wa wb : World} (h : SmI w b1 b3 b4 b5 b6 g N c full st wa) (hk : Keep All wa wb) : SmI w b1 b3 b4 b5 b6 g N c full st wb :=
  ⟨hk.blk' h.hS trivial, hk.blk' h.hD trivial, hk.blk' h.hK trivial, h.hO.keep hk (fun _ _ => trivial), ⟨hk.blk' h.hR.1 trivial, hk.blk' h.hR.2 trivial⟩, h.kw.trans hk⟩
theorem SmI.put {w : World} {b1 b3 b4 b5 b6 g N c : Nat} {full : List UInt8} {st st2 : V8} {wa wb : World} (h : SmI w b1 b3 b4 b5 b6 g N c full st wa) (hB : Blk wb b3 st2.cells 60) (hk : Keep (· ≠ b3) wa wb) (hb : b1 ≠ b3 ∧ b4 ≠ b3 ∧ b5 ≠ b3 ∧ b6 ≠ b3 ∧ g ≠ b3) (hl : w.heap.size ≤ b3) : SmI w b1 b3 b4 b5 b6 g N c full st2 wb :=
  ⟨hB, hk.blk' h.hD hb.1, hk.blk' h.hK hb.2.1, h.hO.keep hk (fun j hj => by injection hj with hj; subst hj; exact hb.2.2.2.2), ⟨hk.blk' h.hR.1 hb.2.2.1, hk.blk' h.hR.2 hb.2.2.2.1⟩, h.kw.new hk hl⟩
/-- A block more, in steps. -/
theorem sum_step {w : World} {full : List UInt8} {k : Nat} {v : Value} {kb : Nat} (hv : By w v (blk full k)) (hb : (blk full k).length = 64) (hK : Blk w kb ((tabK 64).map c32) 61) : ∃ st' : V8, st' = sumSt full (k + 1) ∧
    Ret Try.prog 42 [.agg (sumSt full k).cells.toArray, v, .pointer (some ⟨kb, 0, none⟩)].toArray w fun r w' => r = .agg st'.cells.toArray ∧ Keep All w w' :=
  ⟨_, (sumSt_s full k).symm, sh_block w (sumSt full k) v (blk full k) kb (tabK 64) hv hb hK tabK_len⟩

theorem sh_Sum (w : World) (v : Value) (bs : List UInt8) (hv : By w v bs) (hl : bs.length ≤ 1000000) :
    Ret Try.prog 31 [v].toArray w fun r w' => r = .agg ((sumF bs).map c8).toArray ∧ Keep All w w' := by
  obtain ⟨a0, c0, rfl, hc0, hcm0⟩ := hv.form
  have hz64 := zc_lt bs.length
  have hpl := padL_len bs
  have hzs := zc_sum bs.length
  refine enterM (fn := Try.f31) (n := 68) Try.func31 rfl rfl (by simp) ?_
  refine W_seq ?_
  refine W_region ?_
  refine o_alloc rfl rfl rfl ?_; intro w1 b1 e1 hB1 hk1 hs1
  have hB1 : Blk w1 b1 ((dgT initV 0).map c8) 23 := by rw [dgT_0]; exact hB1
  refine ops_nil ?_
  refine W_seq ?_
  refine W_region ?_
  refine op_call rfl rfl rfl (sh_tables w1) ?_; rintro v2 w2 ⟨rfl, hk2⟩
  refine o_mvt rfl ?_
  refine op_run (r_extract rfl rfl) rfl ?_
  refine op_run (r_extract rfl rfl) rfl ?_
  refine o_alloc rfl rfl rfl ?_; intro w3 b3 e3 hB3 hk3 hs3
  refine o_alloc rfl rfl rfl ?_; intro w4 b4 e4 hB4 hk4 hs4
  refine o_storeA (cs := (tabS 8).map c32) rfl rfl (all_c32 _) rfl (hk4.blk' hB3 trivial) (Nat.le_refl _) rfl ?_; intro w5 hB5 hk5 hs5
  rw [splice_all (by rfl), tabS_8] at hB5
  refine o_storeA (cs := (tabK 64).map c32) rfl rfl (all_c32 _) rfl (hk5.blk' hB4 (show b4 ≠ b3 by omega)) (Nat.le_refl _) rfl ?_; intro w6 hB6 hk6 hs6
  rw [splice_all (by rfl)] at hB6
  have hz1 := hk1.size
  have hz2 := hk2.size
  have hlt1 := hB1.lt
  have hS6 := hk6.blk' hB5 (show b3 ≠ b4 by omega)
  have hD6 := hk6.blk' (hk5.blk' (hk4.blk' (hk3.blk' (hk2.blk' hB1 trivial) trivial) trivial) (show b1 ≠ b3 by omega)) (show b1 ≠ b4 by omega)
  have hkw6 : Keep All w w6 := ((((hk1.trans hk2).trans hk3).trans hk4).new hk5 (by omega)).new hk6 (by omega)
  refine ops_nil ?_
  refine W_seq ?_
  refine W_region ?_
  refine o_mvt rfl ?_
  refine op_call rfl rfl rfl (sl_CloneB w6 _ bs (hv.keep hkw6 (fun _ _ => trivial)) hl) ?_; rintro v7 w7 ⟨hown7, hin7, hk7⟩
  refine o_bs1 (v := (c8 128)) rfl rfl rfl rfl rfl rfl ?_; intro w8 b8 e8 hB8 hk8 hs8
  refine o_app1 (u := c8 128) rfl rfl hB8 rfl rfl ti_u8 rfl (hown7.keep hk8 (fun _ _ => trivial)) (by unfold maxLen; omega) (by omega) rfl ?_; intro v9 w9 hown9 hk9 hb9
  have hown9 : OwnB w9 5 v9 (padP bs 0) := OwnB.snoc hown9
  have hin9 : InB (fun b => w6.heap.size ≤ b) v9 := fun b hb => by
    rcases hb9 b hb with h | h
    · exact hin7 b h
    · have := hk7.size; omega
  have hk69 : Keep (· < w6.heap.size) w6 w9 := (hk7.all.trans hk8.all).trans (hk9.mono fun k _ hk e => by have := hin7 k e.symm; omega)
  refine o_ast rfl ?_
  refine ops_nil ?_
  refine W_seq ?_
  refine W_block ?_
  refine W_loop [5] [5, 19, 20, 21, 22, 23, 24, 25] (fun vs w' => ∃ (vf : Value) (z : Nat), vs = [vf] ∧ z ≤ zc bs.length ∧ OwnB w' 5 vf (padP bs z) ∧ InB (fun b => w6.heap.size ≤ b) vf ∧ Keep (· < w6.heap.size) w6 w') (fun vs _ => match vs with | [.slice _ n _] => bs.length + 200 - n | _ => 0) ⟨v9, 0, rfl, by omega, hown9, hin9, hk69⟩ ?_
  rintro J10 vs w10 ⟨vf, z, rfl, hz, hown, hin, hk10⟩ -
  obtain ⟨af, cf, rfl, _, _⟩ := hown.form
  have hpz := padP_len bs z
  refine W_seq ?_
  refine W_seq ?_
  refine W_region ?_
  refine o_mvt rfl ?_
  refine op_run (r_len rfl rfl rfl) rfl ?_
  refine op_run ((r_rem rfl rfl (by decide)).val (congrArg (Value.int .i64) (Int.ofNat_tmod (padP bs z).length 64).symm)) rfl ?_
  refine op_run (r_neq rfl rfl) rfl ?_
  refine ops_nil ?_
  refine W_cond_p rfl (fun h11 => ?_) (fun h11 => ?_)
  · refine W_skip ?_
    refine W_block ?_
    refine W_region ?_
    refine o_mvt rfl ?_
    refine o_bs1 (v := (c8 0)) rfl rfl rfl rfl rfl rfl ?_; intro w12 b12 e12 hB12 hk12 hs12
    refine o_app1 (u := c8 0) rfl rfl hB12 rfl rfl ti_u8 rfl (hown.keep hk12 (fun _ _ => trivial)) (by unfold maxLen; omega) (by omega) rfl ?_; intro v13 w13 hown13 hk13 hb13
    refine o_ast rfl ?_
    refine ops_nil ?_
    have hown13 : OwnB w13 5 v13 (padP bs (z + 1)) := by rw [← padP_s]; exact OwnB.snoc hown13
    obtain ⟨a13, c13, rfl, _, _⟩ := hown13.form
    have hpz1 := padP_len bs (z + 1)
    have h610 := hk10.size
    refine ⟨by (repeat (first | with_reducible exact offM_refl _ _ | refine offM_updc rfl ?_ | refine offM_upd rfl ?_ | refine offM_updo rfl ?_ | refine offM_updo_none ?_ | refine offM_head rfl rfl ?_)), ⟨_, z + 1, rfl, zc_more hz (by omega), hown13, fun b hb => ?_, (hk10.trans hk12.all).trans (hk13.mono fun k _ hk e => by have := hin k e.symm; omega)⟩, ?_⟩
    · rcases hb13 b hb with h | h
      · exact hin b h
      · have := hk12.size; omega
    · show bs.length + 200 - (padP bs (z + 1)).length < bs.length + 200 - (padP bs z).length
      omega
  · refine W_exit ?_
    refine W_seq ?_
    refine W_seq ?_
    refine W_region ?_
    refine o_asc rfl ?_
    refine ops_nil ?_
    refine W_block ?_
    obtain rfl := zc_end hz (by omega)
    refine W_loop [5, 6] [5, 6, 26, 27, 28, 29, 30, 31, 32, 33, 34, 35, 36, 37, 38, 39] (fun vs w' => ∃ (vf : Value) (j : Nat), vs = [vf, .int .i64 (56 - 8 * (j : Int))] ∧ j ≤ 8 ∧ OwnB w' 5 vf (padP bs (zc bs.length) ++ (lenB bs.length).take j) ∧ InB (fun b => w6.heap.size ≤ b) vf ∧ Keep (· < w6.heap.size) w6 w') (fun vs _ => match vs with | [_, .int _ s] => (s + 8).toNat | _ => 0) ⟨_, 0, rfl, by omega, by rw [List.take_zero, List.append_nil]; exact hown, hin, hk10⟩ ?_
    clear hin hown hk10
    rintro J15 vs w15 ⟨vf, j, rfl, hj, hown, hin, hk15⟩ -
    obtain ⟨af2, cf2, rfl, _, _⟩ := hown.form
    have hll := lenB_len bs.length
    refine W_seq ?_
    refine W_seq ?_
    refine W_region ?_
    refine o_mvt rfl ?_
    refine op_run (r_geq rfl rfl) rfl ?_
    refine ops_nil ?_
    refine W_cond_p rfl (fun h16 => ?_) (fun h16 => ?_)
    · refine W_skip ?_
      refine W_seq ?_
      refine W_block ?_
      refine W_region ?_
      refine o_mvt rfl ?_
      refine o_mvt rfl ?_
      refine op_run (r_len rfl rfl rfl) rfl ?_
      refine op_run ((r_conv rfl rfl rfl).val (congrArg (Value.int .u64) (show IntKind.u64.wrap (bs.length : Int) = (bs.length : Int) by rw [wrap_u64]; omega))) rfl ?_
      refine op_run ((r_mul rfl rfl).val (congrArg (Value.int .u64) (show IntKind.u64.wrap ((bs.length : Int) * 8) = ((bs.length * 8 : Nat) : Int) by rw [wrap_u64]; omega))) rfl ?_
      refine o_mvt rfl ?_
      refine op_run ((r_shr rfl rfl (by omega)).val (congrArg (Value.int .u64) (show ((bs.length * 8 : Nat) : Int).fdiv (2 ^ (min (56 - 8 * (j : Int)).toNat IntKind.u64.bits)) = ((bs.length * 8 / 2 ^ (56 - 8 * j) : Nat) : Int) by rw [show 56 - 8 * (j : Int) = ((56 - 8 * j : Nat) : Int) by omega, fdiv_nat, Nat.min_eq_left (by show _ ≤ 64; omega)]))) rfl ?_
      refine op_run ((r_conv rfl rfl rfl).val (congrArg (Value.int .u8) (u8_nat (bs.length * 8 / 2 ^ (56 - 8 * j))))) rfl ?_
      refine o_bs1 (v := (c8 (UInt8.ofNat (bs.length * 8 / 2 ^ (56 - 8 * j))))) rfl rfl rfl rfl rfl rfl ?_; intro w18 b18 e18 hB18 hk18 hs18
      refine o_app1 (u := c8 (UInt8.ofNat (bs.length * 8 / 2 ^ (56 - 8 * j)))) rfl rfl hB18 rfl rfl ti_u8 rfl (hown.keep hk18 (fun _ _ => trivial)) (by rw [List.length_append, List.length_take]; unfold maxLen; omega) (by rw [List.length_append, List.length_take]; omega) rfl ?_; intro v19 w19 hown19 hk19 hb19
      refine o_ast rfl ?_
      refine ops_nil ?_
      refine W_region ?_
      refine o_mvt rfl ?_
      refine op_run ((r_sub rfl rfl).val (congrArg (Value.int .i64) (show IntKind.i64.wrap (56 - 8 * (j : Int) - 8) = 56 - 8 * ((j + 1 : Nat) : Int) from (wrap_i64 (by omega) (by omega)).trans (by omega)))) rfl ?_
      refine o_ast rfl ?_
      refine ops_nil ?_
      have hj8 : j < 8 := by omega
      have e : padP bs (zc bs.length) ++ (lenB bs.length).take (j + 1) = padP bs (zc bs.length) ++ (lenB bs.length).take j ++ [UInt8.ofNat (bs.length * 8 / 2 ^ (56 - 8 * j))] := by
        rw [List.take_succ_eq_append_getElem (by rw [hll]; exact hj8), List.append_assoc]
        have : (lenB bs.length)[j]'(by rw [hll]; exact hj8) = UInt8.ofNat (bs.length * 8 / 2 ^ (56 - 8 * j)) := by simp [lenB]
        rw [this]
      have hown19 : OwnB w19 5 v19 (padP bs (zc bs.length) ++ (lenB bs.length).take (j + 1)) := by rw [e]; exact OwnB.snoc hown19
      have h615 := hk15.size
      refine ⟨by (repeat (first | with_reducible exact offM_refl _ _ | refine offM_updc rfl ?_ | refine offM_upd rfl ?_ | refine offM_updo rfl ?_ | refine offM_updo_none ?_ | refine offM_head rfl rfl ?_)), ⟨v19, j + 1, rfl, by omega, hown19, fun b hb => ?_, (hk15.trans hk18.all).trans (hk19.mono fun k _ hk e => by have := hin k e.symm; omega)⟩, ?_⟩
      · rcases hb19 b hb with h | h
        · exact hin b h
        · have := hk18.size; omega
      · show (56 - 8 * ((j + 1 : Nat) : Int) + 8).toNat < (56 - 8 * (j : Int) + 8).toNat
        omega
    · refine W_exit ?_
      refine W_seq2 ?_
      refine W2_seq ?_
      refine W_region ?_
      refine o_mvt rfl ?_
      have hj8 : j = 8 := by omega
      subst hj8
      obtain ⟨N, hN⟩ : ∃ N, (padL bs).length = 64 * N := ⟨(padL bs).length / 64, by omega⟩
      have e8 : (padP bs (zc bs.length) ++ (lenB bs.length).take 8).length = 64 * N := by rw [List.take_of_length_le (by rw [hll]; exact Nat.le_refl _)]; exact hN
      rw [e8] at hown hin ⊢
      rw [List.take_of_length_le (by rw [hll]; exact Nat.le_refl _)] at hown
      have hown : OwnB w15 5 (.slice af2 (64 * N) cf2) (padL bs) := hown
      have hin : InB (fun b => w6.heap.size ≤ b) (.slice af2 (64 * N) cf2) := hin
      unfold OwnB at hown
      rw [hN] at hown
      obtain ⟨g, c, ex, eg, hNc, hcm, hG, _⟩ := hown.open (by omega)
      cases eg
      have hS15 := hk15.blk' hS6 (by omega)
      have hK15 := hk15.blk' hB6 (by omega)
      have hD15 := hk15.blk' hD6 (by omega)
      have hkw15 : Keep All w w15 := hkw6.outA (B := fun k => ¬ k < w6.heap.size) (hk15.mono fun k _ h => Decidable.not_not.1 h) (fun k hk => by have := hkw6.size; omega)
      refine op_call rfl rfl rfl (ck_make w15 (some ⟨g, 0, none⟩) (64 * N) cf2) ?_; rintro v21 w21 ⟨b5, b6, rfl, hb5, hb6, hl5, hl6, hB5, hB6, hk21⟩
      have hgl := hG.lt
      have hg6 : w6.heap.size ≤ g := hin g rfl
      have hsl := hS15.lt
      have hkl := hK15.lt
      have hdl := hD15.lt
      have hws := hkw15.size
      have hws21 := hk21.size
      have h0 : SmI w b1 b3 b4 b5 b6 g N cf2 (padL bs) (sumSt (padL bs) 0) w21 := ⟨by rw [sumSt_0]; exact hk21.blk' hS15 trivial, hk21.blk' hD15 trivial, hk21.blk' hK15 trivial, Own.keep hown hk21 (fun _ _ => trivial), ⟨hB5, hB6⟩, hkw15.trans hk21⟩
      refine ops_nil ?_
      refine W_range rfl rfl (ck_seq g N cf2 b5 b6 (by omega) hNc hcm) (fun k args w' h => by obtain rfl := h; rfl) (fun k w' => SmI w b1 b3 b4 b5 b6 g N cf2 (padL bs) (sumSt (padL bs) k) w') (fun e w' => e = .ret ∧ False) ?_ ?_ ?_ ?_ ?_ ?_ ?_ ?_
      · exact fun k w' h => h.hR
      · exact fun k wa wb h hk => h.keep hk (by omega) (by omega)
      · exact fun e wa wb h hk => h
      · exact fun w' hk hs => h0.all hk
      · rintro k27 args27 w27 hI27 hN27 hE27 hs27
        obtain rfl := hE27
        refine W_region ?_
        refine o_ast rfl ?_
        refine ops_nil ?_
        refine ⟨Keep.refl _, ?_⟩; intro w28 hk28 hs28
        have hR28 := hI27.keep hk28 (by omega) (by omega)
        refine W_block ?_
        refine W_region ?_
        refine op_run (r_loadA ((sumSt (padL bs) k27).cells) rfl rfl rfl (by first | rfl | (rw [dgR_len]; rfl) | (rw [refR_len]; rfl) | (rw [secR_len]; rfl) | (rw [List.length_map, tagF_len]; rfl)) (hR28.hS.all)) rfl ?_
        refine o_mvt rfl ?_
        obtain ⟨st', hst, hstep⟩ := sum_step (blk_by hR28.hO.sl hN hN27).1 (blk_by hR28.hO.sl hN hN27).2 hR28.hK
        refine op_call rfl rfl rfl (hstep) ?_; rintro v30 w30 ⟨rfl, hk30⟩
        have hR30 := hR28.all hk30
        refine o_storeA (cs := st'.cells) rfl rfl (by first | rfl | exact dgR_one _ | exact refR_one _ | exact secR_one _ | exact all_c8 _) (by first | rfl | (rw [dgR_len]; rfl) | (rw [refR_len]; rfl) | (rw [secR_len]; rfl) | (rw [List.length_map, tagF_len]; rfl)) hR30.hS (by exact Nat.le_refl _) rfl ?_; intro w31 hB31 hk31 hs31
        rw [splice_all (by rfl)] at hB31
        refine ops_nil ?_
        have hI : SmI w b1 b3 b4 b5 b6 g N cf2 (padL bs) st' w31 := hR30.put hB31 hk31 (by omega) (by omega)
        rw [hst] at hI
        exact ⟨hk30.all.trans (hk31.mono fun k _ hk e => by omega), hI⟩
      · rintro w33 hI33 hD33
        have hI33 := hI33.resolve_right (fun h => h.2)
        refine W_seq ?_
        refine W_seq ?_
        refine W_region ?_
        refine op_run (r_loadA ((sumSt (padL bs) N).cells) rfl rfl rfl (by first | rfl | (rw [dgR_len]; rfl) | (rw [refR_len]; rfl) | (rw [secR_len]; rfl) | (rw [List.length_map, tagF_len]; rfl)) (hI33.hS.all)) rfl ?_
        refine o_mvc rfl ?_
        refine ops_nil ?_
        refine W_block ?_
        refine W_loop [47] [8, 9, 10, 47, 48, 49, 50, 51, 52, 53, 54, 55, 56, 57, 58, 59, 60, 61, 62, 63, 64, 65, 66] (fun vs w' => ∃ i : Nat, vs = [.int .i64 i] ∧ i ≤ 8 ∧ Blk w' b1 ((dgT (sumSt (padL bs) N) (4 * i)).map c8) 23 ∧ Keep (· ≠ b1) w33 w') (fun vs _ => match vs with | [.int _ i] => 8 - i.toNat | _ => 0) ⟨0, rfl, by omega, by rw [dgT_0 (sumSt (padL bs) N), ← dgT_0 initV]; exact hI33.hD, Keep.refl _⟩ ?_
        rintro J35 vs w35 ⟨i, rfl, hi, hB35, hk35⟩ -
        refine W_seq ?_
        refine W_region ?_
        refine op_run (r_lss rfl rfl) rfl ?_
        refine ops_nil ?_
        refine W_seq ?_
        refine W_cond_p rfl (fun h36 => ?_) (fun h36 => ?_)
        · refine W_skip ?_
          refine W_seq ?_
          refine W_block ?_
          refine W_seq ?_
          refine W_region ?_
          refine o_mvt rfl ?_
          have hi8 : i < 8 := by omega
          have hinci := inc64' i (by omega)
          refine op_run (r_index1 rfl rfl rfl rfl rfl rfl (by omega) (by omega) (get_ws hi8)) rfl ?_
          refine o_ast rfl ?_
          refine o_ast rfl ?_
          refine ops_nil ?_
          refine W_seq ?_
          refine W_region ?_
          refine o_mvc rfl ?_
          refine ops_nil ?_
          refine W_block ?_
          refine W_loop [51] [10, 51, 52, 53, 54, 55, 56, 57, 58, 59, 60, 61, 62, 63, 64, 65] (fun vs w' => ∃ j : Nat, vs = [.int .i64 j] ∧ j ≤ 4 ∧ Blk w' b1 ((dgT (sumSt (padL bs) N) (4 * i + j)).map c8) 23 ∧ Keep (· ≠ b1) w33 w') (fun vs _ => match vs with | [.int _ j] => 4 - j.toNat | _ => 0) ⟨0, rfl, by omega, hB35, hk35⟩ ?_
          rintro J38 vs w38 ⟨j, rfl, hj, hB38, hk38⟩ -
          refine W_seq ?_
          refine W_region ?_
          refine op_run (r_lss rfl rfl) rfl ?_
          refine ops_nil ?_
          refine W_seq ?_
          refine W_cond_p rfl (fun h39 => ?_) (fun h39 => ?_)
          · refine W_skip ?_
            refine W_seq ?_
            refine W_block ?_
            refine W_seq ?_
            refine W_region ?_
            refine o_mvt rfl ?_
            refine o_ast rfl ?_
            refine ops_nil ?_
            refine W_region ?_
            refine o_mvt rfl ?_
            refine op_run ((r_mul rfl rfl).val (congrArg (Value.int .i64) (show IntKind.i64.wrap (4 * (i : Int)) = ((4 * i : Nat) : Int) from (wrap_i64 (by omega) (by omega)).trans (by omega)))) rfl ?_
            refine o_mvt rfl ?_
            refine op_run ((r_add rfl rfl).val (congrArg (Value.int .i64) (show IntKind.i64.wrap (((4 * i : Nat) : Int) + (j : Int)) = ((4 * i + j : Nat) : Int) from (wrap_i64 (by omega) (by omega)).trans (by omega)))) rfl ?_
            refine o_mvt rfl ?_
            refine o_mvt rfl ?_
            refine op_run ((r_mul rfl rfl).val (congrArg (Value.int .i64) (show IntKind.i64.wrap (8 * (j : Int)) = ((8 * j : Nat) : Int) from (wrap_i64 (by omega) (by omega)).trans (by omega)))) rfl ?_
            refine op_run ((r_sub rfl rfl).val (congrArg (Value.int .i64) (show IntKind.i64.wrap (24 - ((8 * j : Nat) : Int)) = ((24 - 8 * j : Nat) : Int) from (wrap_i64 (by omega) (by omega)).trans (by omega)))) rfl ?_
            have hj4 : j < 4 := by omega
            have hincj := inc64' j (by omega)
            refine op_run (r_shrW (24 - 8 * j) rfl rfl) rfl ?_
            refine op_run ((r_conv rfl rfl rfl).val (congrArg (Value.int .u8) (u8_nat _))) rfl ?_
            refine op_run (r_idxA1 rfl rfl rfl rfl (by omega) (by omega)) rfl ?_
            refine o_store (v := c8 (dgB (sumSt (padL bs) N) (4 * i + j))) rfl (congrArg (fun n : Int => Value.int .u8 n) (show _ = _ from (by unfold dgB; rw [Int.toNat_natCast, show (4 * i + j) / 4 = i by omega, show (4 * i + j) % 4 = j by omega]))) rfl rfl hB38 (by rw [List.length_map, dgT_len]; omega) rfl ?_; intro w42 hB42 hk42 hs42
            refine ops_nil ?_
            refine W_region ?_
            refine op_run (r_add rfl rfl) rfl ?_
            refine o_mvt rfl ?_
            refine ops_nil ?_
            rw [Int.toNat_natCast, Nat.zero_add, map_set8, dgT_set] at hB42
            refine ⟨by (repeat (first | with_reducible exact offM_refl _ _ | refine offM_updc rfl ?_ | refine offM_upd rfl ?_ | refine offM_updo rfl ?_ | refine offM_updo_none ?_ | refine offM_head rfl rfl ?_)), ⟨j + 1, ?_, by omega, hB42, hk38.trans hk42⟩, ?_⟩
            · rw [← hincj]; rfl
            · show 4 - (IntKind.i64.wrap ((j : Int) + 1)).toNat < 4 - (j : Int).toNat
              rw [hincj]; omega
          · refine W_exit ?_
            refine W_region ?_
            refine op_run (r_add rfl rfl) rfl ?_
            refine o_mvt rfl ?_
            refine ops_nil ?_
            have e : j = 4 := by omega
            subst e
            refine ⟨by (repeat (first | with_reducible exact offM_refl _ _ | refine offM_updc rfl ?_ | refine offM_upd rfl ?_ | refine offM_updo rfl ?_ | refine offM_updo_none ?_ | refine offM_head rfl rfl ?_)), ⟨i + 1, ?_, by omega, hB38, hk38⟩, ?_⟩
            · rw [← hinci]; rfl
            · show 8 - (IntKind.i64.wrap ((i : Int) + 1)).toNat < 8 - (i : Int).toNat
              rw [hinci]; omega
        · refine W_exit ?_
          refine W_seq ?_
          refine W_region ?_
          have e : i = 8 := by omega
          subst e
          have hB35 : Blk w35 b1 ((sumF bs).map c8) 23 := by
            have e : sumF bs = dgT (sumSt (padL bs) N) (4 * 8) := by rw [show 4 * 8 = 32 from rfl, dgT_32]; unfold sumF; rw [hN, Nat.mul_div_cancel_left N (by decide)]
            rw [e]; exact hB35
          have hsl := sumF_len bs
          refine op_run (r_loadA (((sumF bs).map c8)) rfl rfl rfl (by first | rfl | (rw [dgR_len]; rfl) | (rw [refR_len]; rfl) | (rw [secR_len]; rfl) | (rw [List.length_map, tagF_len]; rfl)) (hB35.all)) rfl ?_
          refine o_storeA (cs := ((sumF bs).map c8)) rfl rfl (by first | rfl | exact dgR_one _ | exact refR_one _ | exact secR_one _ | exact all_c8 _) (by first | rfl | (rw [dgR_len]; rfl) | (rw [refR_len]; rfl) | (rw [secR_len]; rfl) | (rw [List.length_map, tagF_len]; rfl)) hB35 (by rw [List.length_map]; exact Nat.le_refl _) rfl ?_; intro w46 hB46 hk46 hs46
          rw [splice_all (by rfl)] at hB46
          refine ops_nil ?_
          refine W_ret ?_
          refine ⟨hk46.get (hk35.get hD33 (by omega)) (by omega), ?_⟩
          refine retA ((sumF bs).map c8) rfl rfl rfl rfl (by first | rfl | (rw [dgR_len]; rfl) | (rw [refR_len]; rfl) | (rw [secR_len]; rfl) | (rw [List.length_map, tagF_len]; rfl)) (((Keep.putObj w46 w21.heap.size _).blk' hB46 (show b1 ≠ w21.heap.size by omega)).all) ?_
          exact ⟨rfl, ((hI33.kw.new hk35 (by omega)).new hk46 (by omega)).new (Keep.putObj w46 w21.heap.size _) (by omega)⟩
      · rintro w49 hI49 hD49
        exact hI49.2.elim
      · exact fun j w1 h => by cases h.1
end Go.Proofs.Ytnjepmdgbkhoaaa.B
