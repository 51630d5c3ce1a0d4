/-
  volume: named, may, has, Create, Delete, Get.
-/
import Derived.Test.YtkmciohghhffnaaVAdd
import Derived.Test.YtkmciohghhffnaaFld
import Derived.Shelf.GgClosure.StringsIndexFuncTop
import Derived.Ground.GgwProg
import Derived.Shelf.SlMaps.Clone
import Derived.Ground.SlmcProg
namespace Go.Proofs
open Go.Shelf
def Try.contF_ren : Go.Shelf.Ren := ⟨fun | 17 => 96 | 15 => 125 | 20 => 139 | n => n, fun | 9 => 9 | 23 => 152 | 4 => 4 | 3 => 3 | 0 => 0 | 21 => 21 | n => n, fun | n => n⟩
theorem Try.contF : Go.Proofs.LaysGw.n17 Try.prog Try.contF_ren := {
  mixed := by kernel_rfl
  f15 := Try.func125.trans (congrArg some (by kernel_rfl))
  f17 := Try.func96.trans (congrArg some (by kernel_rfl))
  f20 := Try.func139.trans (congrArg some (by kernel_rfl))
  t0 := Try.underlying0
  a0 := Try.isAgg0
  z0 := Try.sizeOf0
  v0 := Try.zeroValue0
  i0 := by kernel_rfl
  t3 := Try.underlying3
  a3 := Try.isAgg3
  z3 := Try.sizeOf3
  v3 := Try.zeroValue3
  i3 := by kernel_rfl
  t4 := Try.underlying4
  a4 := Try.isAgg4
  z4 := Try.sizeOf4
  v4 := Try.zeroValue4
  i4 := by kernel_rfl
  t9 := Try.underlying9
  a9 := Try.isAgg9
  z9 := Try.sizeOf9
  v9 := Try.zeroValue9
  i9 := by kernel_rfl
  t21 := Try.underlying21
  a21 := Try.isAgg21
  z21 := Try.sizeOf21
  v21 := Try.zeroValue21
  i21 := by kernel_rfl
  t23 := Try.underlying152
  a23 := Try.isAgg152
  z23 := Try.sizeOf152
  v23 := Try.zeroValue152
  i23 := by kernel_rfl }
def Try.cloneIB_ren : Go.Shelf.Ren := ⟨fun | 5 => 55 | 7 => 83 | n => n, fun | 23 => 108 | 25 => 3 | 3 => 41 | 4 => 4 | 20 => 20 | n => n, fun | n => n⟩
theorem Try.cloneIB : Go.Proofs.SlLaysW.n5 Try.prog Try.cloneIB_ren := {
  mixed := by kernel_rfl
  f5 := ⟨Try.f55.name, by decide, Try.func55.trans (congrArg some (by kernel_rfl))⟩
  f7 := Try.func83.trans (congrArg some (by kernel_rfl))
  t4 := Try.underlying4
  a4 := Try.isAgg4
  z4 := Try.sizeOf4
  v4 := Try.zeroValue4
  t20 := Try.underlying20
  a20 := Try.isAgg20
  z20 := Try.sizeOf20
  v20 := Try.zeroValue20
  t23 := Try.underlying108
  a23 := Try.isAgg108
  z23 := Try.sizeOf108
  v23 := Try.zeroValue108 }
end Go.Proofs
namespace Go.Proofs.Ytkmciohghhffnaa.B
open Go
set_option linter.unusedVariables false
set_option maxHeartbeats 2000000
set_option maxRecDepth 100000
attribute [local irreducible] W OpsW OpsQ retP
theorem md_Clone (w : World) (b : Nat) (l : List (Int × Value)) (h : MapG intK w b l) : Ret Try.prog 55 [.map (some b)].toArray w fun r w' => r = .map (some w.heap.size) ∧ MapG intK w' w.heap.size l ∧ Keep All w w' := by
  obtain ⟨es, cl, h1, h2⟩ := h
  refine (AnyW.maps_Clone Try.cloneIB b es cl w h1).mono ?_
  rintro e w' ⟨rfl, rfl⟩
  exact ⟨_, rfl, rfl, ⟨es, cl, heap_alloc_new w _, h2⟩, Keep.alloc w _⟩
def oddP (x : Nat) : Bool := decide (x < 33) || decide (126 < x)
theorem vl_odd (w : World) (x : Nat) : Ret Try.prog 95 [.int .i32 x].toArray w fun r w' => r = .bool (oddP x) ∧ w' = w := by
  refine enter (fn := Try.f95) (n := 9) Try.func95 rfl rfl (by simp) ?_
  refine W_seq ?_
  refine W_region ?_
  refine o_asc rfl ?_
  refine ops_nil ?_
  refine W_seq ?_
  refine W_region ?_
  refine o_mvt rfl ?_
  refine op_run (r_lss rfl rfl) rfl ?_
  refine o_mvt rfl ?_
  refine g_split rfl rfl rfl (fun g1 => ?_) (fun g1 => ?_)
  · refine o_mvt (g_yes rfl rfl rfl g1) ?_
    refine op_run (r_gtr rfl rfl) (g_yes rfl rfl rfl g1) ?_
    refine o_pkFt rfl g1 rfl ?_
    refine o_ast rfl ?_
    refine ops_nil ?_
    refine W_ret ?_
    refine ret1 (.bool (decide (126 < (x : Int)))) rfl ?_ ?_; rfl
    have g1 := of_decide_eq_false g1
    refine ⟨congrArg Value.bool ?_, rfl⟩
    unfold oddP
    rw [decide_eq_false (show ¬ x < 33 by omega), Bool.false_or, decide_eq_decide]; omega
  · refine op_skip (g_no rfl rfl rfl g1) ?_
    refine op_skip (g_no rfl rfl rfl g1) ?_
    refine o_pkTc rfl g1 rfl ?_
    refine o_ast rfl ?_
    refine ops_nil ?_
    refine W_ret ?_
    refine ret1 (.bool true) rfl ?_ ?_; rfl
    have g1 := of_decide_eq_true g1
    refine ⟨congrArg Value.bool ?_, rfl⟩
    unfold oddP
    rw [decide_eq_true (show x < 33 by omega)]; rfl
theorem dec_odd (s : ByteArray) (i : Nat) (h : 128 ≤ (s.get! i).toNat) : oddP (Utf8.decode s i).1 = true := by
  have key : 128 ≤ (Utf8.decode s i).1 := by
    unfold Utf8.decode
    have e0 : s.get! (i + 0) = s.get! i := by rw [Nat.add_zero]
    have hr : 128 ≤ Utf8.runeError := by decide
    simp only [e0]
    rw [if_neg (by omega)]
    split
    · split
      · rename_i h1; exact h1
      · exact hr
    · split
      · split
        · rename_i h1
          rw [Bool.and_eq_true] at h1
          have h2 := of_decide_eq_true h1.1
          show 128 ≤ _
          exact Nat.le_trans (by decide) h2
        · exact hr
      · split
        · split
          · rename_i h1
            rw [Bool.and_eq_true] at h1
            have h2 := of_decide_eq_true h1.1
            exact Nat.le_trans (by decide) h2
          · exact hr
        · exact hr
  unfold oddP
  rw [decide_eq_true (show 126 < _ by omega), Bool.or_true]
theorem dec_low (s : ByteArray) (i : Nat) (h : (s.get! i).toNat < 128) : Utf8.decode s i = ((s.get! i).toNat, 1) := by
  unfold Utf8.decode
  have e0 : s.get! (i + 0) = s.get! i := by rw [Nat.add_zero]
  simp only [e0]
  rw [if_pos h]
theorem odd_none (s : ByteArray) : ∀ (f pos : Nat), s.size ≤ pos + f → (Go.Lib.idxFuncFrom oddP true s f pos = -1 ↔ ∀ i, pos ≤ i → i < s.size → ¬ ((s.get! i).toNat ≤ 32 ∨ 126 < (s.get! i).toNat))
  | 0, pos, h => by
    unfold Go.Lib.idxFuncFrom
    exact ⟨fun _ i h1 h2 => by omega, fun _ => rfl⟩
  | f + 1, pos, h => by
    unfold Go.Lib.idxFuncFrom
    by_cases hp : pos < s.size
    · rw [if_pos hp]
      by_cases h8 : 128 ≤ (s.get! pos).toNat
      · rw [if_pos (dec_odd s pos h8)]
        constructor
        · intro e; omega
        · intro hh; exact absurd (.inr (by omega)) (hh pos (Nat.le_refl _) hp)
      · rw [dec_low s pos (by omega)]
        show (if oddP (s.get! pos).toNat = true then (pos : Int) else Go.Lib.idxFuncFrom oddP true s f (pos + 1)) = -1 ↔ _
        have e : (oddP (s.get! pos).toNat = true) ↔ ((s.get! pos).toNat ≤ 32 ∨ 126 < (s.get! pos).toNat) := by
          unfold oddP
          rw [Bool.or_eq_true, decide_eq_true_eq, decide_eq_true_eq]
          exact ⟨fun h => by omega, fun h => by omega⟩
        by_cases ho : oddP (s.get! pos).toNat = true
        · rw [if_pos ho]
          constructor
          · intro e; omega
          · intro hh; exact absurd (e.1 ho) (hh pos (Nat.le_refl _) hp)
        · rw [if_neg ho, odd_none s f (pos + 1) (by omega)]
          constructor
          · intro hh i h1 h2
            by_cases hi : i = pos
            · rw [hi]; exact fun hc => ho (e.2 hc)
            · exact hh i (by omega) h2
          · intro hh i h1 h2; exact hh i (by omega) h2
    · rw [if_neg hp]
      exact ⟨fun _ i h1 h2 => by omega, fun _ => rfl⟩
theorem baGet! {bs : List UInt8} {i : Nat} (h : i < bs.length) : (⟨bs.toArray⟩ : ByteArray).get! i = bs[i] := by
  show bs.toArray[i]! = _
  rw [getElem!_pos bs.toArray i (by simpa using h)]
  simp
theorem odd_named (bs : List UInt8) : decide (0 ≤ Go.Lib.idxFunc oddP true ⟨bs.toArray⟩) = !decide (∀ x ∈ bs, ¬ (x.toNat ≤ 32 ∨ 126 < x.toNat)) := by
  have hsz : (⟨bs.toArray⟩ : ByteArray).size = bs.length := baSize bs
  have h1 := Go.Lib.idxFunc_range oddP true ⟨bs.toArray⟩
  have h2 := odd_none ⟨bs.toArray⟩ (⟨bs.toArray⟩ : ByteArray).size 0 (by omega)
  have e : (∀ x ∈ bs, ¬ (x.toNat ≤ 32 ∨ 126 < x.toNat)) ↔ Go.Lib.idxFunc oddP true ⟨bs.toArray⟩ = -1 := by
    rw [show Go.Lib.idxFunc oddP true ⟨bs.toArray⟩ = Go.Lib.idxFuncFrom oddP true ⟨bs.toArray⟩ (⟨bs.toArray⟩ : ByteArray).size 0 from rfl, h2]
    constructor
    · intro h i _ hi
      rw [hsz] at hi
      rw [baGet! hi]
      exact h _ (List.getElem_mem hi)
    · intro h x hx
      obtain ⟨i, hi, rfl⟩ := List.mem_iff_getElem.1 hx
      have := h i (Nat.zero_le _) (by rw [hsz]; exact hi)
      rw [baGet! hi] at this
      exact this
  by_cases hh : Go.Lib.idxFunc oddP true ⟨bs.toArray⟩ = -1
  · rw [hh, decide_eq_true (e.2 hh)]; rfl
  · rw [decide_eq_false (fun c => hh (e.1 c)), decide_eq_true (show (0 : Int) ≤ Go.Lib.idxFunc oddP true ⟨bs.toArray⟩ by rcases h1 with h1 | h1; exact absurd h1 hh; exact h1.1)]; rfl
theorem sl_ContainsF (w : World) (bs : List UInt8) : Ret Try.prog 96 [strA bs, .func (.func 95) #[] #[]].toArray w fun r w' => r = .bool (!decide (∀ x ∈ bs, ¬ (x.toNat ≤ 32 ∨ 126 < x.toNat))) ∧ Keep All w w' := by
  have hp : PredAt Try.prog 95 #[] encR oddP w := fun W x _ => by
    refine Calls.mono (vl_odd W x) ?_
    rintro e w' ⟨v, rfl, rfl, rfl⟩
    exact ⟨rfl, 0, rfl⟩
  refine (Any.strings_ContainsFunc Try.contF 95 #[] (enters_of Try.func95 (by kernel_rfl) rfl) oddP ⟨bs.toArray⟩ w hp).mono ?_
  rintro e w' ⟨rfl, hb⟩
  exact ⟨_, rfl, by rw [odd_named], ⟨hb.os, hb.tape, hb.output, hb.size, fun k hk _ => hb.block k hk⟩⟩
theorem vl_named (w : World) (bs : List UInt8) (hl : bs.length ≤ 2 ^ 40) : Ret Try.prog 82 [strA bs].toArray w fun r w' => r = .bool (decide (namedB bs)) ∧ Keep All w w' := by
  have hsz := baSize bs
  refine enter (fn := Try.f82) (n := 17) Try.func82 rfl rfl (by simp) ?_
  refine W_seq ?_
  refine W_region ?_
  refine o_asc rfl ?_
  refine ops_nil ?_
  refine W_seq ?_
  refine W_region ?_
  refine op_run (r_assign) rfl ?_
  refine ops_nil ?_
  refine W_seq ?_
  refine W_region ?_
  refine o_mvt rfl ?_
  refine op_run (r_neqStr (b := []) rfl rfl) rfl ?_
  refine o_mvt rfl ?_
  refine g_split rfl rfl rfl (fun g2 => ?_) (fun g2 => ?_)
  · refine o_mvt (g_yes rfl rfl rfl g2) ?_
    refine op_run (r_len_str rfl rfl rfl) (g_yes rfl rfl rfl g2) ?_
    refine op_run (r_leq rfl rfl) (g_yes rfl rfl rfl g2) ?_
    refine o_pkTt rfl g2 rfl ?_
    refine o_mvt rfl ?_
    refine g_split rfl rfl rfl (fun g3 => ?_) (fun g3 => ?_)
    · refine o_mvt (g_yes rfl rfl rfl g3) ?_
      refine o_mvt (g_yes rfl rfl rfl g3) ?_
      refine op_call rfl rfl (g_yes rfl rfl rfl g3) (sl_ContainsF w bs) ?_; rintro v4 w4 ⟨rfl, hk4⟩
      refine op_run (r_not rfl) (g_yes rfl rfl rfl g3) ?_
      refine o_pkTt rfl g3 rfl ?_
      refine o_ast rfl ?_
      refine ops_nil ?_
      refine W_ret ?_
      refine ret1 (.bool (!(!decide (∀ x ∈ bs, ¬ (x.toNat ≤ 32 ∨ 126 < x.toNat))))) rfl ?_ ?_; rfl
      have g2 : bs ≠ [] := by simpa using g2
      have g3 := of_decide_eq_true g3
      rw [hsz] at g3
      refine ⟨congrArg Value.bool ?_, hk4⟩
      rw [Bool.not_not, decide_eq_decide]
      unfold namedB
      exact ⟨fun h => ⟨h, g2, by omega⟩, fun h => h.1⟩
    · refine op_skip (g_no rfl rfl rfl g3) ?_
      refine op_skip (g_no rfl rfl rfl g3) ?_
      refine op_skip (g_no rfl rfl rfl g3) ?_
      refine op_skip (g_no rfl rfl rfl g3) ?_
      refine o_pkFc rfl g3 rfl ?_
      refine o_ast rfl ?_
      refine ops_nil ?_
      refine W_ret ?_
      refine ret1 (.bool false) rfl ?_ ?_; rfl
      have g3 := of_decide_eq_false g3
      rw [hsz] at g3
      exact ⟨congrArg Value.bool (decide_eq_false fun h => by have := h.2.2; omega).symm, Keep.refl _⟩
  · refine op_skip (g_no rfl rfl rfl g2) ?_
    refine op_skip (g_no rfl rfl rfl g2) ?_
    refine op_skip (g_no rfl rfl rfl g2) ?_
    refine o_pkFc rfl g2 rfl ?_
    refine o_mvt rfl ?_
    refine op_skip (g_no rfl rfl rfl rfl) ?_
    refine op_skip (g_no rfl rfl rfl rfl) ?_
    refine op_skip (g_no rfl rfl rfl rfl) ?_
    refine op_skip (g_no rfl rfl rfl rfl) ?_
    refine o_pkFc rfl rfl rfl ?_
    refine o_ast rfl ?_
    refine ops_nil ?_
    refine W_ret ?_
    refine ret1 (.bool false) rfl ?_ ?_; rfl
    have g2 : bs = [] := by simpa using g2
    exact ⟨congrArg Value.bool (decide_eq_false fun h => h.2.1 g2).symm, Keep.refl _⟩
def mayQ (nm : List UInt8) (q : Int) : Prop := namedB nm ∧ 0 ≤ q ∧ q ≤ 1048576
instance (nm : List UInt8) (q : Int) : Decidable (mayQ nm q) := inferInstanceAs (Decidable (_ ∧ _))
theorem vl_may (w : World) (nm : List UInt8) (q : Int) (hl : nm.length ≤ 2 ^ 40) : Ret Try.prog 53 [strA nm, .int .i64 q].toArray w fun r w' => r = .bool (decide (mayQ nm q)) ∧ Keep All w w' := by
  refine enter (fn := Try.f53) (n := 15) Try.func53 rfl rfl (by simp) ?_
  refine W_seq ?_
  refine W_region ?_
  refine o_asc rfl ?_
  refine ops_nil ?_
  refine W_seq ?_
  refine W_region ?_
  refine o_mvt rfl ?_
  refine op_call rfl rfl rfl (vl_named w nm hl) ?_; rintro v1 w1 ⟨rfl, hk1⟩
  refine o_mvt rfl ?_
  refine g_split rfl rfl rfl (fun g2 => ?_) (fun g2 => ?_)
  · refine o_mvt (g_yes rfl rfl rfl g2) ?_
    refine op_run (r_geq rfl rfl) (g_yes rfl rfl rfl g2) ?_
    refine o_pkTt rfl g2 rfl ?_
    refine o_mvt rfl ?_
    refine g_split rfl rfl rfl (fun g3 => ?_) (fun g3 => ?_)
    · refine o_mvt (g_yes rfl rfl rfl g3) ?_
      refine op_run (r_leq rfl rfl) (g_yes rfl rfl rfl g3) ?_
      refine o_pkTt rfl g3 rfl ?_
      refine o_ast rfl ?_
      refine ops_nil ?_
      refine W_ret ?_
      refine ret1 (.bool (decide (q ≤ 1048576))) rfl ?_ ?_; rfl
      have g2 := of_decide_eq_true g2
      have g3 := of_decide_eq_true g3
      exact ⟨congrArg Value.bool (by rw [decide_eq_decide]; exact ⟨fun h => ⟨g2, by omega, h⟩, fun h => h.2.2⟩), hk1⟩
    · refine op_skip (g_no rfl rfl rfl g3) ?_
      refine op_skip (g_no rfl rfl rfl g3) ?_
      refine o_pkFc rfl g3 rfl ?_
      refine o_ast rfl ?_
      refine ops_nil ?_
      refine W_ret ?_
      refine ret1 (.bool false) rfl ?_ ?_; rfl
      have g3 := of_decide_eq_false g3
      exact ⟨congrArg Value.bool (decide_eq_false fun h => by have := h.2.1; omega).symm, hk1⟩
  · refine op_skip (g_no rfl rfl rfl g2) ?_
    refine op_skip (g_no rfl rfl rfl g2) ?_
    refine o_pkFc rfl g2 rfl ?_
    refine o_mvt rfl ?_
    refine op_skip (g_no rfl rfl rfl rfl) ?_
    refine op_skip (g_no rfl rfl rfl rfl) ?_
    refine o_pkFc rfl rfl rfl ?_
    refine o_ast rfl ?_
    refine ops_nil ?_
    refine W_ret ?_
    refine ret1 (.bool false) rfl ?_ ?_; rfl
    have g2 := of_decide_eq_false g2
    exact ⟨congrArg Value.bool (decide_eq_false fun h => g2 h.1).symm, hk1⟩
theorem look_vol (l : ModL) (nm : List UInt8) : ∃ q fr x th, Value.tuple #[(getA (mapP ptrV l) nm).getD (.agg (volR 0 false (.map none)).toArray), .bool (getA (mapP ptrV l) nm).isSome] = Value.tuple #[.agg (volR q fr x).toArray, .bool th] ∧ one x = true ∧ th = (lookP l nm).isSome := by
  rw [getA_look]
  cases lookP l nm with
  | none => exact ⟨0, false, .map none, false, rfl, rfl, rfl⟩
  | some v => exact ⟨v.q, v.fr, .map (some v.xa), true, rfl, rfl, rfl⟩
theorem vl_has (w : World) (mb bm : Nat) (l : ModL) (nm : List UInt8) (h : ModW w mb bm l) : Ret Try.prog 54 [.pointer (some ⟨mb, 0, none⟩), strA nm].toArray w fun r w' => r = .bool (lookP l nm).isSome ∧ Keep All w w' := by
  obtain ⟨q, fr, x, th, hlk, hx1, hth⟩ := look_vol l nm
  refine enter (fn := Try.f54) (n := 17) Try.func54 rfl rfl (by simp) ?_
  refine W_seq ?_
  refine W_region ?_
  refine o_asc rfl ?_
  refine ops_nil ?_
  refine W_seq ?_
  refine W_region ?_
  refine o_mvt rfl ?_
  refine op_run (r_nilCheck rfl) rfl ?_
  refine op_run (r_fieldAddr rfl rfl rfl rfl rfl) rfl ?_
  refine op_run (r_load rfl rfl rfl (h.m.cell rfl)) rfl ?_
  refine o_mvt rfl ?_
  refine op_run ((r_lookupGok (a := nm) (keyOk_strA rfl) rfl rfl rfl ti_ptrV (h.vs)).val (hlk)) rfl ?_
  refine o_mvt rfl ?_
  refine op_run (r_extract rfl rfl) rfl ?_
  refine op_run (r_extract rfl rfl) rfl ?_
  refine o_alloc rfl rfl rfl ?_; intro w3 b3 e3 hB3 hk3 hs3
  have hB3' : Blk w3 b3 (volR 0 false (.map none)) 110 := hB3
  refine o_storeA (cs := volR q fr x) rfl rfl (by first | rfl | exact binV_one _ | exact dgR_one _ | exact refR_one _ | exact secR_one _ | exact all_c8 _ | exact volR_one hx1) (by first | rfl | (rw [binV_len]; rfl) | (rw [dgR_len]; rfl) | (rw [refR_len]; rfl) | (rw [secR_len]; rfl) | (rw [List.length_map, tagF_len]; rfl)) hB3' (by show 0 + 3 ≤ 3; decide) rfl ?_; intro w4 hB4 hk4 hs4
  refine o_ast rfl ?_
  refine ops_nil ?_
  refine W_seq ?_
  refine W_region ?_
  refine o_mvt rfl ?_
  refine o_ast rfl ?_
  refine ops_nil ?_
  refine W_ret ?_
  refine ret1 (.bool th) rfl ?_ ?_; rfl
  exact ⟨by rw [hth], hk3.new hk4 (by omega)⟩
/-- What Create tells. -/
def creE (l : AL) (nm : List UInt8) (q : Int) : Int := if ¬ mayQ nm q then 1 else if (lookP l nm).isSome = true then 6 else 0
def creL (l : AL) (nm : List UInt8) (q : Int) : AL := if creE l nm q = 0 then l ++ [(nm, ⟨q, false, []⟩)] else l
theorem add_fin {w wa w' : World} {mb bm : Nat} {l : ModL} {nm : List UInt8} {v : Vol} (h : ModW w mb bm l) (hkA : Keep All w wa) (hV : VolW wa v) (hx : w.heap.size ≤ v.xa)
    (h3 : MapG strA w' bm (mapP ptrV l ++ [(nm, ptrV v)])) (h4 : Keep (· ≠ bm) wa w') : ∃ l', abs l' = abs l ++ [(nm, v.a)] ∧ ModS w mb bm l w' l' := by
  have hlt : ∀ z, ModB bm l z → z ≠ v.xa := fun z hz e => by have := h.ltB hz; omega
  refine ⟨l ++ [(nm, v)], by unfold abs mapP; rw [List.map_append]; rfl, (h.k hkA).add ?_ h4 hV (fun e => hlt bm (.inl rfl) e.symm) (fun x hx' => hlt _ (.inr ⟨x, hx', rfl⟩)), ?_, ?_⟩
  · unfold mapP at h3 ⊢; rw [List.map_append]; exact h3
  · exact (hkA.all.trans h4).mono fun z _ hz e => hz (.inl e)
  · intro z hz
    rcases hz with hz | ⟨x, hx', hz⟩
    · exact .inl (.inl hz)
    · rcases List.mem_append.1 hx' with hx' | hx'
      · exact .inl (.inr ⟨x, hx', hz⟩)
      · rw [List.mem_singleton.1 hx'] at hz; exact .inr (by rw [hz]; exact hx)
theorem setA_new {l : ModL} {nm : List UInt8} (v : Vol) (h : lookP l nm = none) : setA (mapP ptrV l) nm (ptrV v) = mapP ptrV l ++ [(nm, ptrV v)] := by
  unfold setA; rw [getA_look, h]; rfl
theorem vl_Create (w : World) (mb bm : Nat) (l : ModL) (nm : List UInt8) (q : Int) (h : ModW w mb bm l) (hl : nm.length ≤ 2 ^ 40) : Ret Try.prog 21 [.pointer (some ⟨mb, 0, none⟩), strA nm, .int .i64 q].toArray w fun r w' => r = .int .i64 (creE (abs l) nm q) ∧ ∃ l', abs l' = creL (abs l) nm q ∧ ModS w mb bm l w' l' := by
  refine enter (fn := Try.f21) (n := 24) Try.func21 rfl rfl (by simp) ?_
  refine W_seq ?_
  refine W_region ?_
  refine o_asc rfl ?_
  refine ops_nil ?_
  refine W_seq ?_
  refine W_block ?_
  refine W_seq ?_
  refine W_region ?_
  refine o_mvt rfl ?_
  refine o_mvt rfl ?_
  refine op_call rfl rfl rfl (vl_may w nm q hl) ?_; rintro v1 w1 ⟨rfl, hk1⟩
  refine op_run (r_not rfl) rfl ?_
  refine o_ast rfl ?_
  refine ops_nil ?_
  refine W_cond rfl (fun h2 => ?_) (fun h2 => ?_)
  · refine W_seq ?_
    refine W_region ?_
    refine o_asc rfl ?_
    refine ops_nil ?_
    refine W_ret ?_
    refine ret1 (.int .i64 1) rfl ?_ ?_; rfl
    have hm : ¬ mayQ nm q := by simpa using h2
    have e : creE (abs l) nm q = 1 := if_pos hm
    rw [e]
    exact ⟨rfl, l, by unfold creL; rw [e, if_neg (by decide)], ModS.same h hk1⟩
  · refine W_seq ?_
    refine W_region ?_
    refine o_mvt rfl ?_
    refine o_mvt rfl ?_
    have hm : mayQ nm q := by simpa using h2
    refine op_call rfl rfl rfl (vl_has w1 mb bm l nm (h.k hk1)) ?_; rintro v4 w4 ⟨rfl, hk4⟩
    refine o_ast rfl ?_
    refine ops_nil ?_
    refine W_cond rfl (fun h5 => ?_) (fun h5 => ?_)
    · refine W_seq ?_
      refine W_region ?_
      refine o_asc rfl ?_
      refine ops_nil ?_
      refine W_ret ?_
      refine ret1 (.int .i64 6) rfl ?_ ?_; rfl
      have e : creE (abs l) nm q = 6 := by unfold creE; rw [if_neg (fun hn => hn hm), look_abs, Option.isSome_map, if_pos h5]
      rw [e]
      exact ⟨rfl, l, by unfold creL; rw [e, if_neg (by decide)], ModS.same h (hk1.trans hk4)⟩
    · refine W_skip ?_
      refine W_seq ?_
      refine W_region ?_
      refine o_mvt rfl ?_
      refine op_run (r_nilCheck rfl) rfl ?_
      refine op_run (r_fieldAddr rfl rfl rfl rfl rfl) rfl ?_
      have hno : lookP l nm = none := by
        cases hv : lookP l nm with
        | none => rfl
        | some v => rw [hv] at h5; cases h5
      have hkA := hk1.trans hk4
      refine op_run (r_load rfl rfl rfl ((h.k hkA).m.cell rfl)) rfl ?_
      refine o_mvt rfl ?_
      refine o_mvt rfl ?_
      refine o_makeMapG intK rfl ?_; intro w8 b8 e8 hM8 hk8 hs8
      refine op_run (r_build (volR q false (.map (some b8))) (_) ([(0, .int .i64 q), (2, .map (some b8))]) rfl rfl rfl rfl rfl (rfl)) rfl ?_
      refine o_mapUpdG (a := nm) (v := (ptrV ⟨q, false, [], b8⟩)) (keyOk_strA rfl) rfl rfl rfl rfl (((h.k (hkA.trans hk8)).vs)) rfl ?_; intro w10 hM10 hk10 hs10
      refine ops_nil ?_
      refine W_seq ?_
      refine W_region ?_
      refine o_asc rfl ?_
      refine ops_nil ?_
      refine W_ret ?_
      refine ret1 (.int .i64 0) rfl ?_ ?_; rfl
      have e : creE (abs l) nm q = 0 := by unfold creE; rw [if_neg (fun hn => hn hm), look_abs, Option.isSome_map, hno]; rfl
      rw [e]
      rw [setA_new _ hno] at hM10
      obtain ⟨l', ha, hS⟩ := add_fin (v := ⟨q, false, [], b8⟩) h (hkA.trans hk8) ⟨trivial, hM8⟩ (by show w.heap.size ≤ b8; have := hkA.size; omega) hM10 hk10
      exact ⟨rfl, l', by rw [ha]; unfold creL; rw [e, if_pos rfl]; rfl, hS⟩
def delE (l : AL) (nm : List UInt8) : Int := if (lookP l nm).isSome = true then 0 else 5
theorem del_abs (l : ModL) (nm : List UInt8) : abs (delP l nm) = delP (abs l) nm := by unfold abs; unfold delP mapP; rw [List.filter_map]; rfl
theorem vl_Delete (w : World) (mb bm : Nat) (l : ModL) (nm : List UInt8) (h : ModW w mb bm l) : Ret Try.prog 23 [.pointer (some ⟨mb, 0, none⟩), strA nm].toArray w fun r w' => r = .int .i64 (delE (abs l) nm) ∧ ∃ l', abs l' = delP (abs l) nm ∧ ModS w mb bm l w' l' := by
  refine enter (fn := Try.f23) (n := 14) Try.func23 rfl rfl (by simp) ?_
  refine W_seq ?_
  refine W_region ?_
  refine o_asc rfl ?_
  refine ops_nil ?_
  refine W_seq ?_
  refine W_seq ?_
  refine W_region ?_
  refine o_mvt rfl ?_
  refine o_mvt rfl ?_
  refine op_call rfl rfl rfl (vl_has w mb bm l nm h) ?_; rintro v1 w1 ⟨rfl, hk1⟩
  refine op_run (r_not rfl) rfl ?_
  refine ops_nil ?_
  refine W_cond rfl (fun h2 => ?_) (fun h2 => ?_)
  · refine W_seq ?_
    refine W_region ?_
    refine o_asc rfl ?_
    refine ops_nil ?_
    refine W_ret ?_
    refine ret1 (.int .i64 5) rfl ?_ ?_; rfl
    have hn : (lookP l nm).isSome = false := by simpa using h2
    have hno : lookP l nm = none := by
      cases hv : lookP l nm with
      | none => rfl
      | some v => rw [hv] at hn; cases hn
    have e : delE (abs l) nm = 5 := by unfold delE; rw [look_abs, Option.isSome_map, hn]; rfl
    rw [e]
    exact ⟨rfl, l, by rw [delP_none (lookP_none (by rw [look_abs, hno]; rfl))], ModS.same h hk1⟩
  · refine W_skip ?_
    refine W_seq ?_
    refine W_region ?_
    refine o_mvt rfl ?_
    refine op_run (r_nilCheck rfl) rfl ?_
    refine op_run (r_fieldAddr rfl rfl rfl rfl rfl) rfl ?_
    refine op_run (r_load rfl rfl rfl ((h.k hk1).m.cell rfl)) rfl ?_
    refine o_mvt rfl ?_
    refine o_mapDelG (a := nm) (keyOk_strA rfl) rfl rfl rfl ((h.k hk1).vs) rfl ?_; intro w5 hM5 hk5 hs5
    refine ops_nil ?_
    refine W_seq ?_
    refine W_region ?_
    refine o_asc rfl ?_
    refine ops_nil ?_
    refine W_ret ?_
    refine ret1 (.int .i64 0) rfl ?_ ?_; rfl
    have hn : (lookP l nm).isSome = true := by simpa using h2
    have e : delE (abs l) nm = 0 := by unfold delE; rw [look_abs, Option.isSome_map, hn]; rfl
    rw [e]
    rw [delP_map] at hM5
    refine ⟨rfl, delP l nm, del_abs l nm, (h.k hk1).del hM5 hk5, (hk1.all.trans hk5).mono fun z _ hz e => hz (.inl e), fun z hz => .inl ?_⟩
    rcases hz with hz | ⟨x, hx, hz⟩
    · exact .inl hz
    · exact .inr ⟨x, (List.mem_filter.1 hx).1, hz⟩
end Go.Proofs.Ytkmciohghhffnaa.B
