/-
  Operations of a store; an operation's event.
-/
import Derived.Test.YtkckphbdjkjfgaaStrB
import Derived.Test.YtkckphbdjkjfgaaMapG
import Derived.Test.YtkckphbdjkjfgaaGrid
import Derived.Test.YtkckphbdjkjfgaaBsR
import Derived.Test.YtkckphbdjkjfgaaPackN
import Derived.Test.YtkckphbdjkjfgaaU64
namespace Go.Proofs.Ytkckphbdjkjfgaa.B
open Go
set_option linter.unusedVariables false
set_option maxHeartbeats 2000000
set_option maxRecDepth 100000
attribute [local irreducible] W OpsW OpsQ retP
abbrev Bk := { l : List UInt8 // l.length = 48 }
def Bk.zero : Bk := ⟨List.replicate 48 0, by simp⟩
def blkR (s : Bk) : List Value := s.val.map c8
theorem blkR_len (s : Bk) : (blkR s).length = 48 := by rw [blkR, List.length_map]; exact s.2
theorem blkR_inj {a b : Bk} : blkR a = blkR b ↔ a = b := ⟨fun h => Subtype.ext (c8_inj.1 h), fun h => by rw [h]⟩
theorem blkR_zero : blkR Bk.zero = List.replicate 48 (c8 0) := by unfold blkR Bk.zero; rw [List.map_replicate]
theorem okC_bk (s : Bk) : okC Try.prog 2 24 (blkR s) := okC_bytes rfl rfl rfl s.val s.2
theorem ti_bk : tinfo Try.prog 24 = some (some (.agg (List.replicate 48 (c8 0)).toArray), 48, 48) := by kernel_rfl
/-- A string of bytes. -/
def strA (bs : List UInt8) : Value := .string ⟨bs.toArray⟩
theorem strA_inj {a b : List UInt8} (h : strA a = strA b) : a = b := by
  have h : Value.string (ByteArray.mk a.toArray) = Value.string (ByteArray.mk b.toArray) := h
  injection h with h; injection h with h
  have := congrArg Array.toList h
  simpa using this
theorem keyOk_strA {P : Program} {kt : TypeId} (hd : P.underlying kt = some .string) : KeyOk P kt strA := keyOk_plain hd (fun _ => trivial) (fun a b e => strA_inj e) (fun a => by
  show Instr.sameBits (9999 + 1) (.string _) (.string _) = true
  unfold Instr.sameBits; exact (MapKept.bytes_beq _ _).2 rfl)
/-- An operation. -/
structure OpV where
  kind : Int
  name : List UInt8
  other : List UInt8
  number : Int
  quota : Int
  block : Bk
def opR (o : OpV) : List Value := [.int .i64 o.kind, strA o.name, strA o.other, .int .i64 o.number, .int .i64 o.quota] ++ blkR o.block
theorem opR_len (o : OpV) : (opR o).length = 53 := by unfold opR; rw [List.length_append, blkR_len]; rfl
theorem opR_blk (o : OpV) {j : Nat} {u : Value} (h : (blkR o.block)[j]? = some u) : (opR o)[5 + j]? = some u := by
  unfold opR
  rw [List.getElem?_append_right (by show 5 ≤ 5 + j; omega)]
  show (blkR o.block)[5 + j - 5]? = _
  rw [Nat.add_sub_cancel_left]; exact h
def OpV.small (o : OpV) : Prop := o.name.length ≤ 100 ∧ o.other.length ≤ 100
def numsE (o : OpV) : List Int := [o.kind, o.number, o.quota]
def encE (o : OpV) (k : Nat) : List UInt8 := ((numsE o).take k).flatMap fun z => encN (u64 z)
theorem encE_s {o : OpV} {k : Nat} {z : Int} (h : (numsE o)[k]? = some z) : encE o (k + 1) = encE o k ++ encN (u64 z) := by
  obtain ⟨h1, h2⟩ := List.getElem?_eq_some_iff.1 h
  unfold encE; rw [List.take_succ_eq_append_getElem h1, List.flatMap_append, h2]; simp
theorem encE_len (o : OpV) (k : Nat) : (encE o k).length ≤ 30 := by
  have h1 := encN_len10 (u64_lt o.kind)
  have h2 := encN_len10 (u64_lt o.number)
  have h3 := encN_len10 (u64_lt o.quota)
  unfold encE numsE
  match k with
  | 0 => simp
  | 1 => simp; omega
  | 2 => simp; omega
  | k + 3 => simp; omega
/-- An operation's event. -/
def headE (o : OpV) : List UInt8 := (encE o 3 ++ encB o.name) ++ encB o.other
def eventB (o : OpV) : List UInt8 := headE o ++ if o.kind = 3 then o.block.val else []
theorem md_Event (w : World) (o : OpV) (hs : o.small) : Ret Try.prog 17 [.agg (opR o).toArray].toArray w fun r w' => OwnB w' 5 r (eventB o) ∧ InB (fun z => w.heap.size ≤ z) r ∧ Keep All w w' := by
  have hn1 := hs.1
  have hn2 := hs.2
  have hb1 := encB_len o.name (by omega)
  have hb2 := encB_len o.other (by omega)
  have hbl := o.block.2
  refine enter (fn := Try.f17) (n := 38) Try.func17 rfl rfl (by simp) ?_
  refine W_seq ?_
  refine W_region ?_
  refine o_box rfl rfl rfl ?_; intro w1 b1 e1 hB1 hk1 hs1
  have hB1 : Blk w1 b1 (opR o) 26 := hB1
  refine o_asc rfl ?_
  refine ops_nil ?_
  refine W_seq ?_
  refine W_region ?_
  refine o_asc rfl ?_
  refine ops_nil ?_
  refine W_seq ?_
  refine W_seq ?_
  refine W_region ?_
  refine op_run (r_fieldAddr rfl rfl rfl rfl rfl) rfl ?_
  refine op_run (r_load rfl rfl rfl (hB1.cell rfl)) rfl ?_
  refine op_run (r_fieldAddr rfl rfl rfl rfl rfl) rfl ?_
  refine op_run (r_load rfl rfl rfl (hB1.cell rfl)) rfl ?_
  refine op_run (r_fieldAddr rfl rfl rfl rfl rfl) rfl ?_
  refine op_run (r_load rfl rfl rfl (hB1.cell rfl)) rfl ?_
  refine op_run (r_buildA ([.int .i64 o.kind, .int .i64 o.number, .int .i64 o.quota]) (_) ([(0, .int .i64 o.kind), (1, .int .i64 o.number), (2, .int .i64 o.quota)]) rfl rfl rfl rfl rfl (rfl)) rfl ?_
  refine o_mvc rfl ?_
  refine ops_nil ?_
  refine W_block ?_
  refine W_loop [3, 13] [3, 5, 13, 14, 15, 16, 17, 18, 19, 20] (fun vs w' => ∃ (u : Value) (k : Nat), vs = [u, .int .i64 k] ∧ k ≤ 3 ∧ OwnB w' 5 u (encE o k) ∧ InB (fun z => w1.heap.size ≤ z) u ∧ Keep All w1 w') (fun vs _ => match vs with | [_, .int _ y] => 3 - y.toNat | _ => 0) ⟨.slice none 0 0, 0, rfl, Nat.zero_le _, own_nil _ _ _, InB.nil, Keep.refl _⟩ ?_
  rintro J6 vs w6 ⟨u, k, rfl, hk, hO6, hin6, hk16⟩ -
  refine W_seq ?_
  refine W_region ?_
  refine op_run (r_lss rfl rfl) rfl ?_
  refine ops_nil ?_
  refine W_seq ?_
  refine W_cond_p rfl (fun h7 => ?_) (fun h7 => ?_)
  · refine W_skip ?_
    refine W_seq ?_
    refine W_block ?_
    refine W_seq ?_
    refine W_region ?_
    have hk3 : k < 3 := by omega
    obtain ⟨z, hz⟩ : ∃ z, (numsE o)[k]? = some z := ⟨_, List.getElem?_eq_getElem (show k < 3 from hk3)⟩
    have hzv : [Value.int .i64 o.kind, .int .i64 o.number, .int .i64 o.quota][k]? = some (.int .i64 z) := by
      have h : ((numsE o).map (Value.int .i64))[k]? = some (.int .i64 z) := by rw [List.getElem?_map, hz]; rfl
      exact h
    have hpl := encE_len o k
    have hz6 := hk16.size
    refine op_run (r_index1 rfl rfl rfl rfl rfl rfl (by omega) (by omega) ((by rw [Int.toNat_natCast]; exact hzv))) rfl ?_
    refine o_ast rfl ?_
    refine ops_nil ?_
    refine W_region ?_
    refine o_mvt rfl ?_
    refine o_mvt rfl ?_
    refine op_run ((r_conv rfl rfl rfl).val (conv_u64 z)) rfl ?_
    refine op_call rfl rfl rfl (pack_Number w6 u (encE o k) (u64 z) (u64_lt _) hO6 (by omega)) ?_; rintro v9 w9 ⟨hO9, hk9, hin9⟩
    refine o_ast rfl ?_
    refine ops_nil ?_
    refine W_region ?_
    refine op_run (r_add rfl rfl) rfl ?_
    refine o_mvt rfl ?_
    refine ops_nil ?_
    have hinc := inc64' k (by omega)
    refine ⟨by (repeat (first | with_reducible exact offM_refl _ _ | refine offM_updc rfl ?_ | refine offM_upd rfl ?_ | refine offM_updo rfl ?_ | refine offM_updo_none ?_ | refine offM_head rfl rfl ?_)), ⟨v9, k + 1, congrArg (fun z : Int => [v9, Value.int .i64 z]) hinc, by omega, by rw [encE_s hz]; exact hO9, fun y hy => ?_, hk16.own hk9 (fun y hy _ => hin6 y hy)⟩, ?_⟩
    · rcases hin9 y hy with h | h
      · exact hin6 y h
      · omega
    · show 3 - (IntKind.i64.wrap ((k : Int) + 1)).toNat < 3 - (k : Int).toNat
      rw [hinc]; omega
  · refine W_exit ?_
    have hke : k = 3 := by omega
    subst hke
    have hpl := encE_len o 3
    have hz6 := hk16.size
    have hlt6 : ∀ z, u.ownBlock = some z → z < w6.heap.size := fun z hz => hO6.lt z hz
    refine W_cut [3] [3, 21, 22, 23, 24, 25, 26, 27, 28, 29] (fun vs w11 => ∃ v, vs = [v] ∧ OwnB w11 5 v (headE o) ∧ InB (fun z => w1.heap.size ≤ z) v ∧ Keep All w1 w11) ?_ ?_
    · refine W_held (fun w' => Keep All w1 w') (by kernel_rfl) (hk16.trans (Keep.drawn w6)) (fun hS => ?_)
      refine any_mvt 0 rfl (by kernel_rfl) (by kernel_rfl) (by kernel_rfl) rfl hS ?_
      refine any_run 1 (fun w' hS' => (r_fieldAddr rfl rfl rfl rfl rfl)) rfl (by kernel_rfl) (by kernel_rfl) (by kernel_rfl) rfl hS ?_
      refine any_run 2 (fun w' hS' => (r_load rfl rfl rfl (((hS'.blk' hB1 trivial).cell rfl)))) rfl (by kernel_rfl) (by kernel_rfl) (by kernel_rfl) rfl hS ?_
      refine any_run 5 (fun w' hS' => (r_fieldAddr rfl rfl rfl rfl rfl)) rfl (by kernel_rfl) (by kernel_rfl) (by kernel_rfl) rfl hS ?_
      refine any_run 6 (fun w' hS' => (r_load rfl rfl rfl (((hS'.blk' hB1 trivial).cell rfl)))) rfl (by kernel_rfl) (by kernel_rfl) (by kernel_rfl) rfl hS ?_
      refine any_two 3 7 (by kernel_rfl) (one_of rfl ?_) (one_of rfl ?_)
      · refine o_strB rfl rfl rfl rfl (by unfold maxLen; omega) rfl ?_; intro w15 b15 c15 hby15 e15 hk15 hs15
        have e15L : w6.heap.size ≤ b15 := Nat.le_of_eq e15.symm
        refine ops_nil ⟨hS.trans hk15, fun hS => ?_⟩
        refine any_two 4 7 (by kernel_rfl) (one_of rfl ?_) (one_of rfl ?_)
        · refine op_call rfl rfl rfl (pack_Bytes w15 u (.slice (some ⟨b15, 0, none⟩) o.name.length c15) (encE o 3) o.name (Own.keep (Own.keep hO6 (Keep.drawn w6) (fun _ _ => trivial)) hk15 (fun _ _ => trivial)) (fun w' hk => Sl.keep hby15 hk (fun z hz e => by have hz : some b15 = some z := hz; injection hz with hz; subst hz; have eb := e15L; have := hlt6 b15 e.symm; omega)) (by omega)) ?_; rintro v17 w17 ⟨hO17, hk17, hin17⟩
          have hkw17 : Keep All w1 w17 := hS.own hk17 (fun z hz _ => hin6 z hz)
          have hi17 : InB (fun z => w1.heap.size ≤ z) v17 := hin17.mono fun z hz => by
            rcases hz with h | h
            · exact hin6 z h
            · have := hS.size; omega
          refine ops_nil ⟨hkw17, fun hS => ?_⟩
          refine any_one 7 (by kernel_rfl) (one_of rfl ?_)
          refine o_strB rfl rfl rfl rfl (by unfold maxLen; omega) rfl ?_; intro w19 b19 c19 hby19 e19 hk19 hs19
          refine ops_nil ⟨hS.trans hk19, fun hS => ?_⟩
          refine any_one 8 (by kernel_rfl) (one_of rfl ?_)
          refine op_call rfl rfl rfl (pack_Bytes w19 v17 (.slice (some ⟨b19, 0, none⟩) o.other.length c19) (encE o 3 ++ encB o.name) o.other (hO17.keep hk19 (fun _ _ => trivial)) (fun w' hk => Sl.keep hby19 hk (fun z hz e => by have hz : some b19 = some z := hz; injection hz with hz; subst hz; have := hO17.lt b19 e.symm; omega)) (by rw [List.length_append]; omega)) ?_; rintro v21 w21 ⟨hO21, hk21, hin21⟩
          have hkw21 : Keep All w1 w21 := hS.own hk21 (fun z hz _ => hi17 z hz)
          have hi21 : InB (fun z => w1.heap.size ≤ z) v21 := hin21.mono fun z hz => by
            rcases hz with h | h
            · exact hi17 z h
            · have := hS.size; omega
          refine ops_nil ⟨hkw21, fun hS => ?_⟩
          refine any_ast 9 rfl (by kernel_rfl) (by kernel_rfl) (by kernel_rfl) rfl hS ?_
          refine any_done (by kernel_rfl) ?_
          exact ⟨by (repeat (first | with_reducible exact offM_refl _ _ | refine offM_updc rfl ?_ | refine offM_upd rfl ?_ | refine offM_updo rfl ?_ | refine offM_updo_none ?_ | refine offM_head rfl rfl ?_)), v21, rfl, hO21, hi21, hS⟩
        · refine o_strB rfl rfl rfl rfl (by unfold maxLen; omega) rfl ?_; intro w24 b24 c24 hby24 e24 hk24 hs24
          have e24L : w6.heap.size ≤ b24 := by omega
          refine ops_nil ⟨hS.trans hk24, fun hS => ?_⟩
          refine any_one 4 (by kernel_rfl) (one_of rfl ?_)
          refine op_call rfl rfl rfl (pack_Bytes w24 u (.slice (some ⟨b15, 0, none⟩) o.name.length c15) (encE o 3) o.name (Own.keep (Own.keep (Own.keep hO6 (Keep.drawn w6) (fun _ _ => trivial)) hk15 (fun _ _ => trivial)) hk24 (fun _ _ => trivial)) (fun w' hk => Sl.keep (Sl.keep hby15 hk24 (fun _ _ => trivial)) hk (fun z hz e => by have hz : some b15 = some z := hz; injection hz with hz; subst hz; have eb := e15L; have := hlt6 b15 e.symm; omega)) (by omega)) ?_; rintro v26 w26 ⟨hO26, hk26, hin26⟩
          have hkw26 : Keep All w1 w26 := hS.own hk26 (fun z hz _ => hin6 z hz)
          have hi26 : InB (fun z => w1.heap.size ≤ z) v26 := hin26.mono fun z hz => by
            rcases hz with h | h
            · exact hin6 z h
            · have := hS.size; omega
          have hne26 : ∀ z, v26.ownBlock = some z → z ≠ b24 := fun z hz e => by
            rw [e] at hz
            have eb := e24L
            rcases hin26 b24 hz with h | h
            · have := hlt6 b24 h; omega
            · omega
          refine ops_nil ⟨hkw26, fun hS => ?_⟩
          refine any_one 8 (by kernel_rfl) (one_of rfl ?_)
          refine op_call rfl rfl rfl (pack_Bytes w26 v26 (.slice (some ⟨b24, 0, none⟩) o.other.length c24) (encE o 3 ++ encB o.name) o.other hO26 (fun w' hk => Sl.keep (Sl.keep hby24 hk26 (fun z hz e => by have hz : some b24 = some z := hz; injection hz with hz; subst hz; have eb := e24L; have := hlt6 b24 e.symm; omega)) hk (fun z hz e => by have hz : some b24 = some z := hz; injection hz with hz; subst hz; exact hne26 b24 e.symm rfl)) (by rw [List.length_append]; omega)) ?_; rintro v28 w28 ⟨hO28, hk28, hin28⟩
          have hkw28 : Keep All w1 w28 := hS.own hk28 (fun z hz _ => hi26 z hz)
          have hi28 : InB (fun z => w1.heap.size ≤ z) v28 := hin28.mono fun z hz => by
            rcases hz with h | h
            · exact hi26 z h
            · have := hS.size; omega
          refine ops_nil ⟨hkw28, fun hS => ?_⟩
          refine any_ast 9 rfl (by kernel_rfl) (by kernel_rfl) (by kernel_rfl) rfl hS ?_
          refine any_done (by kernel_rfl) ?_
          exact ⟨by (repeat (first | with_reducible exact offM_refl _ _ | refine offM_updc rfl ?_ | refine offM_upd rfl ?_ | refine offM_updo rfl ?_ | refine offM_updo_none ?_ | refine offM_head rfl rfl ?_)), v28, rfl, hO28, hi28, hS⟩
      · refine o_strB rfl rfl rfl rfl (by unfold maxLen; omega) rfl ?_; intro w31 b31 c31 hby31 e31 hk31 hs31
        have e31L : w6.heap.size ≤ b31 := Nat.le_of_eq e31.symm
        refine ops_nil ⟨hS.trans hk31, fun hS => ?_⟩
        refine any_one 3 (by kernel_rfl) (one_of rfl ?_)
        refine o_strB rfl rfl rfl rfl (by unfold maxLen; omega) rfl ?_; intro w33 b33 c33 hby33 e33 hk33 hs33
        have e33L : w6.heap.size ≤ b33 := by omega
        refine ops_nil ⟨hS.trans hk33, fun hS => ?_⟩
        refine any_one 4 (by kernel_rfl) (one_of rfl ?_)
        refine op_call rfl rfl rfl (pack_Bytes w33 u (.slice (some ⟨b33, 0, none⟩) o.name.length c33) (encE o 3) o.name (Own.keep (Own.keep (Own.keep hO6 (Keep.drawn w6) (fun _ _ => trivial)) hk31 (fun _ _ => trivial)) hk33 (fun _ _ => trivial)) (fun w' hk => Sl.keep hby33 hk (fun z hz e => by have hz : some b33 = some z := hz; injection hz with hz; subst hz; have eb := e33L; have := hlt6 b33 e.symm; omega)) (by omega)) ?_; rintro v35 w35 ⟨hO35, hk35, hin35⟩
        have hkw35 : Keep All w1 w35 := hS.own hk35 (fun z hz _ => hin6 z hz)
        have hi35 : InB (fun z => w1.heap.size ≤ z) v35 := hin35.mono fun z hz => by
          rcases hz with h | h
          · exact hin6 z h
          · have := hS.size; omega
        have hne35 : ∀ z, v35.ownBlock = some z → z ≠ b31 := fun z hz e => by
          rw [e] at hz
          have eb := e31L
          rcases hin35 b31 hz with h | h
          · have := hlt6 b31 h; omega
          · omega
        refine ops_nil ⟨hkw35, fun hS => ?_⟩
        refine any_one 8 (by kernel_rfl) (one_of rfl ?_)
        refine op_call rfl rfl rfl (pack_Bytes w35 v35 (.slice (some ⟨b31, 0, none⟩) o.other.length c31) (encE o 3 ++ encB o.name) o.other hO35 (fun w' hk => Sl.keep (Sl.keep (Sl.keep hby31 hk33 (fun _ _ => trivial)) hk35 (fun z hz e => by have hz : some b31 = some z := hz; injection hz with hz; subst hz; have eb := e31L; have := hlt6 b31 e.symm; omega)) hk (fun z hz e => by have hz : some b31 = some z := hz; injection hz with hz; subst hz; exact hne35 b31 e.symm rfl)) (by rw [List.length_append]; omega)) ?_; rintro v37 w37 ⟨hO37, hk37, hin37⟩
        have hkw37 : Keep All w1 w37 := hS.own hk37 (fun z hz _ => hi35 z hz)
        have hi37 : InB (fun z => w1.heap.size ≤ z) v37 := hin37.mono fun z hz => by
          rcases hz with h | h
          · exact hi35 z h
          · have := hS.size; omega
        refine ops_nil ⟨hkw37, fun hS => ?_⟩
        refine any_ast 9 rfl (by kernel_rfl) (by kernel_rfl) (by kernel_rfl) rfl hS ?_
        refine any_done (by kernel_rfl) ?_
        exact ⟨by (repeat (first | with_reducible exact offM_refl _ _ | refine offM_updc rfl ?_ | refine offM_upd rfl ?_ | refine offM_updo rfl ?_ | refine offM_updo_none ?_ | refine offM_head rfl rfl ?_)), v37, rfl, hO37, hi37, hS⟩
    · rintro J40 vs w40 ⟨v40, rfl, hO40, hi40, hk40⟩ -
      have hB40 := hk40.blk' hB1 trivial
      have hhl : (headE o).length ≤ 250 := by unfold headE; rw [List.length_append, List.length_append]; omega
      have hbb : By w40 (.slice (some ⟨b1, 0 + 5, none⟩) 48 48) o.block.val := by
        have := By.of_at (w := w40) (b := b1) (off := 5) (c := 48) (bs := o.block.val) (fun j u hj => hB40.cell (opR_blk o hj)) (by omega) (by unfold maxLen; omega)
        rwa [hbl] at this
      refine W_seq ?_
      refine W_seq ?_
      refine W_region ?_
      refine op_run (r_fieldAddr rfl rfl rfl rfl rfl) rfl ?_
      refine op_run (r_load rfl rfl rfl (hB40.cell rfl)) rfl ?_
      refine op_run (r_eql rfl rfl) rfl ?_
      refine ops_nil ?_
      refine W_cond_p rfl (fun h42 => ?_) (fun h42 => ?_)
      · refine W_region ?_
        refine o_mvt rfl ?_
        refine op_run (r_fieldAddr rfl rfl rfl rfl rfl) rfl ?_
        refine op_run (r_sliceA rfl rfl rfl) rfl ?_
        refine o_appS (v := v40) rfl rfl hbb rfl ti_u8 rfl rfl hO40 (all_c8 _) (by unfold maxLen; omega) (by omega) rfl ?_; intro v43 w43 hown43 hk43 hb43
        have hO43 : OwnB w43 5 v43 (eventB o) := by unfold eventB; rw [if_pos h42]; exact OwnB.app hown43
        have hz1 := hk1.size
        refine o_ast rfl ?_
        refine ops_nil ?_
        refine W_seq ?_
        refine W_region ?_
        refine o_mvt rfl ?_
        refine o_ast rfl ?_
        refine ops_nil ?_
        refine W_ret ?_
        refine ret1 v43 rfl ?_ ?_; rfl
        refine ⟨hO43, fun z hz => ?_, hk1.trans (hk40.own hk43 (fun z hz _ => hi40 z hz))⟩
        rcases hb43 z hz with h | h
        · have := hi40 z h; omega
        · have := hk40.size; omega
      · refine W_skip ?_
        refine W_seq ?_
        refine W_region ?_
        refine o_mvt rfl ?_
        refine o_ast rfl ?_
        refine ops_nil ?_
        refine W_ret ?_
        refine ret1 v40 rfl ?_ ?_; rfl
        refine ⟨?_, hi40.mono fun z hz => Nat.le_trans hk1.size hz, hk1.trans hk40⟩
        have e : eventB o = headE o := by unfold eventB; rw [if_neg h42, List.append_nil]
        rw [e]; exact hO40
end Go.Proofs.Ytkckphbdjkjfgaa.B
