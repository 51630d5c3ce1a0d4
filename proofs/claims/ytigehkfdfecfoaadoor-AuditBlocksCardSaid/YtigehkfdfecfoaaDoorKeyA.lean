/-
  The key of a volume's block; a string's bytes.
-/
import Derived.Test.YtigehkfdfecfoaaDoorProof1
import Derived.Lib.ConvBytes
namespace Go.Proofs.YtigehkfdfecfoaaDoor.B
open Go
set_option linter.unusedVariables false
set_option maxHeartbeats 2000000
set_option maxRecDepth 100000
attribute [local irreducible] W OpsW OpsQ retP
section
variable {f0 : Bool} {c0 : Ctx} {P : Program} {n : Nat} {ops : Array Oper} {F : Fr} {w : World} {K : Fr → World → Prop} {rest : List Oper} {dst : Option Tmp} {ty : TypeId} {pos : String} {after : Array Edge} {g : Option (Nat × Bool)}
theorem bytesWorld_keep (w : World) (e : TypeId) (s : ByteArray) : Keep All w (Lib.bytesWorld w e s) := by
  have hf : (Lib.bytesWorld w e s).os = w.os ∧ (Lib.bytesWorld w e s).tape = w.tape ∧ (Lib.bytesWorld w e s).output = w.output := by
    unfold Lib.bytesWorld World.freeze
    split <;> exact ⟨rfl, rfl, rfl⟩
  exact ⟨hf.1, hf.2.1, hf.2.2, by rw [Lib.bytesWorld_size]; omega, fun k hk _ => Lib.bytesWorld_at_old w e s k hk⟩
/-- A string's bytes, as a new row. -/
theorem o_strB {s t e : TypeId} {x : Operand} {u : TypeDesc} {bs : List UInt8} (hx : ev F x = .string ⟨bs.toArray⟩) (hs : P.underlying s = some u) (ht : P.underlying t = some (.slice e)) (he : P.underlying e = some (.int .u8)) (hl : bs.length ≤ maxLen)
    (hg : wantedF ops F ⟨dst, .convert s t x, ty, pos, after, g⟩ = true)
    (h : ∀ w' b c, By w' (.slice (some ⟨b, 0, none⟩) bs.length c) bs → b = w.heap.size → Keep All w w' → w'.heap.size = b + 1 → OpsW f0 c0 P n ops rest (updo n F dst (.slice (some ⟨b, 0, none⟩) bs.length c)) w' K) :
    OpsW f0 c0 P n ops (⟨dst, .convert s t x, ty, pos, after, g⟩ :: rest) F w K := by
  have hsz : (⟨bs.toArray⟩ : ByteArray).size = bs.length := by show bs.toArray.size = _; simp
  have hge := grownCap_ge w bs.length 0 e
  have hle := grownCap_le_maxLen w bs.length 0 e hl
  have hby : By (Lib.bytesWorld w e ⟨bs.toArray⟩) (.slice (some ⟨w.heap.size, 0, none⟩) bs.length (grownCap w bs.length 0 e)) bs := by
    refine ⟨some ⟨w.heap.size, 0, none⟩, _, rfl, hge, hle, by rw [List.length_map, Nat.mul_one], (fun h => by cases h), fun x hx i v hi => ?_⟩
    injection hx with hx
    subst hx
    refine ⟨rfl, ?_⟩
    have hi' := (List.getElem?_eq_some_iff.1 hi).1
    rw [List.length_map] at hi'
    rw [List.getElem?_map, List.getElem?_eq_getElem hi'] at hi
    injection hi with hi
    subst hi
    rw [Nat.zero_add, Lib.bytesWorld_cell w e ⟨bs.toArray⟩ i (by rw [hsz]; exact hi')]
    show some (Value.int .u8 ((bs.getD i 0).toNat : Int)) = _
    rw [List.getD_eq_getElem?_getD, List.getElem?_eq_getElem hi']
    rfl
  refine op_run0 (v := .slice (some ⟨w.heap.size, 0, none⟩) bs.length (grownCap w bs.length 0 e)) (w' := Lib.bytesWorld w e ⟨bs.toArray⟩) ?_ hg (h _ _ _ hby rfl (bytesWorld_keep w e _) (Lib.bytesWorld_size w e _))
  have hr := Lib.run_convert_string_bytes (P := P) w s t e ⟨bs.toArray⟩ hs ht he
  rw [hsz] at hr
  unfold Run1; simp [execOp, hx, hr]
/-- An array or struct that lies in memory, and two values. -/
theorem retATT {fn : Func} {S : Value → World → Prop} {t u u2 : Tmp} {ty : TypeId} {d : TypeDesc} {a : Addr} {z : Option Value} {by_ : Nat} (cs : List Value) (v2 v3 : Value) (h : fn.results = #[.cell t ty, .tmp u, .tmp u2]) (ha : F t = .pointer (some a)) (hv2 : F u = v2) (hv3 : F u2 = v3) (ht : P.underlying ty = some d) (hd : aggD d = true)
    (hi : tinfo P ty = some (z, cs.length, by_)) (hc : ∀ (j : Nat) (v : Value), cs[j]? = some v → w.cell? (a.add j) = some v) (hS : S (.tuple #[.agg cs.toArray, v2, v3]) w) : retP P fn S .ret F w := by
  unfold retP
  exact ⟨_, fun tmps htm => by
    have h1 : tmps.getD t undef = .pointer (some a) := by rw [htm, ha]
    have h2 : tmps.getD u undef = v2 := by rw [htm, hv2]
    have h3 : tmps.getD u2 undef = v3 := by rw [htm, hv3]
    simp only [Array.getD_eq_getD_getElem?] at h1 h2 h3
    simp [results, h, h1, h2, h3, asAddr, loadVar, run_isAgg ht, hd, run_sizeOf_t hi, run_loadCells_list w a cs hc], hS⟩
end
/-- The key of a volume's block. -/
def keyD (name : List UInt8) (number : Int) : Dig := tagD 7 [name, encN (u64 number)]
theorem rowsV_two {w : World} {b : Nat} {e : TypeId} {v1 v2 : Value} {x1 x2 : List UInt8} (hB : Blk w b [v1, v2] e) (h1 : By w v1 x1) (h2 : By w v2 x2) : SlR w (.slice (some ⟨b, 0, none⟩) 2 2) 1 (RowB w) [x1, x2] := by
  have h : RowsV w (.slice (some ⟨b, 0, none⟩) 2 2) [v1, v2] [x1, x2] := ⟨rfl, (Own.blk (n := 2) (sz := 1) hB rfl (by unfold maxLen; omega)).sl, fun i u x hu hx => by
    match i, hu, hx with
    | 0, hu, hx => injection hu with hu; injection hx with hx; subst hu; subst hx; exact h1
    | 1, hu, hx => injection hu with hu; injection hx with hx; subst hu; subst hx; exact h2⟩
  exact h.slR
theorem tag_key (name : List UInt8) (number : Int) (h : name.length ≤ 300) : (tagB 7 [name, encN (u64 number)]).length ≤ 1000000 := by
  have h2 := encN_len10 (u64_lt number)
  exact Nat.le_trans (tagB_len (n := 300) (m := 2) (fun q hq => by
    rcases List.mem_cons.1 hq with rfl | hq
    · exact h
    · obtain rfl := List.mem_singleton.1 hq; omega) (by decide) (Nat.le_refl _)) (by decide)
theorem vol_Key (w : World) (name : List UInt8) (number : Int) (hn : name.length ≤ 300) : Ret Tryd.prog 12 [.string ⟨name.toArray⟩, .int .i64 number].toArray w fun r w' => r = .agg (dgR (keyD name number)).toArray ∧ Keep All w w' := by
  refine enter (fn := Tryd.f12) (n := 12) Tryd.func12 rfl rfl (by simp) ?_
  refine W_seq ?_
  refine W_region ?_
  refine o_alloc rfl rfl rfl ?_; intro w1 b1 e1 hB1 hk1 hs1
  refine ops_nil ?_
  refine W_seq ?_
  refine W_region ?_
  refine o_mvt rfl ?_
  refine o_strB rfl rfl rfl rfl (by unfold maxLen; omega) rfl ?_; intro w2 b2 c2 hby2 e2 hk2 hs2
  refine o_mvt rfl ?_
  refine op_run ((r_conv rfl rfl rfl).val (conv_u64 number)) rfl ?_
  refine op_call rfl rfl rfl (pack_Number w2 _ [] (u64 number) (u64_lt _) (own_nil _ _ _) (by decide)) ?_; rintro v3 w3 ⟨hown3, hk3, hb3⟩
  have hk3A : Keep All w2 w3 := hk3.mono fun z _ _ h => by cases h
  obtain ⟨a3, c3, e3_, _, _⟩ := hown3.form
  subst e3_
  refine o_bsL ([.slice (some ⟨b2, 0, none⟩) name.length c2, .slice a3 (encN (u64 number)).length c3]) rfl rfl rfl rfl rfl rfl rfl rfl rfl ?_; intro w4 b4 e4 hB4 hk4 hs4
  refine op_call rfl rfl rfl (sh_TagD _ _ 7 [name, encN (u64 number)] (rowsV_two hB4 ((Sl.k hby2 hk3A).k hk4) (Sl.k (OwnB.by_ hown3) hk4)) (tag_key name number hn)) ?_; rintro v5 w5 ⟨rfl, hk5⟩
  have hk15 := hk2.trans (hk3A.trans (hk4.trans hk5))
  refine o_storeA (cs := dgR (keyD name number)) rfl rfl (by first | rfl | exact binV_one _ | exact dgR_one _ | exact refR_one _ | exact secR_one _ | exact all_c8 _) (by first | rfl | (rw [binV_len]; rfl) | (rw [dgR_len]; rfl) | (rw [refR_len]; rfl) | (rw [secR_len]; rfl) | (rw [List.length_map, tagF_len]; rfl)) (hk15.blk' hB1 trivial) (by exact Nat.le_of_eq (by simp [dgR_len])) rfl ?_; intro w6 hB6 hk6 hs6
  have hB6 : Blk w6 b1 (dgR (keyD name number)) 28 := by
    have h := hB6
    rwa [splice_all (by simp [dgR_len])] at h
  refine ops_nil ?_
  refine W_ret ?_
  refine retA (dgR (keyD name number)) rfl rfl rfl rfl (by first | rfl | (rw [binV_len]; rfl) | (rw [dgR_len]; rfl) | (rw [refR_len]; rfl) | (rw [secR_len]; rfl) | (rw [List.length_map, tagF_len]; rfl)) hB6.all ?_
  exact ⟨rfl, (hk1.trans hk15).new hk6 (by omega)⟩
theorem rf12_Key (w : World) (name : List UInt8) (number : Int) (hn : name.length ≤ 300) : Ret Tryd.prog 8 [.string ⟨name.toArray⟩, .int .i64 number].toArray w fun r w' => r = .agg (dgR (keyD name number)).toArray ∧ Keep All w w' := by
  refine enter (fn := Tryd.f8) (n := 13) Tryd.func8 rfl rfl (by simp) ?_
  refine W_seq ?_
  refine W_region ?_
  refine o_alloc rfl rfl rfl ?_; intro w1 b1 e1 hB1 hk1 hs1
  refine ops_nil ?_
  refine W_seq ?_
  refine W_region ?_
  refine o_mvt rfl ?_
  refine o_strB rfl rfl rfl rfl (by unfold maxLen; omega) rfl ?_; intro w2 b2 c2 hby2 e2 hk2 hs2
  refine o_bs0 rfl rfl rfl ?_; intro w3 b3 e3 hB3 hk3 hs3
  refine o_mvt rfl ?_
  refine op_run ((r_conv rfl rfl rfl).val (conv_u64 number)) rfl ?_
  refine op_call rfl rfl rfl (ref01_Number w3 _ [] (u64 number) (u64_lt _) (Own.blk (n := 0) hB3 rfl (Nat.zero_le _)) (by decide)) ?_; rintro v4 w4 ⟨hown4, hk4, hb4⟩
  have hz2 := hk2.size
  have hk24 : Keep All w2 w4 := hk3.own hk4 (fun z hz _ => by obtain rfl : b3 = z := Option.some.inj hz; omega)
  have hby4 : By w4 (.slice (some ⟨b2, 0, none⟩) name.length c2) name := Sl.k hby2 hk24
  obtain ⟨a4, c4, e4_, _, _⟩ := hown4.form
  subst e4_
  refine o_bsL ([.slice (some ⟨b2, 0, none⟩) name.length c2, .slice a4 (encN (u64 number)).length c4]) rfl rfl rfl rfl rfl rfl rfl rfl rfl ?_; intro w5 b5 e5 hB5 hk5 hs5
  refine op_call rfl rfl rfl (rf_TagD _ _ 7 [name, encN (u64 number)] (rowsV_two hB5 (Sl.k hby4 hk5) (Sl.k (OwnB.by_ hown4) hk5)) (tag_key name number hn)) ?_; rintro v6 w6 ⟨rfl, hk6⟩
  have hk16 := hk2.trans (hk24.trans (hk5.trans hk6))
  refine o_storeA (cs := dgR (keyD name number)) rfl rfl (by first | rfl | exact binV_one _ | exact dgR_one _ | exact refR_one _ | exact secR_one _ | exact all_c8 _) (by first | rfl | (rw [binV_len]; rfl) | (rw [dgR_len]; rfl) | (rw [refR_len]; rfl) | (rw [secR_len]; rfl) | (rw [List.length_map, tagF_len]; rfl)) (hk16.blk' hB1 trivial) (by exact Nat.le_of_eq (by simp [dgR_len])) rfl ?_; intro w7 hB7 hk7 hs7
  have hB7 : Blk w7 b1 (dgR (keyD name number)) 28 := by
    have h := hB7
    rwa [splice_all (by simp [dgR_len])] at h
  refine ops_nil ?_
  refine W_ret ?_
  refine retA (dgR (keyD name number)) rfl rfl rfl rfl (by first | rfl | (rw [binV_len]; rfl) | (rw [dgR_len]; rfl) | (rw [refR_len]; rfl) | (rw [secR_len]; rfl) | (rw [List.length_map, tagF_len]; rfl)) hB7.all ?_
  exact ⟨rfl, (hk1.trans hk16).new hk7 (by omega)⟩
end Go.Proofs.YtigehkfdfecfoaaDoor.B
