/-
  volume.Decode.
-/
import Derived.Test.YtkmciohghhffnaaGreatVTake
namespace Go.Proofs.YtkmciohghhffnaaGreat.B
open Go
set_option linter.unusedVariables false
set_option maxHeartbeats 2000000
set_option maxRecDepth 100000
attribute [local irreducible] W OpsW OpsQ retP
theorem le_lst (a b : List UInt8) : (a < b ∨ a = b) ↔ ¬ b < a := by
  rw [List.not_lt, List.le_iff_lt_or_eq]
section
variable {P : Program} {F : Fr} {w : World} {dst : Option Tmp} {ty : TypeId} {pos : String} {after : Array Edge} {g : Option (Nat × Bool)}
theorem r_leqStr {t t' : TypeId} {x y : Operand} {a b : List UInt8} (hx : ev F x = .string ⟨a.toArray⟩) (hy : ev F y = .string ⟨b.toArray⟩) : Run1 P F ⟨dst, .binOp .leq t x y t', ty, pos, after, g⟩ w (.bool (decide (a < b ∨ a = b))) w := by
  unfold Run1
  simp [execOp, hx, hy, eqGuard, binOp, Op.stringOp, ByteArray.toList_eq, Go.Proofs.bytesLess_eq]
  rw [Bool.eq_iff_iff]; simp
end
theorem in_BytsR (w : World) (b : Nat) (A : Nat → Prop) (bs : List UInt8) (bad : Bool) (most : Nat) (hm : most < 2 ^ 63) (hAb : ¬ A b) (h : InC w b A bs bad) :
    Ret Tryz.prog 42 [.pointer (some ⟨b, 0, none⟩), .int .i64 most].toArray w fun r w' => By w' r (bytsR most bs bad).1 ∧ InC w' b A (bytsR most bs bad).2.1 (bytsR most bs bad).2.2 ∧ Keep (· ≠ b) w w' := by
  refine Calls.mono (in_Bytes w b A bs bad most hm hAb h) ?_
  rintro e w' ⟨r, rfl, hh⟩
  refine ⟨r, rfl, ?_⟩
  unfold bytsR tkR
  simp only
  split at hh
  · rename_i hc
    rw [if_pos hc]
    obtain ⟨rfl, h1, h2⟩ := hh
    exact ⟨Sl.nil _ _, h1, h2⟩
  · rename_i hc
    rw [if_neg hc]
    exact ⟨hh.1, hh.2.2.1, hh.2.2.2⟩
def preV (acc : AL) : Option (AL × List UInt8) → Option (AL × List UInt8)
  | none => none
  | some r => some (acc ++ r.1, r.2)
theorem preV_nil (o : Option (AL × List UInt8)) : preV [] o = o := by cases o <;> rfl
theorem volsR_no {k : Nat} {last bs : List UInt8} (h : (bytsR 20 bs false).2.2 = true ∨ volR1 (bytsR 20 bs false).2.1 = none ∨ ¬ namedB (bytsR 20 bs false).1 ∨ ¬ last < (bytsR 20 bs false).1) : volsR (k + 1) last bs = none := by
  unfold volsR
  simp only
  split
  · rfl
  · rename_i hb
    cases hv : volR1 (bytsR 20 bs false).2.1 with
    | none => rfl
    | some v =>
      show (if _ then _ else _) = none
      rcases h with h | h | h | h
      · exact absurd h hb
      · rw [hv] at h; cases h
      · rw [if_pos (.inl h)]
      · rw [if_pos (.inr h)]
theorem volsR_ok {k : Nat} {last bs rest : List UInt8} {acc : AL} {v : VA} (h0 : (bytsR 20 bs false).2.2 = false) (h1 : volR1 (bytsR 20 bs false).2.1 = some (v, rest)) (h2 : namedB (bytsR 20 bs false).1) (h3 : last < (bytsR 20 bs false).1) :
    preV acc (volsR (k + 1) last bs) = preV (acc ++ [((bytsR 20 bs false).1, v)]) (volsR k (bytsR 20 bs false).1 rest) := by
  conv => lhs; unfold volsR
  simp only
  rw [h0, if_neg (by decide), h1]
  show preV acc (if _ then _ else _) = _
  rw [if_neg (by rintro (h | h); exact h h2; exact h h3)]
  show preV acc (match volsR k _ rest with | none => none | some r => _) = _
  cases volsR k (bytsR 20 bs false).1 rest with
  | none => rfl
  | some r => show some (acc ++ (_ :: r.1), r.2) = some ((acc ++ [_]) ++ r.1, r.2); rw [List.append_assoc]; rfl
/-- What Decode tells. -/
def DecQ (w : World) (xs : List UInt8) (r : Value) (w' : World) : Prop :=
  (setR12 xs = none ∧ r = .tuple #[.pointer none, .int .i64 3] ∧ Keep All w w') ∨ ∃ mb bm l', setR12 xs = some (abs l') ∧ r = .tuple #[.pointer (some ⟨mb, 0, none⟩), .int .i64 0] ∧ MSv w w' mb bm l'
theorem bytsR_le (most : Nat) (bs : List UInt8) (bad : Bool) : (bytsR most bs bad).1.length ≤ most := by
  have h := numR_le most bs bad
  unfold bytsR tkR
  simp only
  split
  · exact Nat.zero_le _
  · show ((numR most bs bad).2.1.take (numR most bs bad).1).length ≤ most
    rw [List.length_take]; omega
def notK (ok : Bool) (nm last : List UInt8) (q : Int) : Bool := decide (¬ (ok = true ∧ mayQ nm q ∧ last < nm))
theorem dec_none {xs : List UInt8} {m : Nat} {bs2 : List UInt8} {bad2 : Bool} (hN : numR 1073741824 xs false = (m, bs2, bad2)) (h : bad2 = true ∨ volsR m [] bs2 = none) : setR12 xs = none := by
  unfold setR12
  simp only
  rw [hN]
  show (if bad2 = true then none else _) = none
  split
  · rfl
  · rename_i hb
    rcases h with h | h
    · exact absurd h hb
    · show (match volsR m [] bs2 with | none => none | some r => _) = none
      rw [h]
theorem dec_some {xs : List UInt8} {m : Nat} {bs2 rest : List UInt8} {L : AL} (hN : numR 1073741824 xs false = (m, bs2, false)) (h : volsR m [] bs2 = some (L, rest)) : setR12 xs = if rest = [] then some L else none := by
  unfold setR12
  simp only
  rw [hN]
  show (match volsR m [] bs2 with | none => none | some r => _) = _
  rw [h]
theorem vl_Decode (w : World) (v : Value) (xs : List UInt8) (hx : By w v xs) (hl : xs.length ≤ 2 ^ 40) : Ret Tryz.prog 17 [v].toArray w (DecQ w xs) := by
  obtain ⟨N2, hN2⟩ : ∃ N, numR 1073741824 xs false = N := ⟨_, rfl⟩
  obtain ⟨m, bs2, bad2⟩ := N2
  have hm : m ≤ 1073741824 := by have := numR_le 1073741824 xs false; rw [hN2] at this; exact this
  refine enter (fn := Tryz.f17) (n := 62) Tryz.func17 rfl rfl (by simp) ?_
  refine W_seq ?_
  refine W_region ?_
  refine o_asc rfl ?_
  refine o_asc rfl ?_
  refine ops_nil ?_
  refine W_seq ?_
  refine W_region ?_
  refine o_mvt rfl ?_
  refine op_call rfl rfl rfl (pack_From w v xs hx (by omega)) ?_; rintro v1 w1 ⟨ib, rfl, hib, hR1, hk1⟩
  have hibl : ib < w1.heap.size := by obtain ⟨_, hB, _⟩ := hR1; exact hB.lt
  obtain ⟨A, hA⟩ : ∃ A : Nat → Prop, (fun k => w.heap.size ≤ k ∧ k < ib) = A := ⟨_, rfl⟩
  rw [hA] at hR1
  have hAib : ∀ k, A k → w.heap.size ≤ k ∧ k < ib := fun k hk => by rw [← hA] at hk; exact hk
  have hAb : ¬ A ib := fun h => by have := hAib _ h; omega
  refine op_call rfl rfl rfl (vl_New w1) ?_; rintro v2 w2 ⟨mb, bm, rfl, hmb, M2'⟩
  have hR2 := hR1.keep M2'.k trivial (fun _ _ => trivial)
  have hbm0 := M2'.b bm (.inl rfl)
  refine o_ast rfl ?_
  refine o_ast rfl ?_
  refine ops_nil ?_
  refine W_seq ?_
  refine W_region ?_
  refine o_asc rfl ?_
  refine ops_nil ?_
  refine W_seq ?_
  refine W_region ?_
  refine o_mvt rfl ?_
  refine op_call rfl rfl rfl (in_Number w2 ib A xs false 1073741824 hAb hR2) ?_; rintro v3 w3 ⟨rfl, hR3, hk3⟩
  rw [hN2] at hR3 ⊢
  have hR3 : InC w3 ib A bs2 bad2 := hR3
  have M2 : MSv w w2 mb bm [] := ⟨M2'.m, hk1.trans M2'.k, fun z hz => by have := M2'.b z hz; have := hk1.size; omega⟩
  have hmb1 : ib ≠ mb := fun e => by
    obtain ⟨_, hB, _⟩ := hR2
    exact hB.ne_typ M2'.m.m (by decide) e
  have M3 : MSv w w3 mb bm [] := M2.iter hk3 (fun hB => by have := M2'.b _ hB; omega) hmb1 (by omega)
  refine o_ast rfl ?_
  refine ops_nil ?_
  refine W_seq ?_
  refine W_seq ?_
  refine W_region ?_
  refine o_asc rfl ?_
  refine ops_nil ?_
  refine W_block ?_
  refine W_loop [6, 8] [2, 3, 6, 8, 9, 10, 11, 17, 18, 19, 20, 21, 22, 23, 24, 25, 26, 27, 28, 29, 30, 31, 32, 33, 34, 35, 36, 37, 38, 39, 40, 41, 42, 43, 44, 45, 46, 47, 48, 49, 50, 51, 52, 53, 54, 55, 56, 57] (fun vs w' => ∃ (last : List UInt8) (i : Nat) (l' : ModL) (rest : List UInt8) (bd : Bool), vs = [strA last, .int .u64 i] ∧ i ≤ m ∧ MSv w w' mb bm l' ∧ (∀ z, ModB bm l' z → w1.heap.size ≤ z) ∧ InC w' ib A rest bd ∧ w1.heap.size ≤ w'.heap.size ∧ (∀ x ∈ l', ¬ last < x.1) ∧ (bd = false → bad2 = false ∧ volsR m [] bs2 = preV (abs l') (volsR (m - i) last rest)) ∧ (bd = true → bad2 = true ∨ volsR m [] bs2 = none)) (fun vs _ => match vs with | [_, .int _ y] => m - y.toNat | _ => 0) ⟨[], 0, [], bs2, bad2, rfl, Nat.zero_le _, M3, (fun z hz => M2'.b z hz), hR3, by have := M2'.k.size; have := hk3.size; omega, (fun x hx => by cases hx), (fun e => ⟨e, by show _ = preV [] _; rw [preV_nil]; rfl⟩), (fun e => .inl e)⟩ ?_
  rintro J4 vs w4 ⟨last, i, l', rest, bd, rfl, hi, M, hMb, hR4, hz4, hlast, hgo, hno⟩ -
  refine W_seq ?_
  refine W_cut [24] [17, 18, 19, 20, 21, 22, 23, 24] (fun vs w5 => vs = [.bool (decide (i < m ∧ bd = false))] ∧ w5 = w4) ?_ ?_
  · refine W_region ?_
    refine o_mvt rfl ?_
    refine o_mvt rfl ?_
    refine op_run (r_lss rfl rfl) rfl ?_
    refine o_mvt rfl ?_
    refine g_split rfl rfl rfl (fun g6 => ?_) (fun g6 => ?_)
    · refine o_mvt (g_yes rfl rfl rfl g6) ?_
      refine op_call rfl rfl (g_yes rfl rfl rfl g6) (in_Wrong w4 ib A rest bd hR4) ?_; rintro v7 w7 ⟨rfl, rfl⟩
      refine op_run (r_not rfl) (g_yes rfl rfl rfl g6) ?_
      refine o_pkTt rfl g6 rfl ?_
      refine ops_nil ?_
      exact ⟨by (repeat (first | with_reducible exact offM_refl _ _ | refine offM_updc rfl ?_ | refine offM_upd rfl ?_ | refine offM_updo rfl ?_ | refine offM_updo_none ?_ | refine offM_head rfl rfl ?_)), congrArg (fun b => [Value.bool b]) (by have g := of_decide_eq_true g6; rw [show decide (i < m ∧ bd = false) = decide (bd = false) by rw [decide_eq_decide]; exact ⟨fun h => h.2, fun h => ⟨by omega, h⟩⟩]; cases bd <;> rfl), rfl⟩
    · refine op_skip (g_no rfl rfl rfl g6) ?_
      refine op_skip (g_no rfl rfl rfl g6) ?_
      refine op_skip (g_no rfl rfl rfl g6) ?_
      refine o_pkFc rfl g6 rfl ?_
      refine ops_nil ?_
      exact ⟨by (repeat (first | with_reducible exact offM_refl _ _ | refine offM_updc rfl ?_ | refine offM_upd rfl ?_ | refine offM_updo rfl ?_ | refine offM_updo_none ?_ | refine offM_head rfl rfl ?_)), congrArg (fun b => [Value.bool b]) (by have g := of_decide_eq_false g6; symm; apply decide_eq_false; rintro ⟨h, _⟩; omega), rfl⟩
  · rintro J10 vs w10 ⟨rfl, rfl⟩ -
    refine W_cond rfl (fun h11 => ?_) (fun h11 => ?_)
    · refine W_skip ?_
      refine W_seq ?_
      refine W_block ?_
      refine W_seq ?_
      refine W_region ?_
      refine o_mvt rfl ?_
      obtain ⟨him, hbd⟩ := of_decide_eq_true h11
      subst hbd
      obtain ⟨hb2, hC⟩ := hgo rfl
      obtain ⟨k, hk⟩ : ∃ k, m - i = k + 1 := ⟨m - i - 1, by omega⟩
      rw [hk] at hC
      have hinc : IntKind.u64.wrap ((i : Int) + 1) = ((i + 1 : Nat) : Int) := by rw [wrap_u64]; omega
      refine op_call rfl rfl rfl (in_BytsR w10 ib A rest false 20 (by decide) hAb hR4) ?_; rintro v12 w12 ⟨hby12, hR12, hk12⟩
      obtain ⟨B1, hB1⟩ : ∃ B, bytsR 20 rest false = B := ⟨_, rfl⟩
      rw [hB1] at hby12 hR12
      obtain ⟨nm, r1, b1⟩ := B1
      have hby12 : By w12 v12 nm := hby12
      have hR12 : InC w12 ib A r1 b1 := hR12
      have hnl : nm.length ≤ 2 ^ 40 := by
        have h1 := bytsR_le 20 rest false
        rw [hB1] at h1
        have h1 : nm.length ≤ 20 := h1
        omega
      have hz12 := hk12.size
      have M12 : MSv w w12 mb bm l' := M.iter hk12 (fun hB => by have := hMb _ hB; omega) hmb1 (by omega)
      refine op_run (r_bytesStr rfl (hby12) rfl rfl rfl) rfl ?_
      refine o_ast rfl ?_
      refine ops_nil ?_
      refine W_seq ?_
      refine W_region ?_
      refine o_mvt rfl ?_
      refine op_call rfl rfl rfl (vl_take w12 ib A r1 b1 hAb (fun k hk => by have := hAib _ hk; omega) hR12) ?_; rintro v14 w14 ⟨fr, x, ok, bl, rest2, bd2, rfl, hx12, hMx, hR14, hk14, hokT, hokF⟩
      have hz14 := hk14.size
      have M14 : MSv w w14 mb bm l' := M12.iter hk14 (fun hB => by have := hMb _ hB; omega) hmb1 (by omega)
      obtain ⟨q, hq⟩ : ∃ q : Int, (((numR 2097153 r1 b1).1 / 2 : Nat) : Int) = q := ⟨_, rfl⟩
      rw [hq] at hokT ⊢
      have hqm : 0 ≤ q ∧ q ≤ 1048576 := by have := numR_le 2097153 r1 b1; omega
      refine o_mvt rfl ?_
      refine op_run (r_extract rfl rfl) rfl ?_
      refine op_run (r_extract rfl rfl) rfl ?_
      refine o_alloc rfl rfl rfl ?_; intro w15 b15 e15 hB15 hk15 hs15
      have hB15' : Blk w15 b15 (volR 0 false (.map none)) 66 := hB15
      refine o_storeA (cs := volR q fr (.map (some x))) rfl rfl (by first | rfl | exact binV_one _ | exact dgR_one _ | exact refR_one _ | exact secR_one _ | exact all_c8 _ | exact volR_one rfl) (by first | rfl | (rw [binV_len]; rfl) | (rw [dgR_len]; rfl) | (rw [refR_len]; rfl) | (rw [secR_len]; rfl) | (rw [List.length_map, tagF_len]; rfl)) hB15' (by show 0 + 3 ≤ 3; decide) rfl ?_; intro w16 hB16 hk16 hs16
      have hB16' : Blk w16 b15 (volR q fr (.map (some x))) 66 := hB16
      have hk16' : Keep All w14 w16 := hk15.new hk16 (by omega)
      refine o_ast rfl ?_
      refine ops_nil ?_
      refine W_seq ?_
      refine W_cut [48] [35, 36, 37, 38, 39, 40, 41, 42, 43, 44, 45, 46, 47, 48] (fun vs w17 => vs = [.bool (decide (¬ (ok = true ∧ mayQ nm q ∧ last < nm)))] ∧ Keep All w16 w17) ?_ ?_
      · refine W_region ?_
        refine o_mvt rfl ?_
        refine op_run (r_not rfl) rfl ?_
        refine o_mvt rfl ?_
        refine g_split rfl rfl rfl (fun g18 => ?_) (fun g18 => ?_)
        · refine o_mvt (g_yes rfl rfl rfl (by rw [g18] <;> rfl)) ?_
          refine op_run (r_fieldAddr rfl rfl rfl rfl rfl) (g_yes rfl rfl rfl (by rw [g18] <;> rfl)) ?_
          refine op_run (r_load rfl rfl rfl (hB16'.cell rfl)) (g_yes rfl rfl rfl (by rw [g18] <;> rfl)) ?_
          refine op_call rfl rfl (g_yes rfl rfl rfl (by rw [g18] <;> rfl)) (vl_may w16 nm q hnl) ?_; rintro v20 w20 ⟨rfl, hk20⟩
          refine op_run (r_not rfl) (g_yes rfl rfl rfl (by rw [g18] <;> rfl)) ?_
          refine o_pkFt rfl (by rw [g18] <;> rfl) rfl ?_
          refine o_mvt rfl ?_
          refine g_split rfl rfl rfl (fun g21 => ?_) (fun g21 => ?_)
          · refine o_mvt (g_yes rfl rfl rfl (by rw [g21] <;> rfl)) ?_
            refine o_mvt (g_yes rfl rfl rfl (by rw [g21] <;> rfl)) ?_
            refine op_run (r_leqStr rfl rfl) (g_yes rfl rfl rfl (by rw [g21] <;> rfl)) ?_
            refine o_pkFt rfl (by rw [g21] <;> rfl) rfl ?_
            refine ops_nil ?_
            exact ⟨by (repeat (first | with_reducible exact offM_refl _ _ | refine offM_updc rfl ?_ | refine offM_upd rfl ?_ | refine offM_updo rfl ?_ | refine offM_updo_none ?_ | refine offM_head rfl rfl ?_)), congrArg (fun b => [Value.bool b]) (by have q1 : ok = true := (by simpa using g18); have q2 : mayQ nm q := (by simpa using g21); rw [decide_eq_decide, le_lst]; exact ⟨fun h hh => h hh.2.2, fun h hh => h ⟨q1, q2, hh⟩⟩), hk20⟩
          · refine op_skip (g_no rfl rfl rfl (by rw [g21] <;> rfl)) ?_
            refine op_skip (g_no rfl rfl rfl (by rw [g21] <;> rfl)) ?_
            refine op_skip (g_no rfl rfl rfl (by rw [g21] <;> rfl)) ?_
            refine o_pkTc rfl (by rw [g21] <;> rfl) rfl ?_
            refine ops_nil ?_
            exact ⟨by (repeat (first | with_reducible exact offM_refl _ _ | refine offM_updc rfl ?_ | refine offM_upd rfl ?_ | refine offM_updo rfl ?_ | refine offM_updo_none ?_ | refine offM_head rfl rfl ?_)), congrArg (fun b => [Value.bool b]) (by have q2 : ¬ mayQ nm q := (by simpa using g21); symm; apply decide_eq_true; exact fun h => q2 h.2.1), hk20⟩
        · refine op_skip (g_no rfl rfl rfl (by rw [g18] <;> rfl)) ?_
          refine op_skip (g_no rfl rfl rfl (by rw [g18] <;> rfl)) ?_
          refine op_skip (g_no rfl rfl rfl (by rw [g18] <;> rfl)) ?_
          refine op_skip (g_no rfl rfl rfl (by rw [g18] <;> rfl)) ?_
          refine op_skip (g_no rfl rfl rfl (by rw [g18] <;> rfl)) ?_
          refine o_pkTc rfl (by rw [g18] <;> rfl) rfl ?_
          refine o_mvt rfl ?_
          refine op_skip (g_no rfl rfl rfl rfl) ?_
          refine op_skip (g_no rfl rfl rfl rfl) ?_
          refine op_skip (g_no rfl rfl rfl rfl) ?_
          refine o_pkTc rfl rfl rfl ?_
          refine ops_nil ?_
          exact ⟨by (repeat (first | with_reducible exact offM_refl _ _ | refine offM_updc rfl ?_ | refine offM_upd rfl ?_ | refine offM_updo rfl ?_ | refine offM_updo_none ?_ | refine offM_head rfl rfl ?_)), congrArg (fun b => [Value.bool b]) (by have q1 : ok = false := (by simpa using g18); symm; apply decide_eq_true; rintro ⟨h, _⟩; rw [q1] at h; cases h), Keep.refl _⟩
      · rintro J26 vs w26 ⟨rfl, hk26⟩ -
        refine W_cond rfl (fun h27 => ?_) (fun h27 => ?_)
        · refine W_seq ?_
          refine W_region ?_
          refine o_asc rfl ?_
          refine o_asc rfl ?_
          refine ops_nil ?_
          refine W_ret ?_
          refine ret2 (.pointer none) (.int .i64 3) rfl ?_ ?_ ?_; rfl; rfl
          have h27 := of_decide_eq_true h27
          refine .inl ⟨dec_none hN2 (.inr ?_), rfl, (M14.keep (hk16'.trans hk26)).k⟩
          rw [hC, volsR_no]
          · rfl
          · rw [hB1]
            show b1 = true ∨ volR1 r1 = none ∨ ¬ namedB nm ∨ ¬ last < nm
            cases hok : ok with
            | false =>
              rcases hokF hok with h | h
              · exact .inl h
              · exact .inr (.inl h)
            | true =>
              by_cases hnm : namedB nm
              · exact .inr (.inr (.inr fun hl => h27 ⟨hok, ⟨hnm, hqm⟩, hl⟩))
              · exact .inr (.inr (.inl hnm))
        · refine W_skip ?_
          obtain ⟨hok, hmay, hlt⟩ : ok = true ∧ mayQ nm q ∧ last < nm := Classical.byContradiction fun hh => of_decide_eq_false h27 hh
          obtain ⟨hb1, hbd2, hv1⟩ := hokT hok
          have M26 := M14.keep (hk16'.trans hk26)
          have hB26 := hk26.blk' hB16' trivial
          have hfresh : lookP l' nm = none := by
            cases hv : lookP l' nm with
            | none => rfl
            | some v => exact absurd hlt (hlast _ (lookP_mem hv))
          refine W_gate 9 (fun w' => Keep (· ≠ bm) w26 w') (by kernel_rfl) ((Keep.drawn w26).all) (fun hS => ?_)
          refine gt_mvt 0 rfl (by kernel_rfl) (by kernel_rfl) (by kernel_rfl) (by kernel_rfl) rfl hS ?_
          refine gt_run 1 (fun w' hS' => (r_nilCheck rfl)) rfl (by kernel_rfl) (by kernel_rfl) (by kernel_rfl) (by kernel_rfl) rfl hS ?_
          refine gt_run 2 (fun w' hS' => (r_fieldAddr rfl rfl rfl rfl rfl)) rfl (by kernel_rfl) (by kernel_rfl) (by kernel_rfl) (by kernel_rfl) rfl hS ?_
          refine gt_run 3 (fun w' hS' => (r_load rfl rfl rfl (((hS'.blk' M26.m.m (M26.m.m.ne_map M26.m.vs)).cell rfl)))) rfl (by kernel_rfl) (by kernel_rfl) (by kernel_rfl) (by kernel_rfl) rfl hS ?_
          refine gt_mvt 4 rfl (by kernel_rfl) (by kernel_rfl) (by kernel_rfl) (by kernel_rfl) rfl hS ?_
          refine gt_run 5 (fun w' hS' => (r_loadA (volR q fr (.map (some x))) rfl rfl rfl (by first | rfl | (rw [binV_len]; rfl) | (rw [dgR_len]; rfl) | (rw [refR_len]; rfl) | (rw [secR_len]; rfl) | (rw [List.length_map, tagF_len]; rfl)) ((hS'.blk' hB26 (hB26.ne_map M26.m.vs)).all))) rfl (by kernel_rfl) (by kernel_rfl) (by kernel_rfl) (by kernel_rfl) rfl hS ?_
          refine gp_mvt 6 rfl (by kernel_rfl) (by kernel_rfl) (by kernel_rfl) (by kernel_rfl) rfl hS ?_
          refine gt_one 7 (by kernel_rfl) (one_of rfl ?_)
          refine o_mapEntryG (a := nm) (keyOk_strA rfl) rfl rfl rfl ti_ptrV (((M26.m.k (Keep.drawn w26)).vs)) ((by rw [getA_look, hfresh]; rfl)) rfl ?_; intro w32 s32 hE32 hk32 hs32
          refine ops_nil ⟨(hS.trans hk32), fun hS => ?_⟩
          refine gt_run 8 (fun w' hS' => (r_extract rfl rfl)) rfl (by kernel_rfl) (by kernel_rfl) (by kernel_rfl) (by kernel_rfl) rfl hS ?_
          refine gt_past 9 (by kernel_rfl) (by kernel_rfl) (one_of rfl ?_)
          refine o_entryStoreG (v := (ptrV ⟨q, fr, bl, x⟩)) rfl rfl rfl (hE32) rfl ?_; intro w34 hM34 hk34 hs34
          refine ops_nil ?_
          refine gt_past 10 (by kernel_rfl) (by kernel_rfl) (one_of rfl ?_)
          refine o_ast rfl ?_
          refine ops_nil ?_
          refine gt_done (by kernel_rfl) ?_
          refine W_region ?_
          refine o_mvt rfl ?_
          refine op_run (r_add rfl rfl) rfl ?_
          refine o_ast rfl ?_
          refine ops_nil ?_
          have hS := Keep.drawn w26
          have MS' := M26.m.k hS
          have hxB : ∀ z, ModB bm l' z → z ≠ x := fun z hz e => by have := M12.m.ltB hz; omega
          have hxbm : x ≠ bm := fun e => hxB bm (.inl rfl) e.symm
          have hk34' := hk32.trans hk34
          have hMx' := ((hMx.keep hk16' trivial).keep hk26 trivial).keep hS trivial
          have hMw := MS'.add (nm := nm) (v := ⟨q, fr, bl, x⟩) (by unfold mapP at hM34 ⊢; rw [List.map_append]; exact hM34) hk34' ⟨trivial, hMx'⟩ hxbm (fun y hy => hxB _ (.inr ⟨y, hy, rfl⟩))
          have hMb2 : ∀ z, ModB bm (l' ++ [(nm, (⟨q, fr, bl, x⟩ : Vol))]) z → w1.heap.size ≤ z := fun z hz => by
            rcases hz with hz | ⟨y, hy, hz⟩
            · exact hMb z (.inl hz)
            · rcases List.mem_append.1 hy with hy | hy
              · exact hMb z (.inr ⟨y, hy, hz⟩)
              · rw [List.mem_singleton.1 hy] at hz
                have hz : z = x := hz
                omega
          have hibm : ib ≠ bm := by omega
          have hAbm : ∀ k, A k → k ≠ bm := fun k hk e => by have := hAib _ hk; omega
          have hsz := M26.k.size
          have habs : abs (l' ++ [(nm, (⟨q, fr, bl, x⟩ : Vol))]) = abs l' ++ [(nm, ⟨q, fr, bl⟩)] := by unfold abs mapP; rw [List.map_append]; rfl
          refine ⟨by (repeat (first | with_reducible exact offM_refl _ _ | refine offM_updc rfl ?_ | refine offM_upd rfl ?_ | refine offM_updo rfl ?_ | refine offM_updo_none ?_ | refine offM_head rfl rfl ?_)), ⟨nm, i + 1, l' ++ [(nm, ⟨q, fr, bl, x⟩)], rest2, bd2, congrArg (fun z : Int => [strA nm, Value.int .u64 z]) hinc, by omega, ⟨hMw, (((M26.k.trans hS).new hk32 (by omega)).new hk34 (by omega)), fun z hz => by have := hMb2 z hz; have := hk1.size; omega⟩, hMb2, ?_, ?_, ?_, ?_, ?_⟩, ?_⟩
          · exact ((((hR14.keep hk16' trivial (fun _ _ => trivial)).keep hk26 trivial (fun _ _ => trivial)).keep hS trivial (fun _ _ => trivial)).keep hk32 hibm hAbm).keep hk34 hibm hAbm
          · have h1 := hk16'.size; have h2 := hk26.size; have h3 := hS.size; omega
          · intro y hy
            rcases List.mem_append.1 hy with hy | hy
            · exact fun hh => hlast y hy (List.lt_trans hlt hh)
            · rw [List.mem_singleton.1 hy]; exact List.lt_irrefl _
          · intro e
            refine ⟨hb2, ?_⟩
            rw [hC, show m - (i + 1) = k by omega, habs]
            have h0 : (bytsR 20 rest false).2.2 = false := by rw [hB1]; exact hb1
            have h1 : volR1 (bytsR 20 rest false).2.1 = some (⟨q, fr, bl⟩, rest2) := by rw [hB1]; exact hv1
            have h2 : namedB (bytsR 20 rest false).1 := by rw [hB1]; exact hmay.1
            have h3 : last < (bytsR 20 rest false).1 := by rw [hB1]; exact hlt
            have h4 := volsR_ok (k := k) (acc := abs l') h0 h1 h2 h3
            rw [hB1] at h4
            exact h4
          · intro e
            rw [hbd2] at e; cases e
          · show m - (IntKind.u64.wrap ((i : Int) + 1)).toNat < m - (i : Int).toNat
            rw [hinc]; omega
    · refine W_exit ?_
      refine W_seq ?_
      refine W_seq ?_
      refine W_region ?_
      refine o_mvt rfl ?_
      refine op_call rfl rfl rfl (in_Done w10 ib A rest bd hR4) ?_; rintro v36 w36 ⟨rfl, hk36⟩
      refine op_run (r_neq rfl rfl) rfl ?_
      refine ops_nil ?_
      refine W_cond_p rfl (fun h37 => ?_) (fun h37 => ?_)
      · refine W_seq ?_
        refine W_region ?_
        refine o_asc rfl ?_
        refine o_asc rfl ?_
        refine ops_nil ?_
        refine W_ret ?_
        refine ret2 (.pointer none) (.int .i64 3) rfl ?_ ?_ ?_; rfl; rfl
        refine .inl ⟨?_, rfl, (M.keep hk36).k⟩
        cases hbd : bd with
        | true => exact dec_none hN2 (hno hbd)
        | false =>
          obtain ⟨hb2, hC⟩ := hgo hbd
          have hie : i = m := by
            have := of_decide_eq_false h11
            exact Classical.byContradiction fun hh => this ⟨by omega, hbd⟩
          rw [hie, Nat.sub_self] at hC
          rw [hb2] at hN2
          rw [dec_some hN2 hC, if_neg]
          intro hr
          have hr : rest = [] := hr
          apply h37
          rw [if_neg]
          rw [hbd, hr]
          rintro (h | h)
          · cases h
          · exact absurd h (by decide)
      · refine W_skip ?_
        refine W_seq ?_
        refine W_region ?_
        refine o_mvt rfl ?_
        refine o_ast rfl ?_
        refine o_asc rfl ?_
        refine ops_nil ?_
        refine W_ret ?_
        refine ret2 (.pointer (some ⟨mb, 0, none⟩)) (.int .i64 0) rfl ?_ ?_ ?_; rfl; rfl
        have hcc : ¬ (bd = true ∨ 0 < rest.length) := fun hh => h37 (by rw [if_pos hh]; decide)
        have hbd : bd = false := by
          cases hb : bd with
          | false => rfl
          | true => exact absurd (.inl hb) hcc
        have hrest : rest = [] := by
          cases hr : rest with
          | nil => rfl
          | cons a b => rw [hr] at hcc; exact absurd (.inr (Nat.succ_pos _)) hcc
        obtain ⟨hb2, hC⟩ := hgo hbd
        have hie : i = m := by
          have := of_decide_eq_false h11
          exact Classical.byContradiction fun hh => this ⟨by omega, hbd⟩
        rw [hie, Nat.sub_self] at hC
        rw [hb2] at hN2
        refine .inr ⟨mb, bm, l', ?_, rfl, M.keep hk36⟩
        rw [dec_some hN2 hC, if_pos hrest]
        show some (abs l' ++ []) = _
        rw [List.append_nil]
end Go.Proofs.YtkmciohghhffnaaGreat.B
