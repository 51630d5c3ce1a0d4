/-
  PackOne's walk, and the plain laws behind it: what is written is read back; what is cut short is refused.
-/
import Derived.Test.YthjmobiidlolhaaPackNum
import Derived.Test.YthjmobiidlolhaaPackFew
namespace Go.Proofs.Ythjmobiidlolhaa.B
open Go
set_option linter.unusedVariables false
attribute [local irreducible] W OpsW OpsQ retP
theorem decN_encN : ∀ (y most s a : Nat) (r : List UInt8), a < 2 ^ s → a + y * 2 ^ s < 2 ^ 64 → a + y * 2 ^ s ≤ most → (s = 0 ∨ 0 < y) → decN most s a (encN y ++ r) = some (a + y * 2 ^ s, r) := by
  intro y
  induction y using Nat.strongRecOn with
  | ind y ih =>
    intro most s a r ha hv hm hs
    have hs63 : ¬ 63 < s := by
      intro h
      rcases hs with h0 | h0
      · omega
      · have h1 : 2 ^ 64 ≤ 2 ^ s := Nat.pow_le_pow_right (by omega) h
        have h2 : 1 * 2 ^ s ≤ y * 2 ^ s := Nat.mul_le_mul_right _ h0
        omega
    by_cases h1 : y < 128
    · rw [encN_last h1, List.singleton_append, decN_cons]
      have e : y.toUInt8.toNat = y := by simp; omega
      rw [e, Nat.mod_eq_of_lt h1, if_neg (by rintro (h | h | h) <;> omega), if_neg (by omega), if_neg (by omega)]
    · rw [encN_more (by omega), List.cons_append, decN_cons]
      have e : (y % 128 + 128).toUInt8.toNat = y % 128 + 128 := by simp; omega
      have e2 : (y % 128 + 128) % 128 = y % 128 := by omega
      have hsplit : y * 2 ^ s = y % 128 * 2 ^ s + y / 128 * 2 ^ (s + 7) := by
        rw [Nat.pow_add, show y / 128 * (2 ^ s * 2 ^ 7) = (128 * (y / 128)) * 2 ^ s by rw [Nat.mul_comm (2 ^ s), ← Nat.mul_assoc, Nat.mul_comm (y / 128)], ← Nat.add_mul, Nat.mod_add_div]
      have hlt : a + y % 128 * 2 ^ s < 2 ^ (s + 7) := by
        have h2 : (y % 128 + 1) * 2 ^ s ≤ 128 * 2 ^ s := Nat.mul_le_mul_right _ (by omega)
        rw [Nat.add_mul, Nat.one_mul] at h2
        rw [Nat.pow_add]; omega
      rw [e, e2, if_neg (by rintro (h | h | h) <;> omega), if_pos (by omega)]
      rw [ih (y / 128) (by omega) most (s + 7) _ r hlt (by omega) (by omega) (.inr (by omega))]
      congr 2; omega
theorem decN_short : ∀ (y most s a k : Nat), k < (encN y).length → decN most s a ((encN y).take k) = none := by
  intro y
  induction y using Nat.strongRecOn with
  | ind y ih =>
    intro most s a k hk
    cases k with
    | zero => rfl
    | succ k =>
      by_cases h1 : y < 128
      · rw [encN_last h1] at hk; simp at hk
      · rw [encN_more (by omega)] at hk ⊢
        rw [List.take_succ_cons, decN_cons]
        have e : (y % 128 + 128).toUInt8.toNat = y % 128 + 128 := by simp; omega
        rw [e]
        split
        · rfl
        · rw [if_pos (by omega)]
          exact ih (y / 128) (by omega) _ _ _ _ (by simpa using hk)
theorem dec_enc (v most : Nat) (r : List UInt8) (h : v < 2 ^ 64) (hm : v ≤ most) : decN most 0 0 (encN v ++ r) = some (v, r) := by
  have := decN_encN v most 0 0 r (by omega) (by simpa using h) (by simpa using hm) (.inl rfl)
  simpa using this
theorem encN_same {v w : Nat} {r : List UInt8} (hv : v < 2 ^ 64) (hw : w < 2 ^ 64) (h : encN w = encN v ++ r) : w = v := by
  have h1 := dec_enc w (2 ^ 64) [] hw (by omega)
  have h2 := dec_enc v (2 ^ 64) r hv (by omega)
  rw [List.append_nil, h, h2] at h1
  injection h1 with h1; injection h1 with h1 _; exact h1.symm
theorem encN_pre {v w : Nat} (hv : v < 2 ^ 64) (hw : w < 2 ^ 64) : (encN v).take (min (encN v).length (encN w).length) = (encN w).take (min (encN v).length (encN w).length) ↔ v = w := by
  constructor
  · intro h
    rcases Nat.le_total (encN v).length (encN w).length with hl | hl
    · rw [Nat.min_eq_left hl, List.take_length] at h
      have := List.take_append_drop (encN v).length (encN w)
      rw [← h] at this
      exact (encN_same hv hw this.symm).symm
    · rw [Nat.min_eq_right hl, List.take_length] at h
      have := List.take_append_drop (encN w).length (encN v)
      rw [h] at this
      exact encN_same hw hv this.symm
  · rintro rfl; rfl
/-- A number and bytes, whole. -/
theorem read_all (v : Nat) (bs : List UInt8) (hv : v < 2 ^ 64) (hb : bs.length < 2 ^ 64) :
    numR v (encN v ++ encB bs) false = (v, encB bs, false) ∧ numR bs.length (encB bs) false = (bs.length, bs, false) := by
  refine ⟨numR_some (dec_enc v v _ hv (Nat.le_refl _)), numR_some (dec_enc bs.length bs.length bs hb (Nat.le_refl _))⟩
/-- Cut short. -/
theorem read_cut (v k : Nat) (bs : List UInt8) (hv : v < 2 ^ 64) (hb : bs.length < 2 ^ 64) (hk : k < (encN v ++ encB bs).length) :
    let N := numR v ((encN v ++ encB bs).take k) false
    let M := numR bs.length N.2.1 N.2.2
    M.2.2 = true ∨ M.2.1.length < M.1 := by
  by_cases h1 : k < (encN v).length
  · have e : numR v ((encN v ++ encB bs).take k) false = (0, [], true) := numR_none (by rw [List.take_append_of_le_length (by omega)]; exact decN_short _ _ _ _ _ h1)
    simp only [e]
    left; rw [numR_none (by rfl)]
  · have e : numR v ((encN v ++ encB bs).take k) false = (v, (encB bs).take (k - (encN v).length), false) := numR_some (by
      rw [List.take_append, List.take_of_length_le (by omega)]; exact dec_enc v v _ hv (Nat.le_refl _))
    simp only [e]
    rw [List.length_append] at hk
    unfold encB at hk ⊢
    rw [List.length_append] at hk
    by_cases h2 : k - (encN v).length < (encN bs.length).length
    · left; rw [numR_none (by rw [List.take_append_of_le_length (by omega)]; exact decN_short _ _ _ _ _ h2)]
    · right
      rw [numR_some (by rw [List.take_append, List.take_of_length_le (by omega)]; exact dec_enc _ _ _ hb (Nat.le_refl _))]
      simp only [List.length_take]; omega
theorem and_ffff (a : Int) : 0 ≤ bitw .and .i64 a 65535 ∧ bitw .and .i64 a 65535 ≤ 65535 := by
  have h : (BitVec.ofInt IntKind.i64.bits a &&& BitVec.ofInt IntKind.i64.bits 65535).toNat ≤ 65535 := by
    rw [BitVec.toNat_and]
    exact Nat.and_le_right
  show 0 ≤ IntKind.i64.wrap ((BitVec.ofInt IntKind.i64.bits a &&& BitVec.ofInt IntKind.i64.bits 65535).toNat : Int) ∧ IntKind.i64.wrap ((BitVec.ofInt IntKind.i64.bits a &&& BitVec.ofInt IntKind.i64.bits 65535).toNat : Int) ≤ 65535
  rw [wrap_i64 (by omega) (by omega)]; omega
theorem in_Bytes_ok {w : World} {b : Nat} {A : Nat → Prop} {bs xs : List UInt8} {bad bad' : Bool} {most : Nat} {n : Nat} (hm : most < 2 ^ 63) (hAb : ¬ A b) (h : InC w b A bs bad) (hN : numR most bs bad = (n, xs, bad')) (hb : bad' = false) (hn : n ≤ xs.length) :
    Ret Try.prog 16 [.pointer (some ⟨b, 0, none⟩), .int .i64 most].toArray w fun r w' => By w' r (xs.take n) ∧ InB A r ∧ InC w' b A (xs.drop n) false ∧ Keep (· ≠ b) w w' := by
  have h1 := in_Bytes w b A bs bad most hm hAb h
  rw [hN] at h1
  subst hb
  refine Calls.mono h1 fun e w' ⟨u, he, hu⟩ => ⟨u, he, ?_⟩
  dsimp only at hu
  rw [if_neg (by simp; omega)] at hu
  exact hu
theorem in_Bytes_bad {w : World} {b : Nat} {A : Nat → Prop} {bs : List UInt8} {bad : Bool} {most : Nat} (hm : most < 2 ^ 63) (hAb : ¬ A b) (h : InC w b A bs bad) (hN : (numR most bs bad).2.2 = true ∨ (numR most bs bad).2.1.length < (numR most bs bad).1) :
    Ret Try.prog 16 [.pointer (some ⟨b, 0, none⟩), .int .i64 most].toArray w fun r w' => r = .slice none 0 0 ∧ InC w' b A [] true ∧ Keep (· ≠ b) w w' := by
  refine Calls.mono (in_Bytes w b A bs bad most hm hAb h) fun e w' ⟨u, he, hu⟩ => ⟨u, he, ?_⟩
  dsimp only at hu
  rw [if_pos hN] at hu
  exact hu
theorem in_Number_ok {w : World} {b : Nat} {A : Nat → Prop} {bs xs : List UInt8} {bad bad' : Bool} {most n : Nat} (hAb : ¬ A b) (h : InC w b A bs bad) (hN : numR most bs bad = (n, xs, bad')) :
    Ret Try.prog 15 [.pointer (some ⟨b, 0, none⟩), .int .u64 most].toArray w fun r w' => r = .int .u64 n ∧ InC w' b A xs bad' ∧ Keep (· ≠ b) w w' := by
  have h1 := in_Number w b A bs bad most hAb h
  rwa [hN] at h1

theorem walk_PackOne (w : World) (x y : Nat) (vb : Value) (bs : List UInt8) (cut : Int) (hx : x < 2 ^ 64) (hy : y < 2 ^ 64) (hb : By w vb bs) :
    Ret Try.prog 5 [.int .u64 x, .int .u64 y, vb, .int .i64 cut].toArray w fun r w' => r = .bool true ∧ Keep All w w' := by
  have hbl := hb.len_le
  obtain ⟨ab, cb, rfl, hcb, _⟩ := hb.form
  refine enter (fn := Try.f5) (n := 83) Try.func5 rfl rfl (by simp) ?_
  refine W_seq ?_
  refine W_region ?_
  refine o_asc rfl ?_
  refine ops_nil ?_
  refine W_seq ?_
  refine W_seq ?_
  refine W_region ?_
  refine op_call rfl rfl rfl (speaks01 w) ?_; rintro v1 w1 ⟨rfl, hk1⟩
  refine op_run (r_not rfl) rfl ?_
  refine ops_nil ?_
  refine W_no rfl (rfl) ?_
  refine W_skip ?_
  refine W_seq ?_
  refine W_seq ?_
  refine W_region ?_
  refine o_mvt rfl ?_
  refine op_run (r_len rfl rfl rfl) rfl ?_
  refine op_run (r_gtr rfl rfl) rfl ?_
  refine ops_nil ?_
  refine W_cond_p rfl (fun h4 => ?_) (fun h4 => ?_)
  · refine W_seq ?_
    refine W_region ?_
    refine o_asc rfl ?_
    refine ops_nil ?_
    refine W_ret ?_
    refine ret1 (.bool true) rfl ?_ ?_; rfl
    exact ⟨rfl, hk1⟩
  · refine W_skip ?_
    refine W_seq ?_
    refine W_region ?_
    refine o_mvt rfl ?_
    refine op_call rfl rfl rfl (pack_Number w1 (.slice none 0 0) [] x hx (own_nil _ _ _) (by simp)) ?_; rintro v6 w6 ⟨ho6, hk6, hb6⟩
    simp only [List.nil_append] at ho6
    replace hk6 : Keep All w1 w6 := hk6.mono (fun _ _ _ h => by cases h)
    refine o_mvt rfl ?_
    refine op_call rfl rfl rfl (pack_Number w6 (.slice none 0 0) [] y hy (own_nil _ _ _) (by simp)) ?_; rintro v7 w7 ⟨ho7, hk7, hb7⟩
    simp only [List.nil_append] at ho7
    replace hk7 : Keep All w6 w7 := hk7.mono (fun _ _ _ h => by cases h)
    obtain ⟨ax, cx, rfl, hcx, _⟩ := ho6.by_.form
    obtain ⟨ay, cy, rfl, hcy, _⟩ := ho7.by_.form
    have hx10 := encN_len10 hx
    have hy10 := encN_len10 hy
    have hpx := encN_pos x
    have hbx : By w7 (.slice ax (encN x).length cx) (encN x) := ho6.by_.keep hk7 (fun _ _ => trivial)
    have hby : By w7 (.slice ay (encN y).length cy) (encN y) := ho7.by_
    have hkw7 := (hk1.trans hk6).trans hk7
    have hpre := encN_pre hx hy
    obtain ⟨m, hm⟩ : ∃ m, m = min (encN x).length (encN y).length := ⟨_, rfl⟩
    rw [← hm] at hpre
    have hmin : (if ((encN y).length : Int) < ((encN x).length : Int) then ((encN y).length : Int) else ((encN x).length : Int)) = ((m : Nat) : Int) := by split <;> omega
    have hsx := hbx.sub (l := 0) (h := m) (m := m) (by omega) (by omega) (by omega) (by omega)
    have hsx := hbx.sub (l := 0) (h := m) (m := cx) (by omega) (by omega) (by omega) (by omega)
    have hsy := hby.sub (l := 0) (h := m) (m := cy) (by omega) (by omega) (by omega) (by omega)
    rw [List.drop_zero] at hsx hsy
    refine o_ast rfl ?_
    refine o_ast rfl ?_
    refine ops_nil ?_
    refine W_seq ?_
    refine W_region ?_
    refine o_mvt rfl ?_
    refine op_run (r_len rfl rfl rfl) rfl ?_
    refine o_mvt rfl ?_
    refine op_run (r_len rfl rfl rfl) rfl ?_
    refine op_run ((r_min rfl rfl).val (congrArg (Value.int .i64) hmin)) rfl ?_
    refine o_ast rfl ?_
    refine ops_nil ?_
    refine W_seq ?_
    refine W_seq ?_
    refine W_quiet (Keep All w7) (by kernel_rfl) (by kernel_rfl) (Keep.drawn _) ?_
    refine q_mvt rfl ?_
    refine q_mvt rfl ?_
    refine q_run (fun _ _ => (r_sliceS_hi rfl rfl rfl rfl (by omega) (by omega))) rfl ?_
    refine q_mvt rfl ?_
    refine q_mvt rfl ?_
    refine q_run (fun _ _ => (r_sliceS_hi rfl rfl rfl rfl (by omega) (by omega))) rfl ?_
    refine q_call rfl rfl rfl (fun _ hk => (ref01_Same _ _ _ _ _ (hsx.keep hk (fun _ _ => trivial)) (hsy.keep hk (fun _ _ => trivial))).mono fun e w' ⟨u, he, hu, hk'⟩ => ⟨u, he, hu, hk.trans hk'⟩) ?_
    refine q_mvt rfl ?_
    refine q_mvt rfl ?_
    refine q_run (fun _ _ => (r_eql rfl rfl)) rfl ?_
    refine q_run (fun _ _ => (r_neqB rfl rfl rfl)) rfl ?_
    refine q_nil ?_; intro w12 hk12
    have hc13 : (decide ((encN x).take m = (encN y).take m) != decide ((x : Int) = (y : Int))) = false := by
      have e2 : decide ((encN x).take m = (encN y).take m) = decide ((x : Int) = (y : Int)) := by rw [decide_eq_decide, hpre]; omega
      rw [e2]; simp
    refine W_no rfl (hc13) ?_
    refine W_skip ?_
    refine W_seq ?_
    refine W_region ?_
    refine o_bs0 rfl rfl rfl ?_; intro w15 b15 e15 hB15 hk15 hs15
    refine o_mvt rfl ?_
    refine o_appS (v := .slice (some ⟨b15, 0, none⟩) 0 0) rfl rfl (hbx.keep (hk12.trans hk15) (fun _ _ => trivial)) rfl ti_u8 rfl rfl (Own.blk hB15 rfl (by unfold maxLen; omega)) (all_c8 _) (by unfold maxLen; omega) (by omega) rfl ?_; intro v16 w16 hown16 hk16 hb16
    have ho16 := OwnB.app (xs := []) (e := 5) hown16
    rw [List.nil_append] at ho16
    have hs12 := (hkw7.trans hk12).size
    have hkw16 : Keep All w w16 := ((hkw7.trans hk12).trans hk15).own hk16 (by intro b h; cases h; intro _; show w.heap.size ≤ b15; omega)
    have hf16 : InB (fun b => w.heap.size ≤ b) v16 := fun b h => by
      rcases hb16 b h with h1 | h1
      · cases h1; show w.heap.size ≤ b15; omega
      · have := hk15.size; omega
    refine o_mvt rfl ?_
    refine op_call rfl rfl rfl (pack_Bytes w16 v16 _ (encN x) bs ho16 (fun w' hk => hb.old (hkw16.own hk (fun b h _ => hf16 b h)) (fun _ _ => trivial)) (by omega)) ?_; rintro v17 w17 ⟨ho17, hk17, hb17⟩
    have hkw17 : Keep All w w17 := hkw16.own hk17 (fun b h _ => hf16 b h)
    obtain ⟨a17, c17, rfl, hc17, _⟩ := ho17.by_.form
    have hel := encB_len bs (by omega)
    have hal : (encN x ++ encB bs).length = (encN x).length + (encB bs).length := List.length_append
    refine o_ast rfl ?_
    refine ops_nil ?_
    refine W_seq ?_
    refine W_region ?_
    refine o_mvt rfl ?_
    refine op_call rfl rfl rfl (pack_From w17 _ _ ho17.by_ (by omega)) ?_; rintro v18 w18 ⟨b18, rfl, hb18, hin18, hk18⟩
    obtain ⟨hra, hrb⟩ := read_all x bs hx (by omega)
    have hkw18 := hkw17.trans hk18
    have hs17 := hkw17.size
    refine o_ast rfl ?_
    refine ops_nil ?_
    refine W_seq ?_
    refine W_cut [64] [46, 47, 48, 49, 50, 51, 52, 53, 54, 55, 56, 57, 58, 59, 60, 61, 62, 63, 64] (fun vs w19 => vs = [.bool false] ∧ Keep (· ≠ b18) w18 w19) ?_ ?_
    · refine W_region ?_
      refine o_mvt rfl ?_
      refine o_mvt rfl ?_
      refine op_call rfl rfl rfl (in_Number_ok (fun h => h.2 rfl) hin18 hra) ?_; rintro v20 w20 ⟨rfl, hin20, hk20⟩
      refine o_mvt rfl ?_
      refine op_run (r_neq rfl rfl) rfl ?_
      refine o_mvt rfl ?_
      refine g_split rfl rfl rfl (fun g21 => ?_) (fun g21 => ?_)
      · refine o_mvt (g_yes rfl rfl rfl g21) ?_
        refine o_mvt (g_yes rfl rfl rfl g21) ?_
        refine op_run (r_len rfl rfl rfl) (g_yes rfl rfl rfl g21) ?_
        refine op_call rfl rfl (g_yes rfl rfl rfl g21) (in_Bytes_ok (most := bs.length) (by omega) (fun h => h.2 rfl) hin20 hrb rfl (Nat.le_refl _)) ?_; rintro v22 w22 ⟨hby22, hin22, hBin22, hk22⟩
        rw [List.take_length] at hby22
        rw [List.drop_length] at hBin22
        refine o_mvt (g_yes rfl rfl rfl g21) ?_
        refine op_call rfl rfl (g_yes rfl rfl rfl g21) (ref01_Same _ _ _ bs bs hby22 (hb.old (hkw18.new (hk20.trans hk22) (by omega)) (fun _ _ => trivial))) ?_; rintro v23 w23 ⟨rfl, hk23⟩
        refine op_run (r_not rfl) (g_yes rfl rfl rfl g21) ?_
        refine o_pkFt rfl g21 rfl ?_
        refine o_mvt rfl ?_
        refine g_split rfl rfl rfl (fun g24 => ?_) (fun g24 => ?_)
        · refine o_mvt (g_yes rfl rfl rfl (by rw [g24] <;> rfl)) ?_
          refine op_call rfl rfl (g_yes rfl rfl rfl (by rw [g24] <;> rfl)) (in_Done _ b18 _ [] false (hBin22.keep hk23 trivial (fun _ _ => trivial))) ?_; rintro v25 w25 ⟨rfl, hk25⟩
          refine op_run (r_neq rfl rfl) (g_yes rfl rfl rfl (by rw [g24] <;> rfl)) ?_
          refine o_pkFt rfl (by rw [g24] <;> rfl) rfl ?_
          refine ops_nil ?_
          exact ⟨by (repeat (first | with_reducible exact offM_refl _ _ | refine offM_updc rfl ?_ | refine offM_upd rfl ?_ | refine offM_updo rfl ?_ | refine offM_updo_none ?_ | refine offM_head rfl rfl ?_)), rfl, (hk20.trans hk22).trans (hk23.trans hk25).all⟩
        · refine op_skip (g_no rfl rfl rfl (by rw [g24] <;> rfl)) ?_
          refine op_skip (g_no rfl rfl rfl (by rw [g24] <;> rfl)) ?_
          refine op_skip (g_no rfl rfl rfl (by rw [g24] <;> rfl)) ?_
          refine o_pkTc rfl (by rw [g24] <;> rfl) rfl ?_
          refine ops_nil ?_
          exact absurd g24 (by simp)
      · refine op_skip (g_no rfl rfl rfl g21) ?_
        refine op_skip (g_no rfl rfl rfl g21) ?_
        refine op_skip (g_no rfl rfl rfl g21) ?_
        refine op_skip (g_no rfl rfl rfl g21) ?_
        refine op_skip (g_no rfl rfl rfl g21) ?_
        refine op_skip (g_no rfl rfl rfl g21) ?_
        refine op_skip (g_no rfl rfl rfl g21) ?_
        refine o_pkTc rfl g21 rfl ?_
        refine o_mvt rfl ?_
        refine op_skip (g_no rfl rfl rfl rfl) ?_
        refine op_skip (g_no rfl rfl rfl rfl) ?_
        refine op_skip (g_no rfl rfl rfl rfl) ?_
        refine o_pkTc rfl rfl rfl ?_
        refine ops_nil ?_
        exact absurd (of_decide_eq_true g21) (by simp)
    · rintro J29 vs w29 ⟨rfl, hk29⟩ -
      obtain ⟨hf0, hf1⟩ := and_ffff cut
      obtain ⟨m2, hm2⟩ := Int.eq_ofNat_of_zero_le hf0
      have hrem : ((m2 : Nat) : Int).tmod ((encN x ++ encB bs).length : Int) = ((m2 % (encN x ++ encB bs).length : Nat) : Int) := by
        rw [Int.tmod_eq_emod_of_nonneg (by omega)]; rfl
      have hkk : m2 % (encN x ++ encB bs).length < (encN x ++ encB bs).length := Nat.mod_lt _ (by omega)
      have hcut := read_cut x _ bs hx (by omega) hkk
      have hby18 : By w18 (.slice a17 (encN x ++ encB bs).length c17) (encN x ++ encB bs) := ho17.by_.keep hk18 (fun _ _ => trivial)
      have hsub := hby18.sub (l := 0) (h := m2 % (encN x ++ encB bs).length) (m := c17) (by omega) (by omega) (by omega) (by omega)
      rw [List.drop_zero] at hsub
      have hsub29 := hsub.keep hk29 (InB.sub (fun b h e => by have := ho17.lt b h; omega))
      have hkw29 : Keep All w w29 := hkw18.new hk29 (by omega)
      refine W_no rfl (rfl) ?_
      refine W_skip ?_
      refine W_seq ?_
      refine W_region ?_
      refine o_mvt rfl ?_
      refine o_mvt rfl ?_
      refine op_run ((r_and rfl rfl).val (congrArg (Value.int .i64) hm2)) rfl ?_
      refine o_mvt rfl ?_
      refine op_run (r_len rfl rfl rfl) rfl ?_
      refine op_run ((r_rem rfl rfl (by omega)).val (congrArg (Value.int .i64) hrem)) rfl ?_
      refine op_run (r_sliceS_hi rfl rfl rfl rfl (by omega) (by omega)) rfl ?_
      refine op_call rfl rfl rfl (pack_From w29 _ _ hsub29 (by rw [List.length_take]; omega)) ?_; rintro v34 w34 ⟨b34, rfl, hb34, hin34, hk34⟩
      refine o_ast rfl ?_
      refine ops_nil ?_
      refine W_seq ?_
      refine W_region ?_
      refine o_mvt rfl ?_
      refine o_mvt rfl ?_
      refine op_call rfl rfl rfl (in_Number w34 b34 _ _ false x (fun h => h.2 rfl) hin34) ?_; rintro v35 w35 ⟨rfl, hin35, hk35⟩
      refine ops_nil ?_
      refine W_seq ?_
      refine W_region ?_
      refine o_mvt rfl ?_
      refine o_mvt rfl ?_
      refine op_run (r_len rfl rfl rfl) rfl ?_
      refine op_call rfl rfl rfl (in_Bytes_bad (most := bs.length) (by omega) (fun h => h.2 rfl) hin35 hcut) ?_; rintro v36 w36 ⟨rfl, hin36, hk36⟩
      refine ops_nil ?_
      refine W_seq ?_
      refine W_region ?_
      refine o_mvt rfl ?_
      refine op_call rfl rfl rfl (in_Done _ b34 _ [] true hin36) ?_; rintro v37 w37 ⟨rfl, hk37⟩
      refine op_run (r_eql rfl rfl) rfl ?_
      refine o_ast rfl ?_
      refine ops_nil ?_
      refine W_ret ?_
      refine ret1 (.bool true) rfl ?_ ?_; rfl
      exact ⟨rfl, ((hkw29.trans hk34).new (hk35.trans hk36) (by have := hkw29.size; omega)).trans hk37⟩
end Go.Proofs.Ythjmobiidlolhaa.B
