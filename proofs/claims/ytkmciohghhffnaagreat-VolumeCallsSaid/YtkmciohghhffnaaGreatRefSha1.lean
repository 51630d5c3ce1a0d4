/-
  The document's digest: its numbers, and its words against the ring of the last sixteen.
-/
import Derived.Test.YtkmciohghhffnaaGreatMSha
namespace Go.Proofs.YtkmciohghhffnaaGreat.B
open Go
set_option linter.unusedVariables false
set_option maxHeartbeats 2000000
set_option maxRecDepth 100000
attribute [local irreducible] W OpsW OpsQ retP
theorem rotl_or (x : Wd) (n : Nat) : x >>> n ||| x <<< (32 - n) = rotr x n := BitVec.or_comm _ _
theorem ch_eq (e f g : Wd) : (e &&& f) ^^^ (~~~e &&& g) = g ^^^ (e &&& (f ^^^ g)) := by
  apply BitVec.eq_of_getLsbD_eq
  intro i hi
  simp only [BitVec.getLsbD_xor, BitVec.getLsbD_and, BitVec.getLsbD_not]
  rw [decide_eq_true hi]
  generalize e.getLsbD i = a; generalize f.getLsbD i = b; generalize g.getLsbD i = c
  revert a b c; decide
theorem maj_eq (a b c : Wd) : (a &&& b) ^^^ (a &&& c) ^^^ (b &&& c) = (a &&& (b ||| c)) ||| (b &&& c) := by
  apply BitVec.eq_of_getLsbD_eq
  intro i hi
  simp only [BitVec.getLsbD_xor, BitVec.getLsbD_and, BitVec.getLsbD_or]
  generalize a.getLsbD i = a; generalize b.getLsbD i = b; generalize c.getLsbD i = c
  revert a b c; decide
theorem wd_notm (x : Wd) : IntKind.u32.wrap (4294967295 - (x.toNat : Int)) = ((~~~x).toNat : Int) := by
  have := x.isLt
  rw [wrap_u32, BitVec.toNat_not]; omega
theorem wd_mulb (x : Wd) : IntKind.u32.wrap ((x.toNat : Int) * 256) = ((x <<< 8).toNat : Int) := by
  rw [wrap_u32, BitVec.toNat_shiftLeft, Nat.shiftLeft_eq]; omega
theorem wd_orb (x : Wd) (c : UInt8) : x <<< 8 + wd8 c = x <<< 8 ||| wd8 c := by
  apply BitVec.add_eq_or_of_and_eq_zero
  apply BitVec.eq_of_getLsbD_eq
  intro i hi
  rw [BitVec.getLsbD_and, BitVec.getLsbD_shiftLeft, BitVec.getLsbD_zero]
  by_cases h : i < 8
  · simp [h]
  · have hc : (wd8 c).getLsbD i = false := by
      rw [BitVec.getLsbD, wd8_toNat]
      exact Nat.testBit_lt_two_pow (Nat.lt_of_lt_of_le c.toNat_lt (Nat.pow_le_pow_right (by decide) (show 8 ≤ i by omega)))
    rw [hc, Bool.and_false]
theorem wd_quob (x : Wd) : Int.tdiv (x.toNat : Int) 256 = ((x >>> 8).toNat : Int) := by
  rw [BitVec.toNat_ushiftRight, Nat.shiftRight_eq_div_pow]; exact (Int.ofNat_tdiv x.toNat 256).symm
def sig0 (x : Wd) : Wd := rotr x 7 ^^^ rotr x 18 ^^^ x >>> 3
def sig1 (y : Wd) : Wd := rotr y 17 ^^^ rotr y 19 ^^^ y >>> 10
/-- The words of a block, told by places. -/
def msg (m : List Wd) (t : Nat) : Wd := if h : t < 16 then m.getD t 0 else msg m (t - 16) + sig0 (msg m (t - 15)) + msg m (t - 7) + sig1 (msg m (t - 2))
termination_by t
theorem msg_lo {m : List Wd} {t : Nat} (h : t < 16) : msg m t = m.getD t 0 := by rw [msg, dif_pos h]
theorem msg_hi (m : List Wd) (t : Nat) : msg m (t + 16) = msg m t + sig0 (msg m (t + 1)) + msg m (t + 9) + sig1 (msg m (t + 14)) := by
  rw [msg, dif_neg (by omega)]; congr 4
/-- The document's order of the same sum. -/
theorem msg_hi' {m : List Wd} {t : Nat} (h : 16 ≤ t) : sig1 (msg m (t - 2)) + msg m (t - 7) + sig0 (msg m (t - 15)) + msg m (t - 16) = msg m t := by
  obtain ⟨s, rfl⟩ : ∃ s, t = s + 16 := ⟨t - 16, by omega⟩
  rw [msg_hi]
  rw [show s + 16 - 2 = s + 14 by omega, show s + 16 - 7 = s + 9 by omega, show s + 16 - 15 = s + 1 by omega, show s + 16 - 16 = s by omega]
  ac_rfl
theorem ring_get {m : List Wd} (hm : m.length = 16) (ks : List Wd) (s : V8) : ∀ t i, i < 16 → (rounds ks (s, m) t).2.getD ((t + i) % 16) 0 = msg m (t + i)
  | 0, i, hi => by rw [Nat.zero_add, Nat.mod_eq_of_lt hi, msg_lo hi]; rfl
  | t + 1, i, hi => by
    have ih := ring_get hm ks s t
    have hl : (rounds ks (s, m) t).2.length = 16 := (rounds_len ks (s, m) t).trans hm
    show ((rounds ks (s, m) t).2.set (t % 16) (nextW (rounds ks (s, m) t).2 t)).getD ((t + 1 + i) % 16) 0 = _
    generalize (rounds ks (s, m) t).2 = ws at ih hl
    rcases Nat.lt_or_ge i 15 with h | h
    · rw [List.getD_eq_getElem?_getD, List.getElem?_set_ne (by omega), ← List.getD_eq_getElem?_getD]
      have := ih (i + 1) (by omega)
      rw [show t + 1 + i = t + (i + 1) by omega]; exact this
    · obtain rfl : i = 15 := by omega
      rw [show (t + 1 + 15) % 16 = t % 16 by omega, List.getD_eq_getElem?_getD, List.getElem?_set_self (by rw [hl]; omega), Option.getD_some, show t + 1 + 15 = t + 16 by omega, msg_hi]
      have h0 := ih 0 (by omega)
      have h1 := ih 1 (by omega)
      have h9 := ih 9 (by omega)
      have h14 := ih 14 (by omega)
      rw [Nat.add_zero] at h0
      unfold nextW sig0 sig1
      simp only [h0, h1, h9, h14]
theorem rounds_msg {m : List Wd} (hm : m.length = 16) (ks : List Wd) (s : V8) (t : Nat) : (rounds ks (s, m) (t + 1)).1 = nextV (rounds ks (s, m) t).1 (ks.getD t 0) (msg m t) := by
  have h := ring_get hm ks s t 0 (by omega)
  rw [Nat.add_zero] at h
  rw [← h]; rfl
theorem load16_get {bs : List UInt8} {i : Nat} (hi : i < 16) : (load16 bs).getD i 0 = ldW (ldB bs i) := by simp [load16, hi]
theorem load16_len (bs : List UInt8) : (load16 bs).length = 16 := by simp [load16]

theorem u8_rem (m : Nat) : IntKind.u8.wrap (Int.tmod (m : Int) 256) = ((UInt8.ofNat m).toNat : Int) := by
  rw [show Int.tmod (m : Int) 256 = ((m % 256 : Nat) : Int) from (Int.ofNat_tmod m 256).symm, wrap_u8, UInt8.toNat_ofNat']; omega
theorem u64_quo {m : Nat} (h : m < 18446744073709551616) : IntKind.u64.wrap (Int.tdiv (m : Int) 256) = ((m / 256 : Nat) : Int) := by
  rw [show Int.tdiv (m : Int) 256 = ((m / 256 : Nat) : Int) from (Int.ofNat_tdiv m 256).symm, wrap_u64]; omega
theorem u32_quo (x : Wd) : IntKind.u32.wrap (Int.tdiv (x.toNat : Int) 256) = ((x >>> 8).toNat : Int) := by
  rw [wd_quob]; exact wrap32 _
theorem pow256 (q : Nat) : 256 ^ q = 2 ^ (8 * q) := by rw [Nat.pow_mul]
theorem shr8 (x : Wd) (q : Nat) : x >>> (8 * q) >>> 8 = x >>> (8 * (q + 1)) := by
  apply BitVec.eq_of_toNat_eq
  simp only [BitVec.toNat_ushiftRight, ← Nat.shiftRight_add]; congr 1
/-- The eight numbers, the first i of them with what is added. -/
def mix8 (s v : V8) (i : Nat) : List Wd := wl 8 fun j => if j < i then s.ws.getD j 0 + v.ws.getD j 0 else s.ws.getD j 0
theorem mix8_0 (s v : V8) : (mix8 s v 0).map c32 = s.cells := rfl
theorem mix8_8 (s v : V8) : (mix8 s v 8).map c32 = (s.add v).cells := rfl
theorem mix8_get {s v : V8} {i : Nat} (h : i < 8) : (mix8 s v i).getD i 0 = s.ws.getD i 0 := by rw [mix8, wl_get h, if_neg (Nat.lt_irrefl i)]
theorem mix8_set {s v : V8} {i : Nat} (h : i < 8) : (mix8 s v i).set i (s.ws.getD i 0 + v.ws.getD i 0) = mix8 s v (i + 1) := by
  unfold mix8
  rw [wl_set]
  refine wl_congr fun n hn => ?_
  by_cases hni : n = i
  · subst hni
    rw [if_pos rfl, if_pos (by omega)]
  · rw [if_neg hni]
    by_cases h1 : n < i
    · rw [if_pos h1, if_pos (by omega)]
    · rw [if_neg h1, if_neg (by omega)]
theorem wl_s (n : Nat) (f : Nat → Wd) : wl (n + 1) f = wl n f ++ [f n] := by simp [wl, List.range_succ]

theorem rf_rotBy (w : World) (x : Wd) (n : Nat) (h1 : 1 ≤ n) (h2 : n ≤ 31) :
    Ret Tryz.prog 103 [c32 x, .int .u32 n].toArray w fun r w' => r = c32 (rotr x n) ∧ w' = w := by
  refine enter (fn := Tryz.f103) (n := 13) Tryz.func103 rfl rfl (by simp) ?_
  refine W_seq ?_
  refine W_region ?_
  refine o_asc rfl ?_
  refine ops_nil ?_
  refine W_seq ?_
  refine W_region ?_
  refine o_mvt rfl ?_
  refine o_mvt rfl ?_
  refine op_run (r_shrW n rfl rfl) rfl ?_
  refine o_mvt rfl ?_
  refine o_mvt rfl ?_
  refine op_run ((r_sub rfl rfl).val (congrArg (Value.int .u32) (show IntKind.u32.wrap (32 - (n : Int)) = ((32 - n : Nat) : Int) by rw [wrap_u32]; omega))) rfl ?_
  refine op_run (r_shlW (32 - n) rfl rfl) rfl ?_
  refine op_run (r_orW rfl rfl) rfl ?_
  refine o_ast rfl ?_
  refine ops_nil ?_
  refine W_ret ?_
  refine ret1 (c32 (x >>> n ||| x <<< (32 - n))) rfl ?_ ?_; rfl
  exact ⟨congrArg c32 (rotl_or x n), rfl⟩

theorem rf_rot (w : World) (x : Wd) (n : Nat) (h1 : 1 ≤ n) (h2 : n ≤ 31) :
    Ret Tryz.prog 75 [c32 x, .int .i64 n].toArray w fun r w' => r = c32 (rotr x n) ∧ w' = w := by
  refine enter (fn := Tryz.f75) (n := 9) Tryz.func75 rfl rfl (by simp) ?_
  refine W_seq ?_
  refine W_region ?_
  refine o_asc rfl ?_
  refine ops_nil ?_
  refine W_seq ?_
  refine W_region ?_
  refine o_mvt rfl ?_
  refine o_mvt rfl ?_
  refine op_run ((r_conv rfl rfl rfl).val (congrArg (Value.int .u32) (show IntKind.u32.wrap (n : Int) = (n : Int) by rw [wrap_u32]; omega))) rfl ?_
  refine op_call rfl rfl rfl (rf_rotBy w x n h1 h2) ?_; rintro v1 w1 ⟨rfl, rfl⟩
  refine o_ast rfl ?_
  refine ops_nil ?_
  refine W_ret ?_
  refine ret1 (c32 (rotr x n)) rfl ?_ ?_; rfl
  exact ⟨rfl, rfl⟩

theorem rf_shr (w : World) (x : Wd) (n : Nat) (h2 : n ≤ 31) :
    Ret Tryz.prog 76 [c32 x, .int .i64 n].toArray w fun r w' => r = c32 (x >>> n) ∧ w' = w := by
  refine enter (fn := Tryz.f76) (n := 9) Tryz.func76 rfl rfl (by simp) ?_
  refine W_seq ?_
  refine W_region ?_
  refine o_asc rfl ?_
  refine ops_nil ?_
  refine W_seq ?_
  refine W_region ?_
  refine o_mvt rfl ?_
  refine o_mvt rfl ?_
  refine op_run ((r_conv rfl rfl rfl).val (congrArg (Value.int .u32) (show IntKind.u32.wrap (n : Int) = (n : Int) by rw [wrap_u32]; omega))) rfl ?_
  refine op_run (r_shrW n rfl rfl) rfl ?_
  refine o_ast rfl ?_
  refine ops_nil ?_
  refine W_ret ?_
  refine ret1 (c32 (x >>> n)) rfl ?_ ?_; rfl
  exact ⟨rfl, rfl⟩
theorem rf_rotQ {C : World → Prop} {w : World} (x : Wd) (n : Nat) (h1 : 1 ≤ n) (h2 : n ≤ 31) (hC : C w) :
    Ret Tryz.prog 75 [c32 x, .int .i64 n].toArray w fun u w' => u = c32 (rotr x n) ∧ C w' :=
  (rf_rot w x n h1 h2).mono fun e w' ⟨u, he, h, hw⟩ => ⟨u, he, h, hw ▸ hC⟩
theorem rf_shrQ {C : World → Prop} {w : World} (x : Wd) (n : Nat) (h2 : n ≤ 31) (hC : C w) :
    Ret Tryz.prog 76 [c32 x, .int .i64 n].toArray w fun u w' => u = c32 (x >>> n) ∧ C w' :=
  (rf_shr w x n h2).mono fun e w' ⟨u, he, h, hw⟩ => ⟨u, he, h, hw ▸ hC⟩

theorem rf_beginning (w : World) : Ret Tryz.prog 73 #[] w fun r w' => ∃ b, w.heap.size ≤ b ∧ r = .slice (some ⟨b, 0, none⟩) 8 8 ∧ Blk w' b initV.cells 112 ∧ Keep All w w' := by
  rw [initV_lit]
  refine enter (fn := Tryz.f73) (n := 2) Tryz.func73 rfl rfl (by simp) ?_
  refine W_seq ?_
  refine W_region ?_
  refine o_asc rfl ?_
  refine ops_nil ?_
  refine W_seq ?_
  refine W_region ?_
  refine o_bsL (I8.cells) rfl rfl rfl rfl rfl rfl rfl rfl rfl ?_; intro w1 b1 e1 hB1 hk1 hs1
  refine o_ast rfl ?_
  refine ops_nil ?_
  refine W_ret ?_
  refine ret1 (.slice (some ⟨b1, 0, none⟩) 8 8) rfl ?_ ?_; rfl
  exact ⟨b1, Nat.le_of_eq e1.symm, rfl, hB1, hk1⟩

theorem rf_rounds (w : World) : Ret Tryz.prog 74 #[] w fun r w' => ∃ b, w.heap.size ≤ b ∧ r = .slice (some ⟨b, 0, none⟩) 64 64 ∧ Blk w' b ((tabK 64).map c32) 112 ∧ Keep All w w' := by
  rw [tabK_lit]
  refine enter (fn := Tryz.f74) (n := 2) Tryz.func74 rfl rfl (by simp) ?_
  refine W_seq ?_
  refine W_region ?_
  refine o_asc rfl ?_
  refine ops_nil ?_
  refine W_seq ?_
  refine W_region ?_
  refine o_bsL ((K64.map c32)) rfl rfl rfl (all_c32 K64) rfl rfl rfl (by kernel_rfl) rfl ?_; intro w1 b1 e1 hB1 hk1 hs1
  refine o_ast rfl ?_
  refine ops_nil ?_
  refine W_ret ?_
  refine ret1 (.slice (some ⟨b1, 0, none⟩) 64 64) rfl ?_ ?_; rfl
  exact ⟨b1, Nat.le_of_eq e1.symm, rfl, hB1, hk1⟩
end Go.Proofs.YtkmciohghhffnaaGreat.B
