/-
  sha: the blocks of a row of bytes.
-/
import Derived.Test.YtnjepmdgbkhoaaaSha4
import Derived.Test.YtnjepmdgbkhoaaaRange
namespace Go.Proofs.Ytnjepmdgbkhoaaa.B
open Go
set_option linter.unusedVariables false
set_option maxHeartbeats 2000000
set_option maxRecDepth 100000
attribute [local irreducible] W OpsW OpsQ retP
theorem ck_make (w : World) (a : Option Addr) (n c : Nat) :
    Ret Try.prog 41 [.slice a n c, .int .i64 64].toArray w fun r w' => ∃ b1 b2, r = .func (.func 48) #[] #[.pointer (some ⟨b1, 0, none⟩), .pointer (some ⟨b2, 0, none⟩)] ∧ w.heap.size ≤ b1 ∧ w.heap.size ≤ b2 ∧ b1 < w'.heap.size ∧ b2 < w'.heap.size ∧ Blk w' b1 [.slice a n c] 24 ∧ Blk w' b2 [.int .i64 64] 3 ∧ Keep All w w' := by
  refine enter (fn := Try.f41) (n := 9) Try.func41 rfl rfl (by simp) ?_
  refine W_seq ?_
  refine W_region ?_
  refine o_box (cs := [.slice a n c]) rfl rfl rfl ?_; intro w1 b1 e1 hB1 hk1 hs1
  refine o_box (cs := [.int .i64 64]) rfl rfl rfl ?_; intro w2 b2 e2 hB2 hk2 hs2
  refine o_asc rfl ?_
  refine ops_nil ?_
  refine W_seq ?_
  refine W_seq ?_
  refine W_region ?_
  refine op_run (r_load rfl rfl rfl (hB2.cell rfl)) rfl ?_
  refine op_run (r_lss rfl rfl) rfl ?_
  refine ops_nil ?_
  refine W_no rfl (rfl) ?_
  refine W_skip ?_
  refine W_seq ?_
  refine W_region ?_
  refine op_run (r_makeFunc) rfl ?_
  refine o_ast rfl ?_
  refine ops_nil ?_
  refine W_ret ?_
  refine ret1 (.func (.func 48) #[] #[.pointer (some ⟨b1, 0, none⟩), .pointer (some ⟨b2, 0, none⟩)]) rfl ?_ ?_; rfl
  exact ⟨b1, b2, rfl, by omega, by omega, by omega, by omega, hk2.blk' hB1 trivial, hB2, hk1.trans hk2⟩
/-- What Chunk hands over in round k. -/
def ckE (g : Nat) (k : Nat) (args : Array Value) (_ : World) : Prop := args = #[.slice (some ⟨g, 64 * k, none⟩) 64 64]
def ckR (b1 b2 : Nat) (v : Value) (w : World) : Prop := Blk w b1 [v] 24 ∧ Blk w b2 [.int .i64 64] 3

theorem ck_walk (g N c b1 b2 : Nat) (hN : N < 1000000) (hc : 64 * N ≤ c) (hcm : c ≤ maxLen) (l : Nat) (J : Nat → World → Prop) (Jx : World → Prop) (w : World)
    (hJR : ∀ k w, J k w → ckR b1 b2 (.slice (some ⟨g, 0, none⟩) (64 * N) c) w) (hJ : ∀ k w w', J k w → Keep All w w' → J k w')
    (hY : ∀ k args w, J k w → k < N → ckE g k args w → YieldsB Try.prog l args w fun b w' => (b = true → J (k + 1) w') ∧ (b = false → Jx w')) (h0 : J 0 w) :
    Ret Try.prog 48 [.func (.yield l) #[] #[], .pointer (some ⟨b1, 0, none⟩), .pointer (some ⟨b2, 0, none⟩)].toArray w fun _ w' => J N w' ∨ Jx w' := by
  refine enter (fn := Try.f48) (n := 31) Try.func48 rfl rfl (by simp) ?_
  refine W_seq ?_
  refine W_region ?_
  refine o_asc rfl ?_
  refine ops_nil ?_
  refine W_block ?_
  refine W_loop [4] [4, 5, 6, 7, 8, 9, 10, 11, 12, 13, 14, 15, 16, 17, 18, 19, 20, 21, 22, 23, 24, 25, 26, 27, 28, 29, 30] (fun vs w' => ∃ k : Nat, vs = [.int .i64 ((64 * k : Nat) : Int)] ∧ k ≤ N ∧ J k w') (fun vs _ => match vs with | [.int _ i] => 64 * N - i.toNat | _ => 0) ⟨0, rfl, by omega, h0⟩ ?_
  rintro J0 vs w1 ⟨k, rfl, hk, hJ1⟩ -
  refine W_seq ?_
  refine W_seq ?_
  refine W_region ?_
  refine o_mvt rfl ?_
  refine op_run (r_load rfl rfl rfl ((hJR _ _ hJ1).1.cell rfl)) rfl ?_
  refine op_run (r_len rfl rfl rfl) rfl ?_
  refine op_run (r_lss rfl rfl) rfl ?_
  refine ops_nil ?_
  refine W_cond_p rfl (fun h3 => ?_) (fun h3 => ?_)
  · refine W_skip ?_
    refine W_seq ?_
    refine W_block ?_
    refine W_seq ?_
    have hkN : k < N := by omega
    refine W_quiet (Keep All w1) (by kernel_rfl) (by kernel_rfl) (Keep.drawn _) ?_
    refine q_run (fun _ hk => r_load rfl rfl rfl (hk.cell ((hJR _ _ hJ1).2.cell rfl) trivial)) rfl ?_
    refine q_run (fun _ hk => r_load rfl rfl rfl (hk.cell ((hJR _ _ hJ1).1.cell rfl) trivial)) rfl ?_
    refine q_mvt rfl ?_
    refine q_run (fun _ _ => (r_sliceS_lo rfl rfl rfl ti_u8 (by omega) (by omega))) rfl ?_
    refine q_run (fun _ _ => (r_len rfl rfl rfl)) rfl ?_
    refine q_run (fun _ _ => ((r_min rfl rfl).val (congrArg (Value.int .i64) (show (if ((64 * N - 64 * k : Nat) : Int) < 64 then ((64 * N - 64 * k : Nat) : Int) else 64) = 64 from if_neg (by omega))))) rfl ?_
    refine q_ast rfl ?_
    refine q_nil ?_; intro w8 hk8
    have hJ8 := hJ _ _ _ hJ1 hk8
    refine W_seq ?_
    refine W_region ?_
    refine o_mvt rfl ?_
    refine op_run (r_load rfl rfl rfl ((hJR _ _ hJ8).1.cell rfl)) rfl ?_
    refine o_mvt rfl ?_
    refine o_mvt rfl ?_
    refine o_mvt rfl ?_
    refine op_run ((r_add rfl rfl).val (congrArg (Value.int .i64) (show IntKind.i64.wrap (((64 * k : Nat) : Int) + 64) = ((64 * k + 64 : Nat) : Int) from (wrap_i64 (by omega) (by omega)).trans (by omega)))) rfl ?_
    refine o_mvt rfl ?_
    refine o_mvt rfl ?_
    refine op_run ((r_add rfl rfl).val (congrArg (Value.int .i64) (show IntKind.i64.wrap (((64 * k : Nat) : Int) + 64) = ((64 * k + 64 : Nat) : Int) from (wrap_i64 (by omega) (by omega)).trans (by omega)))) rfl ?_
    refine op_run ((r_sliceS_lohimx rfl rfl rfl rfl rfl ti_u8 (by omega) (by omega) (by omega) (by omega)).val (show subSl (some ⟨g, 0, none⟩) 1 (64 * k) (64 * k + 64) (64 * k + 64) = .slice (some ⟨g, 64 * k, none⟩) 64 64 from (subSl_lit (by omega)).trans (by rw [Nat.zero_add, Nat.add_sub_cancel_left]))) rfl ?_
    refine op_yield rfl rfl (hY k _ w8 hJ8 hkN rfl) ?_; rintro b11 w11 ⟨hT11, hF11⟩
    refine op_run (r_not rfl) rfl ?_
    refine ops_nil ?_
    refine W_cond rfl (fun h12 => ?_) (fun h12 => ?_)
    · refine W_ret ?_
      refine ret0' rfl ?_
      exact .inr (hF11 (by simpa using h12))
    · refine W_skip ?_
      refine W_region ?_
      refine o_mvt rfl ?_
      refine op_run (r_load rfl rfl rfl ((hJR _ _ (hT11 (by simpa using h12))).2.cell rfl)) rfl ?_
      refine op_run ((r_add rfl rfl).val (congrArg (Value.int .i64) (show IntKind.i64.wrap (((64 * k : Nat) : Int) + 64) = ((64 * (k + 1) : Nat) : Int) from (wrap_i64 (by omega) (by omega)).trans (by omega)))) rfl ?_
      refine o_ast rfl ?_
      refine ops_nil ?_
      refine ⟨by (repeat (first | with_reducible exact offM_refl _ _ | refine offM_updc rfl ?_ | refine offM_upd rfl ?_ | refine offM_updo rfl ?_ | refine offM_updo_none ?_ | refine offM_head rfl rfl ?_)), ⟨k + 1, rfl, by omega, hT11 (by simpa using h12)⟩, ?_⟩
      show 64 * N - ((64 * (k + 1) : Nat) : Int).toNat < 64 * N - ((64 * k : Nat) : Int).toNat
      omega
  · refine W_exit ?_
    refine ret0 rfl ?_
    have e : k = N := by omega
    subst e
    exact .inl hJ1
theorem ck_seq (g N c b1 b2 : Nat) (hN : N < 1000000) (hc : 64 * N ≤ c) (hcm : c ≤ maxLen) : SeqW Try.prog 48 #[.pointer (some ⟨b1, 0, none⟩), .pointer (some ⟨b2, 0, none⟩)] N (ckE g) (ckR b1 b2 (.slice (some ⟨g, 0, none⟩) (64 * N) c)) :=
  fun l J Jx w h1 h2 h3 h4 h5 => by have h := ck_walk g N c b1 b2 hN hc hcm l J Jx w h1 h2 h4 h5; simpa using h

theorem sl_CloneB (w : World) (v : Value) (bs : List UInt8) (hx : By w v bs) (hl : bs.length ≤ 1000000) :
    Ret Try.prog 40 [v].toArray w fun r w' => OwnB w' 5 r bs ∧ InB (fun b => w.heap.size ≤ b) r ∧ Keep All w w' := by
  obtain ⟨a, c, rfl, hc, hcm⟩ := hx.form
  refine enter (fn := Try.f40) (n := 8) Try.func40 rfl rfl (by simp) ?_
  refine W_seq ?_
  refine W_region ?_
  refine o_asc rfl ?_
  refine ops_nil ?_
  refine W_seq ?_
  refine W_seq ?_
  refine W_region ?_
  refine o_mvt rfl ?_
  refine op_run (r_isNilS rfl rfl) rfl ?_
  refine ops_nil ?_
  refine W_cond rfl (fun h1 => ?_) (fun h1 => ?_)
  · refine W_seq ?_
    refine W_region ?_
    refine o_asc rfl ?_
    refine ops_nil ?_
    refine W_ret ?_
    refine ret1 (.slice none 0 0) rfl rfl ?_
    have hn : bs.length = 0 := by
      obtain ⟨a', c', e, h6, h7, h8, h9, _⟩ := hx
      cases e
      cases a with
      | none => have := h9 rfl; omega
      | some y => cases h1
    obtain rfl := List.eq_nil_of_length_eq_zero hn
    exact ⟨own_nil _ _ _, InB.nil, Keep.refl _⟩
  · refine W_skip ?_
    refine W_seq ?_
    refine W_region ?_
    refine o_bs0 rfl rfl rfl ?_; intro w3 b3 e3 hB3 hk3 hs3
    refine o_mvt rfl ?_
    refine o_appS (v := .slice (some ⟨b3, 0, none⟩) 0 0) rfl rfl (hx.keep hk3 (fun _ _ => trivial)) rfl ti_u8 rfl rfl (Own.blk hB3 rfl (by unfold maxLen; omega)) (all_c8 _) (by unfold maxLen; omega) (by omega) rfl ?_; intro v4 w4 hown4 hk4 hb4
    refine o_ast rfl ?_
    refine ops_nil ?_
    refine W_ret ?_
    refine ret1 v4 rfl ?_ ?_; rfl
    refine ⟨by simpa using hown4, fun b hb => ?_, hk3.own hk4 ?_⟩
    · rcases hb4 b hb with h | h
      · cases h; show w.heap.size ≤ b3; omega
      · omega
    · intro b h; cases h; intro _; show w.heap.size ≤ b3; omega
end Go.Proofs.Ytnjepmdgbkhoaaa.B
