/-
  trie: put.
-/
import Derived.Test.YtpiidddccmohdaaTreW1
namespace Go.Proofs.Ytpiidddccmohdaa.B
open Go
set_option linter.unusedVariables false
set_option maxHeartbeats 2000000
set_option maxRecDepth 100000
attribute [local irreducible] W OpsW OpsQ retP
theorem Sl.one1 {w : World} {v : Value} {n sz : Nat} {cs : List Value} (h : Sl w v n sz cs) : one v = true := by obtain ⟨_, _, rfl, _⟩ := h.form; rfl
theorem By.dropS {w : World} {a : Option Addr} {n c k : Nat} {xs : List UInt8} (h : By w (.slice a n c) xs) (hk : k ≤ n) : By w (subSl a 1 k n c) (xs.drop k) := by
  obtain ⟨a', c', e, h1, h2⟩ := h.form
  injection e with e1 e2 e3; subst e1; subst e2; subst e3
  have := Sl.sub (l := k) (h := xs.length) (m := c) h hk (Nat.le_refl _) h1 (Nat.le_refl _)
  rw [Nat.mul_one, Nat.mul_one, List.take_of_length_le (by simp), ← List.map_drop] at this
  unfold By
  rw [List.length_drop]; exact this
theorem By.takeS {w : World} {a : Option Addr} {n c k : Nat} {xs : List UInt8} (h : By w (.slice a n c) xs) (hk : k ≤ n) : By w (subSl a 1 0 k c) (xs.take k) := by
  obtain ⟨a', c', e, h1, h2⟩ := h.form
  injection e with e1 e2 e3; subst e1; subst e2; subst e3
  have := Sl.sub (l := 0) (h := k) (m := c) h (Nat.zero_le _) hk (by omega) (Nat.le_refl _)
  rw [List.drop_zero, Nat.sub_zero, ← List.map_take, Nat.mul_one] at this
  unfold By
  rw [List.length_take, Nat.min_eq_left hk]; exact this
theorem putT_split {T : Tre} {rest val : List UInt8} (hT : T ≠ .no) (h : comm (begT T) rest < (begT T).length) : putT T rest val = splitT T rest val (comm (begT T) rest) := by
  cases T with
  | no => exact absurd rfl hT
  | leaf b v => rw [putT]; exact if_pos h
  | branch b k => rw [putT]; exact if_pos h
theorem wf_beg {T : Tre} {L : Nat} (h : T.wf L) : (begT T).length ≤ L ∧ nib16 (begT T) := by
  cases T with
  | no => exact ⟨Nat.zero_le _, fun x h => by cases h⟩
  | leaf b v => exact ⟨by rw [show (begT (.leaf b v)).length = L from h.1]; exact Nat.le_refl _, h.2⟩
  | branch b k => exact ⟨Nat.le_of_lt h.1, h.2.1⟩
def PutIH (L : Nat) : Prop := ∀ (w : World) (T : Tre) (v vr vv : Value) (rest val : List UInt8), L ≤ 64 → T.wf L → rest.length = L → nib16 rest → NodeIn w T v → By w vr rest → By w vv val →
  Ret Try.prog 38 [v, vr, vv].toArray w fun r w' => NodeIn w' (putT T rest val) r ∧ Keep All w w'
theorem tr_put1 (L : Nat) (IH : ∀ L', L' < L → PutIH L') : PutIH L := by
  intro w T v vr vv rest val hL64 hwf hrl hrn hv hr hval
  obtain ⟨a, rfl, han⟩ := hv.ptr
  obtain ⟨a0, c0, rfl, hc0, hcm0⟩ := hr.form
  obtain ⟨a1, c1, rfl, hc1, hcm1⟩ := hval.form
  refine enter (fn := Try.f38) (n := 117) Try.func38 rfl rfl (by simp) ?_
  refine W_seq ?_
  refine W_region ?_
  refine o_asc rfl ?_
  refine ops_nil ?_
  refine W_seq ?_
  refine W_seq ?_
  refine W_region ?_
  refine o_mvt rfl ?_
  refine op_run (r_isNilP rfl rfl) rfl ?_
  refine ops_nil ?_
  refine W_cond rfl (fun h1 => ?_) (fun h1 => ?_)
  · refine W_seq ?_
    refine W_region ?_
    refine o_mvt rfl ?_
    refine o_mvt rfl ?_
    have hTn : T = .no := han.1 (by cases a with
      | none => rfl
      | some x => cases h1)
    subst hTn
    refine op_run (r_build ([.slice a0 rest.length c0, .slice a1 val.length c1, .pointer none]) (_) ([(0, .slice a0 rest.length c0), (1, .slice a1 val.length c1)]) rfl rfl rfl rfl rfl (rfl)) rfl ?_
    refine o_box (cs := [.slice a0 rest.length c0, .slice a1 val.length c1, .pointer none]) rfl rfl rfl ?_; intro w3 b3 e3 hB3 hk3 hs3
    refine o_ast rfl ?_
    refine ops_nil ?_
    refine W_ret ?_
    refine ret1 (.pointer (some ⟨b3, 0, none⟩)) rfl ?_ ?_; rfl
    exact ⟨⟨b3, _, _, rfl, hB3, Sl.k hr hk3, Sl.k hval hk3⟩, hk3⟩
  · refine W_skip ?_
    refine W_seq ?_
    refine W_region ?_
    have hT : T ≠ .no := fun e => by
      have := han.2 e
      subst this; cases h1
    obtain ⟨b, vb, vvn, pk, ev_, hB, hb, hvn, hcase⟩ := hv.open hT
    cases ev_
    obtain ⟨ab, cb, rfl, hcb0, hcbm⟩ := hb.form
    have hbl := wf_beg hwf
    have hcl := comm_le (begT T) rest
    have hinc := inc64' (comm (begT T) rest) (by omega)
    refine o_mvt rfl ?_
    refine op_run (r_nilCheck rfl) rfl ?_
    refine op_run (r_fieldAddr rfl rfl rfl rfl rfl) rfl ?_
    refine op_run (r_load rfl rfl rfl (hB.cell rfl)) rfl ?_
    refine o_mvt rfl ?_
    refine op_call rfl rfl rfl (tr_common w _ _ (begT T) rest hb hr) ?_; rintro v6 w6 ⟨rfl, hk6⟩
    refine o_ast rfl ?_
    refine ops_nil ?_
    refine W_seq ?_
    refine W_block ?_
    refine W_seq ?_
    refine W_region ?_
    refine o_mvt rfl ?_
    refine o_mvt rfl ?_
    refine op_run (r_nilCheck rfl) rfl ?_
    refine op_run (r_fieldAddr rfl rfl rfl rfl rfl) rfl ?_
    refine op_run (r_load rfl rfl rfl ((hk6.blk' hB trivial).cell rfl)) rfl ?_
    refine op_run (r_len rfl rfl rfl) rfl ?_
    refine op_run (r_lss rfl rfl) rfl ?_
    refine o_ast rfl ?_
    refine ops_nil ?_
    refine W_cond_p rfl (fun h8 => ?_) (fun h8 => ?_)
    · refine W_seq ?_
      refine W_region ?_
      refine o_mvt rfl ?_
      refine o_mvt rfl ?_
      have hlt : comm (begT T) rest < (begT T).length := by omega
      obtain ⟨p, x, y, bs, rs, hbt, rfl, hxy, hpl⟩ := splits hlt (by omega)
      have hx16 : x.toNat < 16 := hbl.2 x (by rw [hbt]; exact List.mem_append.2 (.inr (List.mem_cons_self ..)))
      have hy16 : y.toNat < 16 := hrn y (List.mem_append.2 (.inr (List.mem_cons_self ..)))
      obtain ⟨aT, cT, cT2, hsub⟩ : ∃ aT cT cT2, subSl a0 1 0 (comm (begT T) (p ++ y :: rs)) c0 = .slice aT cT cT2 := by
        obtain ⟨x1, x2, e, _⟩ := (By.takeS hr hcl.2).form; exact ⟨_, _, _, e⟩
      have hBT : By w (.slice aT cT cT2) p := by
        have := By.takeS hr hcl.2
        rw [hsub] at this
        rwa [show (p ++ y :: rs).take (comm (begT T) (p ++ y :: rs)) = p from by rw [← hpl]; exact List.take_left] at this
      refine op_run (r_sliceS_hi rfl rfl rfl rfl (by omega) (by omega)) rfl ?_
      refine op_run (r_buildA ((List.replicate 16 (.pointer none))) (_) ([]) rfl rfl rfl rfl rfl (rfl)) rfl ?_
      refine o_box rfl rfl rfl ?_; intro w11 b11 e11 hB11 hk11 hs11
      refine op_run (r_build ([.slice aT cT cT2, .slice none 0 0, .pointer (some ⟨b11, 0, none⟩)]) (_) ([(0, subSl a0 1 0 (comm (begT T) (p ++ y :: rs)) c0), (2, .pointer (some ⟨b11, 0, none⟩))]) rfl rfl rfl rfl rfl ((by rw [hsub]; rfl))) rfl ?_
      refine o_box (cs := [.slice aT cT cT2, .slice none 0 0, .pointer (some ⟨b11, 0, none⟩)]) rfl rfl rfl ?_; intro w13 b13 e13 hB13 hk13 hs13
      have hB11 : Blk w11 b11 (List.replicate 16 (.pointer none)) 88 := hB11
      have hB13 : Blk w13 b13 [.slice aT cT cT2, .slice none 0 0, .pointer (some ⟨b11, 0, none⟩)] 69 := hB13
      have hk013 : Keep All w w13 := (hk6.trans hk11).trans hk13
      have hz6 := hk6.size
      have hne : b13 ≠ b11 := by omega
      obtain ⟨bp, op, cp, ep, _, _, hcx⟩ := hb.at (by rw [hbt, List.length_append, List.length_cons]; omega)
      cases ep
      obtain ⟨bq, oq, cq, eq_, _, _, hcy⟩ := hr.at (by rw [List.length_append, List.length_cons]; omega)
      cases eq_
      have hgx : ((begT T).map c8)[comm (begT T) (p ++ y :: rs)]? = some (c8 x) := by rw [← hpl, hbt, List.getElem?_map, List.getElem?_append_right (Nat.le_refl _), Nat.sub_self]; rfl
      have hgy : ((p ++ y :: rs).map c8)[comm (begT T) (p ++ y :: rs)]? = some (c8 y) := by rw [← hpl, List.getElem?_map, List.getElem?_append_right (Nat.le_refl _), Nat.sub_self]; rfl
      have hd1 := By.dropS (k := comm (begT T) (p ++ y :: rs) + 1) hb (by omega)
      have hd2 := By.dropS (k := comm (begT T) (p ++ y :: rs) + 1) hr (by omega)
      obtain ⟨aX, cX, eX, _⟩ := hd1.form
      obtain ⟨aY, cY, eY, _⟩ := hd2.form
      rw [eX] at hd1
      rw [eY] at hd2
      obtain ⟨nX, hnX⟩ : ∃ nX, nX = ((begT T).drop (comm (begT T) (p ++ y :: rs) + 1)).length := ⟨_, rfl⟩
      obtain ⟨nY, hnY⟩ : ∃ nY, nY = ((p ++ y :: rs).drop (comm (begT T) (p ++ y :: rs) + 1)).length := ⟨_, rfl⟩
      rw [← hnX] at eX
      rw [← hnY] at eY
      refine o_ast rfl ?_
      refine ops_nil ?_
      refine W_seq ?_
      refine W_held (fun w' => Keep All w w' ∧ Blk w' b13 [.slice aT cT cT2, .slice none 0 0, .pointer (some ⟨b11, 0, none⟩)] 69) (by kernel_rfl) (⟨hk013.trans (Keep.drawn w13), (Keep.drawn w13).blk' hB13 trivial⟩) (fun hS => ?_)
      refine any_mvt 0 rfl (by kernel_rfl) (by kernel_rfl) (by kernel_rfl) rfl hS ?_
      refine any_run 1 (fun w' hS' => (r_nilCheck rfl)) rfl (by kernel_rfl) (by kernel_rfl) (by kernel_rfl) rfl hS ?_
      refine any_run 2 (fun w' hS' => (r_fieldAddr rfl rfl rfl rfl rfl)) rfl (by kernel_rfl) (by kernel_rfl) (by kernel_rfl) rfl hS ?_
      refine any_run 3 (fun w' hS' => (r_load rfl rfl rfl ((hS'.2.cell rfl)))) rfl (by kernel_rfl) (by kernel_rfl) (by kernel_rfl) rfl hS ?_
      refine any_mvt 4 rfl (by kernel_rfl) (by kernel_rfl) (by kernel_rfl) rfl hS ?_
      refine any_run 5 (fun w' hS' => (r_nilCheck rfl)) rfl (by kernel_rfl) (by kernel_rfl) (by kernel_rfl) rfl hS ?_
      refine any_run 6 (fun w' hS' => (r_fieldAddr rfl rfl rfl rfl rfl)) rfl (by kernel_rfl) (by kernel_rfl) (by kernel_rfl) rfl hS ?_
      refine any_run 7 (fun w' hS' => (r_load rfl rfl rfl (((hS'.1.blk' hB trivial).cell rfl)))) rfl (by kernel_rfl) (by kernel_rfl) (by kernel_rfl) rfl hS ?_
      refine any_mvt 8 rfl (by kernel_rfl) (by kernel_rfl) (by kernel_rfl) rfl hS ?_
      refine any_run 9 (fun w' hS' => (r_idxS1 rfl rfl rfl rfl (by omega) (by omega))) rfl (by kernel_rfl) (by kernel_rfl) (by kernel_rfl) rfl hS ?_
      refine any_run 10 (fun w' hS' => (r_load (v := c8 x) rfl rfl rfl (hS'.1.cell (by rw [Int.toNat_natCast]; exact hcx _ _ hgx) trivial))) rfl (by kernel_rfl) (by kernel_rfl) (by kernel_rfl) rfl hS ?_
      refine any_mvt 11 rfl (by kernel_rfl) (by kernel_rfl) (by kernel_rfl) rfl hS ?_
      refine any_run 12 (fun w' hS' => (r_nilCheck rfl)) rfl (by kernel_rfl) (by kernel_rfl) (by kernel_rfl) rfl hS ?_
      refine any_run 13 (fun w' hS' => (r_fieldAddr rfl rfl rfl rfl rfl)) rfl (by kernel_rfl) (by kernel_rfl) (by kernel_rfl) rfl hS ?_
      refine any_run 14 (fun w' hS' => (r_load rfl rfl rfl (((hS'.1.blk' hB trivial).cell rfl)))) rfl (by kernel_rfl) (by kernel_rfl) (by kernel_rfl) rfl hS ?_
      refine any_mvt 15 rfl (by kernel_rfl) (by kernel_rfl) (by kernel_rfl) rfl hS ?_
      refine any_run 16 (fun w' hS' => ((r_add rfl rfl).val (congrArg (Value.int .i64) hinc))) rfl (by kernel_rfl) (by kernel_rfl) (by kernel_rfl) rfl hS ?_
      refine any_run 17 (fun w' hS' => (r_sliceS_lo rfl rfl rfl rfl (by omega) (by omega))) rfl (by kernel_rfl) (by kernel_rfl) (by kernel_rfl) rfl hS ?_
      refine any_mvt 18 rfl (by kernel_rfl) (by kernel_rfl) (by kernel_rfl) rfl hS ?_
      refine any_run 19 (fun w' hS' => (r_nilCheck rfl)) rfl (by kernel_rfl) (by kernel_rfl) (by kernel_rfl) rfl hS ?_
      refine any_run 20 (fun w' hS' => (r_fieldAddr rfl rfl rfl rfl rfl)) rfl (by kernel_rfl) (by kernel_rfl) (by kernel_rfl) rfl hS ?_
      refine any_run 21 (fun w' hS' => (r_load rfl rfl rfl (((hS'.1.blk' hB trivial).cell rfl)))) rfl (by kernel_rfl) (by kernel_rfl) (by kernel_rfl) rfl hS ?_
      refine any_mvt 22 rfl (by kernel_rfl) (by kernel_rfl) (by kernel_rfl) rfl hS ?_
      refine any_run 23 (fun w' hS' => (r_nilCheck rfl)) rfl (by kernel_rfl) (by kernel_rfl) (by kernel_rfl) rfl hS ?_
      refine any_run 24 (fun w' hS' => (r_fieldAddr rfl rfl rfl rfl rfl)) rfl (by kernel_rfl) (by kernel_rfl) (by kernel_rfl) rfl hS ?_
      refine any_run 25 (fun w' hS' => (r_load rfl rfl rfl (((hS'.1.blk' hB trivial).cell rfl)))) rfl (by kernel_rfl) (by kernel_rfl) (by kernel_rfl) rfl hS ?_
      refine any_run 26 (fun w' hS' => (r_build ([.slice aX nX cX, vvn, .pointer pk]) (_) ([(0, subSl (some ⟨bp, op, none⟩) 1 (comm (begT T) (p ++ y :: rs) + 1) (begT T).length cb), (1, vvn), (2, .pointer pk)]) rfl rfl rfl rfl rfl ((by rw [eX]; clear hB hcase hv; cases vvn <;> (try rfl); all_goals cases hvn)))) rfl (by kernel_rfl) (by kernel_rfl) (by kernel_rfl) rfl hS ?_
      refine any_run 28 (fun w' hS' => (r_nilCheck rfl)) rfl (by kernel_rfl) (by kernel_rfl) (by kernel_rfl) rfl hS ?_
      refine any_one 27 (by kernel_rfl) (one_of rfl ?_)
      refine o_box (cs := [.slice aX nX cX, vvn, .pointer pk]) rfl rfl rfl ?_; intro w24 b24 e24 hB24 hk24 hs24
      have hne24 : b24 ≠ b11 := by have e : b24 = w13.heap.size := e24; omega
      refine ops_nil ⟨⟨hS.1.trans hk24, hk24.blk' hS.2 trivial⟩, fun hS => ?_⟩
      refine any_run 29 (fun w' hS' => (r_idxA1 rfl rfl rfl rfl (by omega) (by omega))) rfl (by kernel_rfl) (by kernel_rfl) (by kernel_rfl) rfl hS ?_
      refine any_one 30 (by kernel_rfl) (one_of rfl ?_)
      refine o_store (v := (.pointer (some ⟨b24, 0, none⟩))) rfl rfl rfl rfl (hk24.blk' ((Keep.drawn w13).blk' (hk13.blk' hB11 trivial) trivial) trivial) (by (rw [List.length_replicate, Int.toNat_natCast]; omega)) rfl ?_; intro w27 hB27 hk27 hs27
      refine ops_nil ⟨⟨hS.1.new hk27 (by omega), hk27.blk' hS.2 hne⟩, fun hS => ?_⟩
      refine any_done (by kernel_rfl) ?_
      refine W_seq ?_
      refine W_held (fun w' => Keep All w w' ∧ Blk w' b13 [.slice aT cT cT2, .slice none 0 0, .pointer (some ⟨b11, 0, none⟩)] 69) (by kernel_rfl) (⟨hS.1.trans (Keep.drawn w27), (Keep.drawn w27).blk' hS.2 trivial⟩) (fun hS => ?_)
      refine any_mvt 0 rfl (by kernel_rfl) (by kernel_rfl) (by kernel_rfl) rfl hS ?_
      refine any_run 1 (fun w' hS' => (r_nilCheck rfl)) rfl (by kernel_rfl) (by kernel_rfl) (by kernel_rfl) rfl hS ?_
      refine any_run 2 (fun w' hS' => (r_fieldAddr rfl rfl rfl rfl rfl)) rfl (by kernel_rfl) (by kernel_rfl) (by kernel_rfl) rfl hS ?_
      refine any_run 3 (fun w' hS' => (r_load rfl rfl rfl ((hS'.2.cell rfl)))) rfl (by kernel_rfl) (by kernel_rfl) (by kernel_rfl) rfl hS ?_
      refine any_mvt 4 rfl (by kernel_rfl) (by kernel_rfl) (by kernel_rfl) rfl hS ?_
      refine any_mvt 5 rfl (by kernel_rfl) (by kernel_rfl) (by kernel_rfl) rfl hS ?_
      refine any_run 6 (fun w' hS' => (r_idxS1 rfl rfl rfl rfl (by omega) (by omega))) rfl (by kernel_rfl) (by kernel_rfl) (by kernel_rfl) rfl hS ?_
      refine any_run 7 (fun w' hS' => (r_load (v := c8 y) rfl rfl rfl (hS'.1.cell (by rw [Int.toNat_natCast]; exact hcy _ _ hgy) trivial))) rfl (by kernel_rfl) (by kernel_rfl) (by kernel_rfl) rfl hS ?_
      refine any_mvt 8 rfl (by kernel_rfl) (by kernel_rfl) (by kernel_rfl) rfl hS ?_
      refine any_mvt 9 rfl (by kernel_rfl) (by kernel_rfl) (by kernel_rfl) rfl hS ?_
      refine any_run 10 (fun w' hS' => ((r_add rfl rfl).val (congrArg (Value.int .i64) hinc))) rfl (by kernel_rfl) (by kernel_rfl) (by kernel_rfl) rfl hS ?_
      refine any_run 11 (fun w' hS' => (r_sliceS_lo rfl rfl rfl rfl (by omega) (by omega))) rfl (by kernel_rfl) (by kernel_rfl) (by kernel_rfl) rfl hS ?_
      refine any_mvt 12 rfl (by kernel_rfl) (by kernel_rfl) (by kernel_rfl) rfl hS ?_
      refine any_run 13 (fun w' hS' => (r_build ([.slice aY nY cY, .slice a1 val.length c1, .pointer none]) (_) ([(0, subSl (some ⟨bq, oq, none⟩) 1 (comm (begT T) (p ++ y :: rs) + 1) (p ++ y :: rs).length c0), (1, .slice a1 val.length c1)]) rfl rfl rfl rfl rfl ((by rw [eY]; rfl)))) rfl (by kernel_rfl) (by kernel_rfl) (by kernel_rfl) rfl hS ?_
      refine any_run 15 (fun w' hS' => (r_nilCheck rfl)) rfl (by kernel_rfl) (by kernel_rfl) (by kernel_rfl) rfl hS ?_
      refine any_one 14 (by kernel_rfl) (one_of rfl ?_)
      refine o_box (cs := [.slice aY nY cY, .slice a1 val.length c1, .pointer none]) rfl rfl rfl ?_; intro w35 b35 e35 hB35 hk35 hs35
      have hne35 : b35 ≠ b11 := by have e : b35 = w27.heap.size := e35; have e2 : b24 = w13.heap.size := e24; omega
      refine ops_nil ⟨⟨hS.1.trans hk35, hk35.blk' hS.2 trivial⟩, fun hS => ?_⟩
      refine any_run 16 (fun w' hS' => (r_idxA1 rfl rfl rfl rfl (by omega) (by omega))) rfl (by kernel_rfl) (by kernel_rfl) (by kernel_rfl) rfl hS ?_
      refine any_one 17 (by kernel_rfl) (one_of rfl ?_)
      refine o_store (v := (.pointer (some ⟨b35, 0, none⟩))) rfl rfl rfl rfl (hk35.blk' ((Keep.drawn w27).blk' hB27 trivial) trivial) (by (rw [List.length_set, List.length_replicate, Int.toNat_natCast]; omega)) rfl ?_; intro w38 hB38 hk38 hs38
      refine ops_nil ⟨⟨hS.1.new hk38 (by omega), hk38.blk' hS.2 hne⟩, fun hS => ?_⟩
      refine any_done (by kernel_rfl) ?_
      refine W_seq ?_
      refine W_region ?_
      refine o_mvt rfl ?_
      refine o_ast rfl ?_
      refine ops_nil ?_
      refine W_ret ?_
      refine ret1 (.pointer (some ⟨b13, 0, none⟩)) rfl ?_ ?_; rfl
      refine ⟨?_, hS.1⟩
      have hdx : (begT T).drop (comm (begT T) (p ++ y :: rs) + 1) = bs := by rw [← hpl, hbt, drop_mid]
      have hdy : (p ++ y :: rs).drop (comm (begT T) (p ++ y :: rs) + 1) = rs := by rw [← hpl, drop_mid]
      rw [hdx] at hd1 hnX
      rw [hdy] at hd2 hnY
      rw [← hnX] at hd1
      have hX : By w (.slice aX nX cX) bs := by have h := hd1; rw [hnX] at h ⊢; exact h
      have hY : By w (.slice aY nY cY) rs := by have h := hd2; rw [hnY]; exact h
      have hB24' : Blk w38 b24 [.slice aX nX cX, vvn, .pointer pk] 69 := hk38.blk' (hk35.blk' ((Keep.drawn w27).blk' (hk27.blk' hB24 hne24) trivial) trivial) hne24
      have hB35' : Blk w38 b35 [.slice aY nY cY, .slice a1 val.length c1, .pointer none] 69 := hk38.blk' hB35 hne35
      have hcase' : (pk = none ∧ ∃ beg val, T = .leaf beg val ∧ By w38 vvn val) ∨ ∃ beg kids bk ps, T = .branch beg kids ∧ pk = some ⟨bk, 0, none⟩ ∧ Blk w38 bk ps 88 ∧ ps.length = 16 ∧ ∀ (i : Nat) (p : Value), ps[i]? = some p → NodeIn w38 (kids i) p := by
        rcases hcase with ⟨e, beg, v0, e2, h⟩ | ⟨beg, kids, bk, ps, e1, e2, h1, h2, h3⟩
        · exact .inl ⟨e, beg, v0, e2, Sl.k h hS.1⟩
        · exact .inr ⟨beg, kids, bk, ps, e1, e2, hS.1.blk' h1 trivial, h2, fun i p hp => (h3 i p hp).k hS.1⟩
      have hXN : NodeIn w38 (reB T bs) (.pointer (some ⟨b24, 0, none⟩)) := NodeIn.re hT (Sl.k hb hS.1) hvn hcase' (Sl.k hX hS.1) hB24'
      have hYN : NodeIn w38 (.leaf rs val) (.pointer (some ⟨b35, 0, none⟩)) := ⟨b35, _, _, rfl, hB35', Sl.k hY hS.1, Sl.k hval hS.1⟩
      rw [putT_split hT hlt, ← hpl, splitT_eq hbt]
      refine ⟨b13, _, _, b11, _, rfl, hS.2, Sl.k hBT hS.1, rfl, hB38, by simp, fun i q hq => ?_⟩
      rw [Nat.zero_add, Nat.zero_add, Int.toNat_natCast, Int.toNat_natCast] at hq
      show NodeIn w38 (if i = y.toNat then .leaf rs val else if i = x.toNat then reB T bs else .no) q
      by_cases hiy : i = y.toNat
      · subst hiy
        rw [List.getElem?_set_self (by simpa using hy16)] at hq
        injection hq with hq; subst hq
        rw [if_pos rfl]; exact hYN
      · rw [List.getElem?_set_ne (fun h => hiy h.symm)] at hq
        rw [if_neg hiy]
        by_cases hix : i = x.toNat
        · subst hix
          rw [List.getElem?_set_self (by simpa using hx16)] at hq
          injection hq with hq; subst hq
          rw [if_pos rfl]; exact hXN
        · rw [List.getElem?_set_ne (fun h => hix h.symm)] at hq
          rw [if_neg hix]
          exact List.eq_of_mem_replicate (List.mem_of_getElem? hq)
    · refine W_seq ?_
      refine W_region ?_
      refine o_mvt rfl ?_
      refine op_run (r_nilCheck rfl) rfl ?_
      refine op_run (r_fieldAddr rfl rfl rfl rfl rfl) rfl ?_
      refine op_run (r_load rfl rfl rfl ((hk6.blk' hB trivial).cell rfl)) rfl ?_
      refine op_run (r_isNilP rfl rfl) rfl ?_
      refine o_ast rfl ?_
      refine ops_nil ?_
      refine W_cond rfl (fun h42 => ?_) (fun h42 => ?_)
      · refine W_seq ?_
        refine W_region ?_
        refine o_mvt rfl ?_
        refine o_mvt rfl ?_
        have hpk : pk = none := by
          cases pk with
          | none => rfl
          | some x => cases h42
        subst hpk
        obtain ⟨beg, v0, rfl⟩ : ∃ beg v0, T = .leaf beg v0 := by
          rcases hcase with ⟨_, beg, v0, e, _⟩ | ⟨_, _, _, _, _, e, _⟩
          · exact ⟨_, _, e⟩
          · cases e
        refine op_run (r_build ([.slice a0 rest.length c0, .slice a1 val.length c1, .pointer none]) (_) ([(0, .slice a0 rest.length c0), (1, .slice a1 val.length c1)]) rfl rfl rfl rfl rfl (rfl)) rfl ?_
        refine o_box (cs := [.slice a0 rest.length c0, .slice a1 val.length c1, .pointer none]) rfl rfl rfl ?_; intro w44 b44 e44 hB44 hk44 hs44
        refine o_ast rfl ?_
        refine ops_nil ?_
        refine W_ret ?_
        refine ret1 (.pointer (some ⟨b44, 0, none⟩)) rfl ?_ ?_; rfl
        have hkk := hk6.trans hk44
        refine ⟨?_, hkk⟩
        rw [putT, if_neg (show ¬ comm beg rest < beg.length from fun h => h8 (by exact_mod_cast h))]
        exact ⟨b44, _, _, rfl, hB44, Sl.k hr hkk, Sl.k hval hkk⟩
      · refine W_skip ?_
        refine W_seq ?_
        obtain ⟨beg, kids, bk, ps, rfl, rfl, hBk, hps, hkids⟩ : ∃ beg kids bk ps, T = .branch beg kids ∧ pk = some ⟨bk, 0, none⟩ ∧ Blk w bk ps 88 ∧ ps.length = 16 ∧ ∀ (i : Nat) (p : Value), ps[i]? = some p → NodeIn w (kids i) p := by
          rcases hcase with ⟨rfl, _⟩ | h
          · cases h42
          · exact h
        have hce : comm beg rest = beg.length := by
          have h8 : ¬ ((comm beg rest : Int) < (beg.length : Int)) := h8
          have := hcl.1
          have : comm beg rest ≤ beg.length := this
          omega
        obtain ⟨rr, hrr⟩ := comm_full hce
        subst hrr
        obtain ⟨y, rs, rfl⟩ : ∃ y rs, rr = y :: rs := by
          cases rr with
          | nil => rw [List.append_nil] at hrl; have := hwf.1; omega
          | cons y rs => exact ⟨y, rs, rfl⟩
        have hy16 : y.toNat < 16 := hrn y (List.mem_append.2 (.inr (List.mem_cons_self ..)))
        obtain ⟨q, hq⟩ : ∃ q, ps[y.toNat]? = some q := ⟨_, List.getElem?_eq_getElem (by omega)⟩
        have hNq := hkids _ _ hq
        obtain ⟨bq, oq, cq, eq_, _, _, hcy⟩ := hr.at (by rw [List.length_append, List.length_cons]; omega)
        cases eq_
        have hgy : ((beg ++ y :: rs).map c8)[comm beg (beg ++ y :: rs)]? = some (c8 y) := by rw [hce, List.getElem?_map, List.getElem?_append_right (Nat.le_refl _), Nat.sub_self]; rfl
        have hcl2 : comm beg (beg ++ y :: rs) < (beg ++ y :: rs).length := by rw [hce, List.length_append, List.length_cons]; omega
        have hcl3 : comm (begT (Tre.branch beg kids)) (beg ++ y :: rs) < (beg ++ y :: rs).length := hcl2
        have hd2 := By.dropS (k := comm beg (beg ++ y :: rs) + 1) hr (by omega)
        have hdr : (beg ++ y :: rs).drop (comm beg (beg ++ y :: rs) + 1) = rs := by rw [hce]; exact drop_mid
        rw [hdr] at hd2
        refine W_held (fun w' => Keep All w w') (by kernel_rfl) (hk6.trans (Keep.drawn w6)) (fun hS => ?_)
        refine any_mvt 0 rfl (by kernel_rfl) (by kernel_rfl) (by kernel_rfl) rfl hS ?_
        refine any_mvt 1 rfl (by kernel_rfl) (by kernel_rfl) (by kernel_rfl) rfl hS ?_
        refine any_mvt 2 rfl (by kernel_rfl) (by kernel_rfl) (by kernel_rfl) rfl hS ?_
        refine any_run 3 (fun w' hS' => (r_idxS1 rfl rfl rfl rfl (by omega) (by omega))) rfl (by kernel_rfl) (by kernel_rfl) (by kernel_rfl) rfl hS ?_
        refine any_run 4 (fun w' hS' => (r_load (v := c8 y) rfl rfl rfl (hS'.cell (by rw [Int.toNat_natCast]; exact hcy _ _ hgy) trivial))) rfl (by kernel_rfl) (by kernel_rfl) (by kernel_rfl) rfl hS ?_
        refine any_mvt 5 rfl (by kernel_rfl) (by kernel_rfl) (by kernel_rfl) rfl hS ?_
        refine any_run 6 (fun w' hS' => (r_nilCheck rfl)) rfl (by kernel_rfl) (by kernel_rfl) (by kernel_rfl) rfl hS ?_
        refine any_run 7 (fun w' hS' => (r_fieldAddr rfl rfl rfl rfl rfl)) rfl (by kernel_rfl) (by kernel_rfl) (by kernel_rfl) rfl hS ?_
        refine any_run 8 (fun w' hS' => (r_load rfl rfl rfl (((hS'.blk' hB trivial).cell rfl)))) rfl (by kernel_rfl) (by kernel_rfl) (by kernel_rfl) rfl hS ?_
        refine any_mvt 9 rfl (by kernel_rfl) (by kernel_rfl) (by kernel_rfl) rfl hS ?_
        refine any_mvt 10 rfl (by kernel_rfl) (by kernel_rfl) (by kernel_rfl) rfl hS ?_
        refine any_run 11 (fun w' hS' => (r_idxS1 rfl rfl rfl rfl (by omega) (by omega))) rfl (by kernel_rfl) (by kernel_rfl) (by kernel_rfl) rfl hS ?_
        refine any_run 12 (fun w' hS' => (r_load (v := c8 y) rfl rfl rfl (hS'.cell (by rw [Int.toNat_natCast]; exact hcy _ _ hgy) trivial))) rfl (by kernel_rfl) (by kernel_rfl) (by kernel_rfl) rfl hS ?_
        refine any_run 13 (fun w' hS' => (r_nilCheck rfl)) rfl (by kernel_rfl) (by kernel_rfl) (by kernel_rfl) rfl hS ?_
        refine any_run 14 (fun w' hS' => (r_idxA1 rfl rfl rfl rfl (by omega) (by omega))) rfl (by kernel_rfl) (by kernel_rfl) (by kernel_rfl) rfl hS ?_
        refine any_run 15 (fun w' hS' => (r_load (v := q) rfl rfl rfl ((hS'.blk' hBk trivial).cell (by rw [Int.toNat_natCast, Nat.zero_add]; exact hq)))) rfl (by kernel_rfl) (by kernel_rfl) (by kernel_rfl) rfl hS ?_
        refine any_mvt 16 rfl (by kernel_rfl) (by kernel_rfl) (by kernel_rfl) rfl hS ?_
        refine any_mvt 17 rfl (by kernel_rfl) (by kernel_rfl) (by kernel_rfl) rfl hS ?_
        refine any_run 18 (fun w' hS' => ((r_add rfl rfl).val (congrArg (Value.int .i64) hinc))) rfl (by kernel_rfl) (by kernel_rfl) (by kernel_rfl) rfl hS ?_
        refine any_run 19 (fun w' hS' => (r_sliceS_lo rfl rfl rfl rfl (by omega) (by omega))) rfl (by kernel_rfl) (by kernel_rfl) (by kernel_rfl) rfl hS ?_
        refine any_mvt 20 rfl (by kernel_rfl) (by kernel_rfl) (by kernel_rfl) rfl hS ?_
        refine any_one 21 (by kernel_rfl) (one_of rfl ?_)
        refine op_call rfl rfl rfl (IH (L - beg.length - 1) (by have := hwf.1; omega) _ (kids y.toNat) q _ _ rs val (by omega) (hwf.2.2.1 _) (by rw [List.length_append, List.length_cons] at hrl; omega) (fun z hz => hrn z (List.mem_append.2 (.inr (List.mem_cons_of_mem _ hz)))) (hNq.k hS) (Sl.k hd2 hS) (Sl.k hval hS)) ?_; rintro v55 w55 ⟨hN55, hk55⟩
        refine ops_nil ⟨hS.trans hk55, fun hS => ?_⟩
        refine any_one 22 (by kernel_rfl) (one_of rfl ?_)
        refine op_call rfl rfl rfl (tr_with w55 _ _ beg kids y hy16 _ (hv.k hS) hN55) ?_; rintro v57 w57 ⟨hN57, hk57⟩
        refine ops_nil ⟨hS.trans hk57, fun hS => ?_⟩
        refine any_ast 23 rfl (by kernel_rfl) (by kernel_rfl) (by kernel_rfl) rfl hS ?_
        refine any_done (by kernel_rfl) ?_
        refine W_ret ?_
        refine ret1 v57 rfl ?_ ?_; rfl
        refine ⟨?_, hS⟩
        rw [putT, if_neg (show ¬ comm beg (beg ++ y :: rs) < beg.length by omega), getD_mid, drop_mid]
        have e : (fun i => if i = y.toNat then putT (kids i) rs val else kids i) = fun i => if i = y.toNat then putT (kids y.toNat) rs val else kids i := by
          funext i; split
          · rename_i h; rw [h]
          · rfl
        rw [e]; exact hN57
theorem tr_put (L : Nat) : PutIH L := by
  induction L using Nat.strongRecOn with
  | ind L ih => exact tr_put1 L ih
end Go.Proofs.Ytpiidddccmohdaa.B
