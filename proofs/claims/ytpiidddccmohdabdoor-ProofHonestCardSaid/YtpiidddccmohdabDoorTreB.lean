/-
  Tries whose nodes stand in blocks that are told: put, drop. (Printed by gen_treb.py, of the texts without blocks.)
-/
import Derived.Test.YtpiidddccmohdabDoorTreP
namespace Go.Proofs.YtpiidddccmohdabDoor.B
open Go
set_option linter.unusedVariables false
set_option maxHeartbeats 2000000
set_option maxRecDepth 100000
attribute [local irreducible] W OpsW OpsQ retP
theorem InB.subT {A : Nat → Prop} {a : Option Addr} {n c sz l h m : Nat} (hb : InB A (.slice a n c)) : InB A (subSl a sz l h m) := by
  intro b e
  unfold subSl at e
  cases a with
  | none => split at e <;> cases e
  | some x =>
    obtain ⟨xb, xo, xs⟩ := x
    split at e
    · exact hb b e
    · refine hb b ?_
      rw [← e]
      simp only [Option.map_some, Value.ownBlock, Addr.add]
      repeat' split
      all_goals rfl
theorem NodeB.ka {B : Nat → Prop} {w w' : World} {T : Tre} {v : Value} (h : NodeB B w T v) (hk : Keep All w w') : NodeB B w' T v := NodeB.k hk (fun _ _ => trivial) h
theorem NodeB.ptr {B : Nat → Prop} {w : World} {T : Tre} {v : Value} (h : NodeB B w T v) : ∃ a, v = .pointer a ∧ (a = none ↔ T = .no) := h.toIn.ptr
def CaseB (B : Nat → Prop) (w : World) (T : Tre) (vv : Value) (pk : Option Addr) : Prop :=
  (pk = none ∧ ∃ beg val, T = .leaf beg val ∧ By w vv val ∧ (val ≠ [] → InB B vv)) ∨ ∃ beg kids bk ps, T = .branch beg kids ∧ pk = some ⟨bk, 0, none⟩ ∧ Blk w bk ps 71 ∧ ps.length = 16 ∧ B bk ∧ ∀ (i : Nat) (p : Value), ps[i]? = some p → NodeB B w (kids i) p
theorem CaseB.ka {B : Nat → Prop} {w w' : World} {T : Tre} {vv : Value} {pk : Option Addr} (h : CaseB B w T vv pk) (hk : Keep All w w') : CaseB B w' T vv pk := by
  rcases h with ⟨e, beg, v0, e2, h, h'⟩ | ⟨beg, kids, bk, ps, e1, e2, h1, h2, h4, h3⟩
  · exact .inl ⟨e, beg, v0, e2, Sl.k h hk, h'⟩
  · exact .inr ⟨beg, kids, bk, ps, e1, e2, hk.blk' h1 trivial, h2, h4, fun i p hp => (h3 i p hp).ka hk⟩
theorem NodeB.openB {B : Nat → Prop} {w : World} {T : Tre} {v : Value} (h : NodeB B w T v) (hn : T ≠ .no) : ∃ b vb vv pk, v = .pointer (some ⟨b, 0, none⟩) ∧ Blk w b [vb, vv, .pointer pk] 69 ∧ By w vb (begT T) ∧ one vv = true ∧ CaseB B w T vv pk ∧ B b ∧ (begT T ≠ [] → InB B vb) := by
  cases T with
  | no => exact absurd rfl hn
  | leaf beg val =>
    obtain ⟨b, vb, vv, e, h1, h2, h3, h4, h5, h6⟩ := h
    exact ⟨b, vb, vv, none, e, h1, h2, h3.one1, .inl ⟨rfl, beg, val, rfl, h3, h6⟩, h4, h5⟩
  | branch beg kids =>
    obtain ⟨b, vb, vv, bk, ps, e, h1, h2, h3, h4, h5, h7, h8, h9, h6⟩ := h
    exact ⟨b, vb, vv, _, e, h1, h2, h3, .inr ⟨beg, kids, bk, ps, rfl, rfl, h4, h5, h8, h6⟩, h7, h9⟩
theorem NodeB.re {B : Nat → Prop} {w : World} {T : Tre} {b : Nat} {vv : Value} {pk : Option Addr} (hT : T ≠ .no) (h3 : one vv = true) (h4 : CaseB B w T vv pk)
    {bs : List UInt8} {vb' : Value} (hb : By w vb' bs) (hi : bs ≠ [] → InB B vb') (hB : Blk w b [vb', vv, .pointer pk] 69) (hBb : B b) : NodeB B w (reB T bs) (.pointer (some ⟨b, 0, none⟩)) := by
  rcases h4 with ⟨rfl, beg, val, rfl, hv, hv2⟩ | ⟨beg, kids, bk, ps, rfl, rfl, h5, h6, h8, h7⟩
  · exact ⟨b, vb', vv, rfl, hB, hb, hv, hBb, hi, hv2⟩
  · exact ⟨b, vb', vv, bk, ps, rfl, hB, hb, h3, h5, h6, hBb, h8, hi, h7⟩
theorem blk_inj {w : World} {b : Nat} {l m : List Value} {e f : TypeId} (h1 : Blk w b l e) (h2 : Blk w b m f) : l = m := by
  have h : some (Obj.cells _ _ _) = some (Obj.cells _ _ _) := h1.symm.trans h2
  injection h with h; injection h with h; exact congrArg Array.toList h
theorem NodeB.and {B C : Nat → Prop} {w : World} : ∀ {T : Tre} {v : Value}, NodeB B w T v → NodeB C w T v → NodeB (fun z => B z ∧ C z) w T v := by
  intro T
  induction T with
  | no => intro v h _; exact h
  | leaf beg val =>
    rintro v ⟨b, vb, vv, rfl, h1, h2, h3, h4, h5, h6⟩ ⟨b', vb', vv', e, g1, g2, g3, g4, g5, g6⟩
    injection e with e; injection e with e; injection e with e
    subst e
    have := blk_inj h1 g1
    injection this with e1 e2; injection e2 with e2
    subst e1; subst e2
    exact ⟨b, vb, vv, rfl, h1, h2, h3, ⟨h4, g4⟩, fun h z hz => ⟨h5 h z hz, g5 h z hz⟩, fun h z hz => ⟨h6 h z hz, g6 h z hz⟩⟩
  | branch beg kids ih =>
    rintro v ⟨b, vb, vv, bk, ps, rfl, h1, h2, h3, h4, h5, h7, h8, h9, h6⟩ ⟨b', vb', vv', bk', ps', e, g1, g2, g3, g4, g5, g7, g8, g9, g6⟩
    injection e with e; injection e with e; injection e with e
    subst e
    have := blk_inj h1 g1
    injection this with e1 e2; injection e2 with e2 e3; injection e3 with e3; injection e3 with e3; injection e3 with e3; injection e3 with e3
    subst e1; subst e2; subst e3
    have := blk_inj h4 g4
    subst this
    exact ⟨b, vb, vv, bk, ps, rfl, h1, h2, h3, h4, h5, ⟨h7, g7⟩, ⟨h8, g8⟩, fun h z hz => ⟨h9 h z hz, g9 h z hz⟩, fun i p hp => ih i (h6 i p hp) (g6 i p hp)⟩
theorem NodeB.lt {B : Nat → Prop} {w : World} {T : Tre} {v : Value} (h : NodeB B w T v) : NodeB (fun z => B z ∧ z < w.heap.size) w T v := by
  have h2 := NodeB.and h h.toIn.toB0
  exact NodeB.mono (fun z hz => ⟨hz.1, hz.2.1⟩) h2
theorem tb_with (B : Nat → Prop) (lo : Nat) (hNew : ∀ z, lo ≤ z → B z) (w : World) (hlo : lo ≤ w.heap.size) (v vk : Value) (beg : List UInt8) (kids : Nat → Tre) (at_ : UInt8) (hat : at_.toNat < 16) (K : Tre) (hv : NodeB B w (.branch beg kids) v) (hK : NodeB B w K vk) :
    Ret Tryd.prog 30 [v, .int .u8 at_.toNat, vk].toArray w fun r w' => NodeB B w' (.branch beg fun i => if i = at_.toNat then K else kids i) r ∧ Keep All w w' := by
  obtain ⟨b, vb, vv, bk, ps, rfl, h1, h2, h3, h4, h5, h7, h8, h9, h6⟩ := hv
  obtain ⟨ak, rfl, _⟩ := hK.ptr
  obtain ⟨ab, cb, rfl, _, _⟩ := h2.form
  refine enter (fn := Tryd.f30) (n := 23) Tryd.func30 rfl rfl (by simp) ?_
  refine W_seq ?_
  refine W_region ?_
  refine o_asc rfl ?_
  refine ops_nil ?_
  refine W_seq ?_
  refine W_region ?_
  refine o_mvt rfl ?_
  refine op_run (r_nilCheck rfl) rfl ?_
  refine op_run (r_fieldAddr rfl rfl rfl rfl rfl) rfl ?_
  refine op_run (r_load rfl rfl rfl (h1.cell rfl)) rfl ?_
  refine op_run (r_nilCheck rfl) rfl ?_
  refine op_run (r_loadA (ps) rfl rfl rfl (by first | rfl | (rw [binV_len]; rfl) | (rw [dgR_len]; rfl) | (rw [refR_len]; rfl) | (rw [secR_len]; rfl) | (rw [List.length_map, tagF_len]; rfl) | (rw [h5]; rfl)) (h4.all)) rfl ?_
  refine o_alloc rfl rfl rfl ?_; intro w3 b3 e3 hB3 hk3 hs3
  refine o_storeA (cs := ps) rfl rfl (by first | rfl | exact binV_one _ | exact dgR_one _ | exact refR_one _ | exact secR_one _ | exact all_c8 _ | exact nodes_one (fun i p hp => (h6 i p hp).toIn)) (by first | rfl | (rw [binV_len]; rfl) | (rw [dgR_len]; rfl) | (rw [refR_len]; rfl) | (rw [secR_len]; rfl) | (rw [List.length_map, tagF_len]; rfl) | (rw [h5]; rfl)) hB3 (by (rw [h5]; exact Nat.le_refl _)) rfl ?_; intro w4 hB4 hk4 hs4
  have hB4 : Blk w4 b3 ps 71 := by
    have h := hB4
    rwa [splice_all (by rw [h5]; rfl)] at h
  have hk04 : Keep All w w4 := hk3.new hk4 (by omega)
  refine ops_nil ?_
  refine W_seq ?_
  refine W_region ?_
  refine o_mvt rfl ?_
  refine o_mvt rfl ?_
  refine op_run (r_idxA1 rfl rfl rfl rfl (by omega) (by omega)) rfl ?_
  refine o_store (v := .pointer ak) rfl rfl rfl rfl hB4 (by (rw [h5, Int.toNat_natCast]; omega)) rfl ?_; intro w6 hB6 hk6 hs6
  have hB6 : Blk w6 b3 (ps.set at_.toNat (.pointer ak)) 71 := by
    have h := hB6
    rwa [Int.toNat_natCast, Nat.zero_add] at h
  have hk06 : Keep All w w6 := hk04.new hk6 (by omega)
  refine ops_nil ?_
  refine W_seq ?_
  refine W_region ?_
  refine o_mvt rfl ?_
  refine op_run (r_nilCheck rfl) rfl ?_
  refine op_run (r_fieldAddr rfl rfl rfl rfl rfl) rfl ?_
  refine op_run (r_load rfl rfl rfl ((hk06.blk' h1 trivial).cell rfl)) rfl ?_
  refine op_run (r_build ([.slice ab beg.length cb, .slice none 0 0, .pointer (some ⟨b3, 0, none⟩)]) (_) ([(0, .slice ab beg.length cb), (2, .pointer (some ⟨b3, 0, none⟩))]) rfl rfl rfl rfl rfl (rfl)) rfl ?_
  refine o_box (cs := [.slice ab beg.length cb, .slice none 0 0, .pointer (some ⟨b3, 0, none⟩)]) rfl rfl rfl ?_; intro w9 b9 e9 hB9 hk9 hs9
  refine o_ast rfl ?_
  refine ops_nil ?_
  refine W_ret ?_
  refine ret1 (.pointer (some ⟨b9, 0, none⟩)) rfl ?_ ?_; rfl
  have hk09 := hk06.trans hk9
  refine ⟨⟨b9, _, _, b3, _, rfl, hB9, Sl.k h2 hk09, rfl, hk9.blk' hB6 trivial, by rw [List.length_set, h5], hNew b9 (by have := hk06.size; omega), hNew b3 (by omega), h9, fun i p hp => ?_⟩, hk09⟩
  by_cases e : i = at_.toNat
  · subst e
    rw [List.getElem?_set_self (by rw [h5]; exact hat)] at hp
    injection hp with hp; subst hp
    show NodeB B w9 (if at_.toNat = at_.toNat then K else _) _
    rw [if_pos rfl]; exact hK.ka hk09
  · rw [List.getElem?_set_ne (fun h => e h.symm)] at hp
    show NodeB B w9 (if i = at_.toNat then K else kids i) _
    rw [if_neg e]; exact (h6 i p hp).ka hk09
def PutBH (L : Nat) : Prop := ∀ (B : Nat → Prop) (lo : Nat) (hNew : ∀ z, lo ≤ z → B z) (w : World) (T : Tre) (v vr vv : Value) (rest val : List UInt8), lo ≤ w.heap.size → L ≤ 64 → T.wf L → rest.length = L → nib16 rest → NodeB B w T v → By w vr rest → (rest ≠ [] → InB B vr) → By w vv val → (val ≠ [] → InB B vv) →
  Ret Tryd.prog 16 [v, vr, vv].toArray w fun r w' => NodeB B w' (putT T rest val) r ∧ Keep All w w'
theorem tb_put1 (L : Nat) (IH : ∀ L', L' < L → PutBH L') : PutBH L := by
  intro B lo hNew w T v vr vv rest val hlo hL64 hwf hrl hrn hv hr hri hval hvi
  obtain ⟨a, rfl, han⟩ := hv.ptr
  obtain ⟨a0, c0, rfl, hc0, hcm0⟩ := hr.form
  obtain ⟨a1, c1, rfl, hc1, hcm1⟩ := hval.form
  refine enter (fn := Tryd.f16) (n := 117) Tryd.func16 rfl rfl (by simp) ?_
  refine W_seq ?_
  refine W_region ?_
  refine o_asc rfl ?_
  refine ops_nil ?_
  refine W_seq ?_
  refine W_seq ?_
  refine W_region ?_
  refine o_mvt rfl ?_
  refine op_run (r_isNilP rfl rfl) rfl ?_
  refine ops_nil ?_
  refine W_cond rfl (fun h1 => ?_) (fun h1 => ?_)
  · refine W_seq ?_
    refine W_region ?_
    refine o_mvt rfl ?_
    refine o_mvt rfl ?_
    have hTn : T = .no := han.1 (by cases a with
      | none => rfl
      | some x => cases h1)
    subst hTn
    refine op_run (r_build ([.slice a0 rest.length c0, .slice a1 val.length c1, .pointer none]) (_) ([(0, .slice a0 rest.length c0), (1, .slice a1 val.length c1)]) rfl rfl rfl rfl rfl (rfl)) rfl ?_
    refine o_box (cs := [.slice a0 rest.length c0, .slice a1 val.length c1, .pointer none]) rfl rfl rfl ?_; intro w3 b3 e3 hB3 hk3 hs3
    refine o_ast rfl ?_
    refine ops_nil ?_
    refine W_ret ?_
    refine ret1 (.pointer (some ⟨b3, 0, none⟩)) rfl ?_ ?_; rfl
    exact ⟨⟨b3, _, _, rfl, hB3, Sl.k hr hk3, Sl.k hval hk3, hNew b3 (by omega), hri, hvi⟩, hk3⟩
  · refine W_skip ?_
    refine W_seq ?_
    refine W_region ?_
    have hT : T ≠ .no := fun e => by
      have := han.2 e
      subst this; cases h1
    obtain ⟨b, vb, vvn, pk, ev_, hB, hb, hvn, hcase, hBb, hbi⟩ := hv.openB hT
    cases ev_
    obtain ⟨ab, cb, rfl, hcb0, hcbm⟩ := hb.form
    have hbl := wf_beg hwf
    have hcl := comm_le (begT T) rest
    have hinc := inc64' (comm (begT T) rest) (by omega)
    refine o_mvt rfl ?_
    refine op_run (r_nilCheck rfl) rfl ?_
    refine op_run (r_fieldAddr rfl rfl rfl rfl rfl) rfl ?_
    refine op_run (r_load rfl rfl rfl (hB.cell rfl)) rfl ?_
    refine o_mvt rfl ?_
    refine op_call rfl rfl rfl (tr_common w _ _ (begT T) rest hb hr) ?_; rintro v6 w6 ⟨rfl, hk6⟩
    refine o_ast rfl ?_
    refine ops_nil ?_
    refine W_seq ?_
    refine W_block ?_
    refine W_seq ?_
    refine W_region ?_
    refine o_mvt rfl ?_
    refine o_mvt rfl ?_
    refine op_run (r_nilCheck rfl) rfl ?_
    refine op_run (r_fieldAddr rfl rfl rfl rfl rfl) rfl ?_
    refine op_run (r_load rfl rfl rfl ((hk6.blk' hB trivial).cell rfl)) rfl ?_
    refine op_run (r_len rfl rfl rfl) rfl ?_
    refine op_run (r_lss rfl rfl) rfl ?_
    refine o_ast rfl ?_
    refine ops_nil ?_
    refine W_cond_p rfl (fun h8 => ?_) (fun h8 => ?_)
    · refine W_seq ?_
      refine W_region ?_
      refine o_mvt rfl ?_
      refine o_mvt rfl ?_
      have hlt : comm (begT T) rest < (begT T).length := by omega
      obtain ⟨p, x, y, bs, rs, hbt, rfl, hxy, hpl⟩ := splits hlt (by omega)
      have hx16 : x.toNat < 16 := hbl.2 x (by rw [hbt]; exact List.mem_append.2 (.inr (List.mem_cons_self ..)))
      have hy16 : y.toNat < 16 := hrn y (List.mem_append.2 (.inr (List.mem_cons_self ..)))
      obtain ⟨aT, cT, cT2, hsub⟩ : ∃ aT cT cT2, subSl a0 1 0 (comm (begT T) (p ++ y :: rs)) c0 = .slice aT cT cT2 := by
        obtain ⟨x1, x2, e, _⟩ := (By.takeS hr hcl.2).form; exact ⟨_, _, _, e⟩
      have hiT : InB B (.slice aT cT cT2) := by
        have h := InB.subT (sz := 1) (l := 0) (h := comm (begT T) (p ++ y :: rs)) (m := c0) (hri (by simp))
        rw [hsub] at h; exact h
      have hBT : By w (.slice aT cT cT2) p := by
        have := By.takeS hr hcl.2
        rw [hsub] at this
        rwa [show (p ++ y :: rs).take (comm (begT T) (p ++ y :: rs)) = p from by rw [← hpl]; exact List.take_left] at this
      refine op_run (r_sliceS_hi rfl rfl rfl rfl (by omega) (by omega)) rfl ?_
      refine op_run (r_buildA ((List.replicate 16 (.pointer none))) (_) ([]) rfl rfl rfl rfl rfl (rfl)) rfl ?_
      refine o_box rfl rfl rfl ?_; intro w11 b11 e11 hB11 hk11 hs11
      refine op_run (r_build ([.slice aT cT cT2, .slice none 0 0, .pointer (some ⟨b11, 0, none⟩)]) (_) ([(0, subSl a0 1 0 (comm (begT T) (p ++ y :: rs)) c0), (2, .pointer (some ⟨b11, 0, none⟩))]) rfl rfl rfl rfl rfl ((by rw [hsub]; rfl))) rfl ?_
      refine o_box (cs := [.slice aT cT cT2, .slice none 0 0, .pointer (some ⟨b11, 0, none⟩)]) rfl rfl rfl ?_; intro w13 b13 e13 hB13 hk13 hs13
      have hB11 : Blk w11 b11 (List.replicate 16 (.pointer none)) 71 := hB11
      have hB13 : Blk w13 b13 [.slice aT cT cT2, .slice none 0 0, .pointer (some ⟨b11, 0, none⟩)] 69 := hB13
      have hk013 : Keep All w w13 := (hk6.trans hk11).trans hk13
      have hz6 := hk6.size
      have hne : b13 ≠ b11 := by omega
      obtain ⟨bp, op, cp, ep, _, _, hcx⟩ := hb.at (by rw [hbt, List.length_append, List.length_cons]; omega)
      cases ep
      obtain ⟨bq, oq, cq, eq_, _, _, hcy⟩ := hr.at (by rw [List.length_append, List.length_cons]; omega)
      cases eq_
      have hgx : ((begT T).map c8)[comm (begT T) (p ++ y :: rs)]? = some (c8 x) := by rw [← hpl, hbt, List.getElem?_map, List.getElem?_append_right (Nat.le_refl _), Nat.sub_self]; rfl
      have hgy : ((p ++ y :: rs).map c8)[comm (begT T) (p ++ y :: rs)]? = some (c8 y) := by rw [← hpl, List.getElem?_map, List.getElem?_append_right (Nat.le_refl _), Nat.sub_self]; rfl
      have hd1 := By.dropS (k := comm (begT T) (p ++ y :: rs) + 1) hb (by omega)
      have hd2 := By.dropS (k := comm (begT T) (p ++ y :: rs) + 1) hr (by omega)
      obtain ⟨aX, cX, eX, _⟩ := hd1.form
      obtain ⟨aY, cY, eY, _⟩ := hd2.form
      rw [eX] at hd1
      rw [eY] at hd2
      obtain ⟨nX, hnX⟩ : ∃ nX, nX = ((begT T).drop (comm (begT T) (p ++ y :: rs) + 1)).length := ⟨_, rfl⟩
      obtain ⟨nY, hnY⟩ : ∃ nY, nY = ((p ++ y :: rs).drop (comm (begT T) (p ++ y :: rs) + 1)).length := ⟨_, rfl⟩
      rw [← hnX] at eX
      rw [← hnY] at eY
      refine o_ast rfl ?_
      refine ops_nil ?_
      refine W_seq ?_
      refine W_held (fun w' => Keep All w w' ∧ Blk w' b13 [.slice aT cT cT2, .slice none 0 0, .pointer (some ⟨b11, 0, none⟩)] 69) (by kernel_rfl) (⟨hk013.trans (Keep.drawn w13), (Keep.drawn w13).blk' hB13 trivial⟩) (fun hS => ?_)
      refine any_mvt 0 rfl (by kernel_rfl) (by kernel_rfl) (by kernel_rfl) rfl hS ?_
      refine any_run 1 (fun w' hS' => (r_nilCheck rfl)) rfl (by kernel_rfl) (by kernel_rfl) (by kernel_rfl) rfl hS ?_
      refine any_run 2 (fun w' hS' => (r_fieldAddr rfl rfl rfl rfl rfl)) rfl (by kernel_rfl) (by kernel_rfl) (by kernel_rfl) rfl hS ?_
      refine any_run 3 (fun w' hS' => (r_load rfl rfl rfl ((hS'.2.cell rfl)))) rfl (by kernel_rfl) (by kernel_rfl) (by kernel_rfl) rfl hS ?_
      refine any_mvt 4 rfl (by kernel_rfl) (by kernel_rfl) (by kernel_rfl) rfl hS ?_
      refine any_run 5 (fun w' hS' => (r_nilCheck rfl)) rfl (by kernel_rfl) (by kernel_rfl) (by kernel_rfl) rfl hS ?_
      refine any_run 6 (fun w' hS' => (r_fieldAddr rfl rfl rfl rfl rfl)) rfl (by kernel_rfl) (by kernel_rfl) (by kernel_rfl) rfl hS ?_
      refine any_run 7 (fun w' hS' => (r_load rfl rfl rfl (((hS'.1.blk' hB trivial).cell rfl)))) rfl (by kernel_rfl) (by kernel_rfl) (by kernel_rfl) rfl hS ?_
      refine any_mvt 8 rfl (by kernel_rfl) (by kernel_rfl) (by kernel_rfl) rfl hS ?_
      refine any_run 9 (fun w' hS' => (r_idxS1 rfl rfl rfl rfl (by omega) (by omega))) rfl (by kernel_rfl) (by kernel_rfl) (by kernel_rfl) rfl hS ?_
      refine any_run 10 (fun w' hS' => (r_load (v := c8 x) rfl rfl rfl (hS'.1.cell (by rw [Int.toNat_natCast]; exact hcx _ _ hgx) trivial))) rfl (by kernel_rfl) (by kernel_rfl) (by kernel_rfl) rfl hS ?_
      refine any_mvt 11 rfl (by kernel_rfl) (by kernel_rfl) (by kernel_rfl) rfl hS ?_
      refine any_run 12 (fun w' hS' => (r_nilCheck rfl)) rfl (by kernel_rfl) (by kernel_rfl) (by kernel_rfl) rfl hS ?_
      refine any_run 13 (fun w' hS' => (r_fieldAddr rfl rfl rfl rfl rfl)) rfl (by kernel_rfl) (by kernel_rfl) (by kernel_rfl) rfl hS ?_
      refine any_run 14 (fun w' hS' => (r_load rfl rfl rfl (((hS'.1.blk' hB trivial).cell rfl)))) rfl (by kernel_rfl) (by kernel_rfl) (by kernel_rfl) rfl hS ?_
      refine any_mvt 15 rfl (by kernel_rfl) (by kernel_rfl) (by kernel_rfl) rfl hS ?_
      refine any_run 16 (fun w' hS' => ((r_add rfl rfl).val (congrArg (Value.int .i64) hinc))) rfl (by kernel_rfl) (by kernel_rfl) (by kernel_rfl) rfl hS ?_
      refine any_run 17 (fun w' hS' => (r_sliceS_lo rfl rfl rfl rfl (by omega) (by omega))) rfl (by kernel_rfl) (by kernel_rfl) (by kernel_rfl) rfl hS ?_
      refine any_mvt 18 rfl (by kernel_rfl) (by kernel_rfl) (by kernel_rfl) rfl hS ?_
      refine any_run 19 (fun w' hS' => (r_nilCheck rfl)) rfl (by kernel_rfl) (by kernel_rfl) (by kernel_rfl) rfl hS ?_
      refine any_run 20 (fun w' hS' => (r_fieldAddr rfl rfl rfl rfl rfl)) rfl (by kernel_rfl) (by kernel_rfl) (by kernel_rfl) rfl hS ?_
      refine any_run 21 (fun w' hS' => (r_load rfl rfl rfl (((hS'.1.blk' hB trivial).cell rfl)))) rfl (by kernel_rfl) (by kernel_rfl) (by kernel_rfl) rfl hS ?_
      refine any_mvt 22 rfl (by kernel_rfl) (by kernel_rfl) (by kernel_rfl) rfl hS ?_
      refine any_run 23 (fun w' hS' => (r_nilCheck rfl)) rfl (by kernel_rfl) (by kernel_rfl) (by kernel_rfl) rfl hS ?_
      refine any_run 24 (fun w' hS' => (r_fieldAddr rfl rfl rfl rfl rfl)) rfl (by kernel_rfl) (by kernel_rfl) (by kernel_rfl) rfl hS ?_
      refine any_run 25 (fun w' hS' => (r_load rfl rfl rfl (((hS'.1.blk' hB trivial).cell rfl)))) rfl (by kernel_rfl) (by kernel_rfl) (by kernel_rfl) rfl hS ?_
      refine any_run 26 (fun w' hS' => (r_build ([.slice aX nX cX, vvn, .pointer pk]) (_) ([(0, subSl (some ⟨bp, op, none⟩) 1 (comm (begT T) (p ++ y :: rs) + 1) (begT T).length cb), (1, vvn), (2, .pointer pk)]) rfl rfl rfl rfl rfl ((by rw [eX]; clear hB hcase hv; cases vvn <;> (try rfl); all_goals cases hvn)))) rfl (by kernel_rfl) (by kernel_rfl) (by kernel_rfl) rfl hS ?_
      refine any_run 28 (fun w' hS' => (r_nilCheck rfl)) rfl (by kernel_rfl) (by kernel_rfl) (by kernel_rfl) rfl hS ?_
      refine any_one 27 (by kernel_rfl) (one_of rfl ?_)
      refine o_box (cs := [.slice aX nX cX, vvn, .pointer pk]) rfl rfl rfl ?_; intro w24 b24 e24 hB24 hk24 hs24
      have hne24 : b24 ≠ b11 := by have e : b24 = w13.heap.size := e24; omega
      refine ops_nil ⟨⟨hS.1.trans hk24, hk24.blk' hS.2 trivial⟩, fun hS => ?_⟩
      refine any_run 29 (fun w' hS' => (r_idxA1 rfl rfl rfl rfl (by omega) (by omega))) rfl (by kernel_rfl) (by kernel_rfl) (by kernel_rfl) rfl hS ?_
      refine any_one 30 (by kernel_rfl) (one_of rfl ?_)
      refine o_store (v := (.pointer (some ⟨b24, 0, none⟩))) rfl rfl rfl rfl (hk24.blk' ((Keep.drawn w13).blk' (hk13.blk' hB11 trivial) trivial) trivial) (by (rw [List.length_replicate, Int.toNat_natCast]; omega)) rfl ?_; intro w27 hB27 hk27 hs27
      refine ops_nil ⟨⟨hS.1.new hk27 (by omega), hk27.blk' hS.2 hne⟩, fun hS => ?_⟩
      refine any_done (by kernel_rfl) ?_
      refine W_seq ?_
      refine W_held (fun w' => Keep All w w' ∧ Blk w' b13 [.slice aT cT cT2, .slice none 0 0, .pointer (some ⟨b11, 0, none⟩)] 69) (by kernel_rfl) (⟨hS.1.trans (Keep.drawn w27), (Keep.drawn w27).blk' hS.2 trivial⟩) (fun hS => ?_)
      refine any_mvt 0 rfl (by kernel_rfl) (by kernel_rfl) (by kernel_rfl) rfl hS ?_
      refine any_run 1 (fun w' hS' => (r_nilCheck rfl)) rfl (by kernel_rfl) (by kernel_rfl) (by kernel_rfl) rfl hS ?_
      refine any_run 2 (fun w' hS' => (r_fieldAddr rfl rfl rfl rfl rfl)) rfl (by kernel_rfl) (by kernel_rfl) (by kernel_rfl) rfl hS ?_
      refine any_run 3 (fun w' hS' => (r_load rfl rfl rfl ((hS'.2.cell rfl)))) rfl (by kernel_rfl) (by kernel_rfl) (by kernel_rfl) rfl hS ?_
      refine any_mvt 4 rfl (by kernel_rfl) (by kernel_rfl) (by kernel_rfl) rfl hS ?_
      refine any_mvt 5 rfl (by kernel_rfl) (by kernel_rfl) (by kernel_rfl) rfl hS ?_
      refine any_run 6 (fun w' hS' => (r_idxS1 rfl rfl rfl rfl (by omega) (by omega))) rfl (by kernel_rfl) (by kernel_rfl) (by kernel_rfl) rfl hS ?_
      refine any_run 7 (fun w' hS' => (r_load (v := c8 y) rfl rfl rfl (hS'.1.cell (by rw [Int.toNat_natCast]; exact hcy _ _ hgy) trivial))) rfl (by kernel_rfl) (by kernel_rfl) (by kernel_rfl) rfl hS ?_
      refine any_mvt 8 rfl (by kernel_rfl) (by kernel_rfl) (by kernel_rfl) rfl hS ?_
      refine any_mvt 9 rfl (by kernel_rfl) (by kernel_rfl) (by kernel_rfl) rfl hS ?_
      refine any_run 10 (fun w' hS' => ((r_add rfl rfl).val (congrArg (Value.int .i64) hinc))) rfl (by kernel_rfl) (by kernel_rfl) (by kernel_rfl) rfl hS ?_
      refine any_run 11 (fun w' hS' => (r_sliceS_lo rfl rfl rfl rfl (by omega) (by omega))) rfl (by kernel_rfl) (by kernel_rfl) (by kernel_rfl) rfl hS ?_
      refine any_mvt 12 rfl (by kernel_rfl) (by kernel_rfl) (by kernel_rfl) rfl hS ?_
      refine any_run 13 (fun w' hS' => (r_build ([.slice aY nY cY, .slice a1 val.length c1, .pointer none]) (_) ([(0, subSl (some ⟨bq, oq, none⟩) 1 (comm (begT T) (p ++ y :: rs) + 1) (p ++ y :: rs).length c0), (1, .slice a1 val.length c1)]) rfl rfl rfl rfl rfl ((by rw [eY]; rfl)))) rfl (by kernel_rfl) (by kernel_rfl) (by kernel_rfl) rfl hS ?_
      refine any_run 15 (fun w' hS' => (r_nilCheck rfl)) rfl (by kernel_rfl) (by kernel_rfl) (by kernel_rfl) rfl hS ?_
      refine any_one 14 (by kernel_rfl) (one_of rfl ?_)
      refine o_box (cs := [.slice aY nY cY, .slice a1 val.length c1, .pointer none]) rfl rfl rfl ?_; intro w35 b35 e35 hB35 hk35 hs35
      have hne35 : b35 ≠ b11 := by have e : b35 = w27.heap.size := e35; have e2 : b24 = w13.heap.size := e24; omega
      refine ops_nil ⟨⟨hS.1.trans hk35, hk35.blk' hS.2 trivial⟩, fun hS => ?_⟩
      refine any_run 16 (fun w' hS' => (r_idxA1 rfl rfl rfl rfl (by omega) (by omega))) rfl (by kernel_rfl) (by kernel_rfl) (by kernel_rfl) rfl hS ?_
      refine any_one 17 (by kernel_rfl) (one_of rfl ?_)
      refine o_store (v := (.pointer (some ⟨b35, 0, none⟩))) rfl rfl rfl rfl (hk35.blk' ((Keep.drawn w27).blk' hB27 trivial) trivial) (by (rw [List.length_set, List.length_replicate, Int.toNat_natCast]; omega)) rfl ?_; intro w38 hB38 hk38 hs38
      refine ops_nil ⟨⟨hS.1.new hk38 (by omega), hk38.blk' hS.2 hne⟩, fun hS => ?_⟩
      refine any_done (by kernel_rfl) ?_
      refine W_seq ?_
      refine W_region ?_
      refine o_mvt rfl ?_
      refine o_ast rfl ?_
      refine ops_nil ?_
      refine W_ret ?_
      refine ret1 (.pointer (some ⟨b13, 0, none⟩)) rfl ?_ ?_; rfl
      refine ⟨?_, hS.1⟩
      have hdx : (begT T).drop (comm (begT T) (p ++ y :: rs) + 1) = bs := by rw [← hpl, hbt, drop_mid]
      have hdy : (p ++ y :: rs).drop (comm (begT T) (p ++ y :: rs) + 1) = rs := by rw [← hpl, drop_mid]
      rw [hdx] at hd1 hnX
      rw [hdy] at hd2 hnY
      rw [← hnX] at hd1
      have hX : By w (.slice aX nX cX) bs := by have h := hd1; rw [hnX] at h ⊢; exact h
      have hY : By w (.slice aY nY cY) rs := by have h := hd2; rw [hnY]; exact h
      have hB24' : Blk w38 b24 [.slice aX nX cX, vvn, .pointer pk] 69 := hk38.blk' (hk35.blk' ((Keep.drawn w27).blk' (hk27.blk' hB24 hne24) trivial) trivial) hne24
      have hB35' : Blk w38 b35 [.slice aY nY cY, .slice a1 val.length c1, .pointer none] 69 := hk38.blk' hB35 hne35
      have hcase' : CaseB B w38 T vvn pk := hcase.ka hS.1
      have hz13 := hk013.size
      have hiX : InB B (.slice aX nX cX) := by
        have h := InB.subT (sz := 1) (l := comm (begT T) (p ++ y :: rs) + 1) (h := (begT T).length) (m := cb) (hbi (by rw [hbt]; simp))
        rw [eX] at h; exact h
      have hiY : InB B (.slice aY nY cY) := by
        have h := InB.subT (sz := 1) (l := comm (begT T) (p ++ y :: rs) + 1) (h := (p ++ y :: rs).length) (m := c0) (hri (by simp))
        rw [eY] at h; exact h
      have h24 : w.heap.size ≤ b24 := by have e : b24 = w13.heap.size := e24; omega
      have h35 : w.heap.size ≤ b35 := by have e : b35 = w27.heap.size := e35; omega
      have hXN : NodeB B w38 (reB T bs) (.pointer (some ⟨b24, 0, none⟩)) := NodeB.re hT hvn hcase' (Sl.k hX hS.1) (fun _ => hiX) hB24' (hNew _ (by omega))
      have hYN : NodeB B w38 (.leaf rs val) (.pointer (some ⟨b35, 0, none⟩)) := ⟨b35, _, _, rfl, hB35', Sl.k hY hS.1, Sl.k hval hS.1, hNew _ (by omega), fun _ => hiY, hvi⟩
      rw [putT_split hT hlt, ← hpl, splitT_eq hbt]
      refine ⟨b13, _, _, b11, _, rfl, hS.2, Sl.k hBT hS.1, rfl, hB38, by simp, hNew _ (by omega), hNew _ (by omega), fun _ => hiT, fun i q hq => ?_⟩
      rw [Nat.zero_add, Nat.zero_add, Int.toNat_natCast, Int.toNat_natCast] at hq
      show NodeB B w38 (if i = y.toNat then .leaf rs val else if i = x.toNat then reB T bs else .no) q
      by_cases hiy : i = y.toNat
      · subst hiy
        rw [List.getElem?_set_self (by simpa using hy16)] at hq
        injection hq with hq; subst hq
        rw [if_pos rfl]; exact hYN
      · rw [List.getElem?_set_ne (fun h => hiy h.symm)] at hq
        rw [if_neg hiy]
        by_cases hix : i = x.toNat
        · subst hix
          rw [List.getElem?_set_self (by simpa using hx16)] at hq
          injection hq with hq; subst hq
          rw [if_pos rfl]; exact hXN
        · rw [List.getElem?_set_ne (fun h => hix h.symm)] at hq
          rw [if_neg hix]
          exact List.eq_of_mem_replicate (List.mem_of_getElem? hq)
    · refine W_seq ?_
      refine W_region ?_
      refine o_mvt rfl ?_
      refine op_run (r_nilCheck rfl) rfl ?_
      refine op_run (r_fieldAddr rfl rfl rfl rfl rfl) rfl ?_
      refine op_run (r_load rfl rfl rfl ((hk6.blk' hB trivial).cell rfl)) rfl ?_
      refine op_run (r_isNilP rfl rfl) rfl ?_
      refine o_ast rfl ?_
      refine ops_nil ?_
      refine W_cond rfl (fun h42 => ?_) (fun h42 => ?_)
      · refine W_seq ?_
        refine W_region ?_
        refine o_mvt rfl ?_
        refine o_mvt rfl ?_
        have hpk : pk = none := by
          cases pk with
          | none => rfl
          | some x => cases h42
        subst hpk
        obtain ⟨beg, v0, rfl⟩ : ∃ beg v0, T = .leaf beg v0 := by
          rcases hcase with ⟨_, beg, v0, e, _⟩ | ⟨_, _, _, _, _, e, _⟩
          · exact ⟨_, _, e⟩
          · cases e
        refine op_run (r_build ([.slice a0 rest.length c0, .slice a1 val.length c1, .pointer none]) (_) ([(0, .slice a0 rest.length c0), (1, .slice a1 val.length c1)]) rfl rfl rfl rfl rfl (rfl)) rfl ?_
        refine o_box (cs := [.slice a0 rest.length c0, .slice a1 val.length c1, .pointer none]) rfl rfl rfl ?_; intro w44 b44 e44 hB44 hk44 hs44
        refine o_ast rfl ?_
        refine ops_nil ?_
        refine W_ret ?_
        refine ret1 (.pointer (some ⟨b44, 0, none⟩)) rfl ?_ ?_; rfl
        have hkk := hk6.trans hk44
        refine ⟨?_, hkk⟩
        rw [putT, if_neg (show ¬ comm beg rest < beg.length from fun h => h8 (by exact_mod_cast h))]
        have hz6 := hk6.size
        exact ⟨b44, _, _, rfl, hB44, Sl.k hr hkk, Sl.k hval hkk, hNew _ (by omega), hri, hvi⟩
      · refine W_skip ?_
        refine W_seq ?_
        obtain ⟨beg, kids, bk, ps, rfl, rfl, hBk, hps, hkids⟩ : ∃ beg kids bk ps, T = .branch beg kids ∧ pk = some ⟨bk, 0, none⟩ ∧ Blk w bk ps 71 ∧ ps.length = 16 ∧ ∀ (i : Nat) (p : Value), ps[i]? = some p → NodeB B w (kids i) p := by
          rcases hcase with ⟨rfl, _⟩ | h
          · cases h42
          · obtain ⟨beg, kids, bk, ps, e1, e2, g1, g2, _, g3⟩ := h; exact ⟨beg, kids, bk, ps, e1, e2, g1, g2, g3⟩
        have hce : comm beg rest = beg.length := by
          have h8 : ¬ ((comm beg rest : Int) < (beg.length : Int)) := h8
          have := hcl.1
          have : comm beg rest ≤ beg.length := this
          omega
        obtain ⟨rr, hrr⟩ := comm_full hce
        subst hrr
        obtain ⟨y, rs, rfl⟩ : ∃ y rs, rr = y :: rs := by
          cases rr with
          | nil => rw [List.append_nil] at hrl; have := hwf.1; omega
          | cons y rs => exact ⟨y, rs, rfl⟩
        have hy16 : y.toNat < 16 := hrn y (List.mem_append.2 (.inr (List.mem_cons_self ..)))
        obtain ⟨q, hq⟩ : ∃ q, ps[y.toNat]? = some q := ⟨_, List.getElem?_eq_getElem (by omega)⟩
        have hNq := hkids _ _ hq
        obtain ⟨bq, oq, cq, eq_, _, _, hcy⟩ := hr.at (by rw [List.length_append, List.length_cons]; omega)
        cases eq_
        have hgy : ((beg ++ y :: rs).map c8)[comm beg (beg ++ y :: rs)]? = some (c8 y) := by rw [hce, List.getElem?_map, List.getElem?_append_right (Nat.le_refl _), Nat.sub_self]; rfl
        have hcl2 : comm beg (beg ++ y :: rs) < (beg ++ y :: rs).length := by rw [hce, List.length_append, List.length_cons]; omega
        have hcl3 : comm (begT (Tre.branch beg kids)) (beg ++ y :: rs) < (beg ++ y :: rs).length := hcl2
        have hd2 := By.dropS (k := comm beg (beg ++ y :: rs) + 1) hr (by omega)
        have hdr : (beg ++ y :: rs).drop (comm beg (beg ++ y :: rs) + 1) = rs := by rw [hce]; exact drop_mid
        rw [hdr] at hd2
        refine W_held (fun w' => Keep All w w') (by kernel_rfl) (hk6.trans (Keep.drawn w6)) (fun hS => ?_)
        refine any_mvt 0 rfl (by kernel_rfl) (by kernel_rfl) (by kernel_rfl) rfl hS ?_
        refine any_mvt 1 rfl (by kernel_rfl) (by kernel_rfl) (by kernel_rfl) rfl hS ?_
        refine any_mvt 2 rfl (by kernel_rfl) (by kernel_rfl) (by kernel_rfl) rfl hS ?_
        refine any_run 3 (fun w' hS' => (r_idxS1 rfl rfl rfl rfl (by omega) (by omega))) rfl (by kernel_rfl) (by kernel_rfl) (by kernel_rfl) rfl hS ?_
        refine any_run 4 (fun w' hS' => (r_load (v := c8 y) rfl rfl rfl (hS'.cell (by rw [Int.toNat_natCast]; exact hcy _ _ hgy) trivial))) rfl (by kernel_rfl) (by kernel_rfl) (by kernel_rfl) rfl hS ?_
        refine any_mvt 5 rfl (by kernel_rfl) (by kernel_rfl) (by kernel_rfl) rfl hS ?_
        refine any_run 6 (fun w' hS' => (r_nilCheck rfl)) rfl (by kernel_rfl) (by kernel_rfl) (by kernel_rfl) rfl hS ?_
        refine any_run 7 (fun w' hS' => (r_fieldAddr rfl rfl rfl rfl rfl)) rfl (by kernel_rfl) (by kernel_rfl) (by kernel_rfl) rfl hS ?_
        refine any_run 8 (fun w' hS' => (r_load rfl rfl rfl (((hS'.blk' hB trivial).cell rfl)))) rfl (by kernel_rfl) (by kernel_rfl) (by kernel_rfl) rfl hS ?_
        refine any_mvt 9 rfl (by kernel_rfl) (by kernel_rfl) (by kernel_rfl) rfl hS ?_
        refine any_mvt 10 rfl (by kernel_rfl) (by kernel_rfl) (by kernel_rfl) rfl hS ?_
        refine any_run 11 (fun w' hS' => (r_idxS1 rfl rfl rfl rfl (by omega) (by omega))) rfl (by kernel_rfl) (by kernel_rfl) (by kernel_rfl) rfl hS ?_
        refine any_run 12 (fun w' hS' => (r_load (v := c8 y) rfl rfl rfl (hS'.cell (by rw [Int.toNat_natCast]; exact hcy _ _ hgy) trivial))) rfl (by kernel_rfl) (by kernel_rfl) (by kernel_rfl) rfl hS ?_
        refine any_run 13 (fun w' hS' => (r_nilCheck rfl)) rfl (by kernel_rfl) (by kernel_rfl) (by kernel_rfl) rfl hS ?_
        refine any_run 14 (fun w' hS' => (r_idxA1 rfl rfl rfl rfl (by omega) (by omega))) rfl (by kernel_rfl) (by kernel_rfl) (by kernel_rfl) rfl hS ?_
        refine any_run 15 (fun w' hS' => (r_load (v := q) rfl rfl rfl ((hS'.blk' hBk trivial).cell (by rw [Int.toNat_natCast, Nat.zero_add]; exact hq)))) rfl (by kernel_rfl) (by kernel_rfl) (by kernel_rfl) rfl hS ?_
        refine any_mvt 16 rfl (by kernel_rfl) (by kernel_rfl) (by kernel_rfl) rfl hS ?_
        refine any_mvt 17 rfl (by kernel_rfl) (by kernel_rfl) (by kernel_rfl) rfl hS ?_
        refine any_run 18 (fun w' hS' => ((r_add rfl rfl).val (congrArg (Value.int .i64) hinc))) rfl (by kernel_rfl) (by kernel_rfl) (by kernel_rfl) rfl hS ?_
        refine any_run 19 (fun w' hS' => (r_sliceS_lo rfl rfl rfl rfl (by omega) (by omega))) rfl (by kernel_rfl) (by kernel_rfl) (by kernel_rfl) rfl hS ?_
        refine any_mvt 20 rfl (by kernel_rfl) (by kernel_rfl) (by kernel_rfl) rfl hS ?_
        refine any_one 21 (by kernel_rfl) (one_of rfl ?_)
        refine op_call rfl rfl rfl (IH (L - beg.length - 1) (by have := hwf.1; omega) B lo hNew _ (kids y.toNat) q _ _ rs val (Nat.le_trans hlo hS.size) (by omega) (hwf.2.2.1 _) (by rw [List.length_append, List.length_cons] at hrl; omega) (fun z hz => hrn z (List.mem_append.2 (.inr (List.mem_cons_of_mem _ hz)))) (hNq.ka hS) (Sl.k hd2 hS) (fun _ => InB.subT (hri (by simp))) (Sl.k hval hS) hvi) ?_; rintro v55 w55 ⟨hN55, hk55⟩
        refine ops_nil ⟨hS.trans hk55, fun hS => ?_⟩
        refine any_one 22 (by kernel_rfl) (one_of rfl ?_)
        refine op_call rfl rfl rfl (tb_with B lo hNew w55 (Nat.le_trans hlo hS.size) _ _ beg kids y hy16 _ (hv.ka hS) hN55) ?_; rintro v57 w57 ⟨hN57, hk57⟩
        refine ops_nil ⟨hS.trans hk57, fun hS => ?_⟩
        refine any_ast 23 rfl (by kernel_rfl) (by kernel_rfl) (by kernel_rfl) rfl hS ?_
        refine any_done (by kernel_rfl) ?_
        refine W_ret ?_
        refine ret1 v57 rfl ?_ ?_; rfl
        refine ⟨?_, hS⟩
        rw [putT, if_neg (show ¬ comm beg (beg ++ y :: rs) < beg.length by omega), getD_mid, drop_mid]
        have e : (fun i => if i = y.toNat then putT (kids i) rs val else kids i) = fun i => if i = y.toNat then putT (kids y.toNat) rs val else kids i := by
          funext i; split
          · rename_i h; rw [h]
          · rfl
        rw [e]; exact hN57
theorem tb_put (L : Nat) : PutBH L := by
  induction L using Nat.strongRecOn with
  | ind L ih => exact tb_put1 L ih
theorem tb_whole (B : Nat → Prop) (lo : Nat) (hNew : ∀ z, lo ≤ z → B z) (w : World) (hlo : lo ≤ w.heap.size) (v : Value) (beg : List UInt8) (K : Nat → Tre) (hbl : beg.length ≤ 64) (hkl : ∀ i, (begT (K i)).length ≤ 64) (hsome : ∃ i, i < 16 ∧ K i ≠ .no) (hv : NodeB B w (.branch beg K) v) :
    Ret Tryd.prog 48 [v].toArray w fun r w' => NodeB B w' (wholeT beg K) r ∧ Keep All w w' := by
  have hv0 := hv
  obtain ⟨b, vb, vv, bk, ps, rfl, h1_, h2_, h3_, h4_, h5_, h7_, h8_, h9_, h6_⟩ := hv
  obtain ⟨ab, cb, rfl, hcb, hcbm⟩ := h2_.form
  refine enter (fn := Tryd.f48) (n := 57) Tryd.func48 rfl rfl (by simp) ?_
  refine W_seq ?_
  refine W_region ?_
  refine o_asc rfl ?_
  refine ops_nil ?_
  refine W_seq ?_
  refine W_region ?_
  refine o_asc rfl ?_
  refine ops_nil ?_
  refine W_seq ?_
  refine W_seq ?_
  refine W_region ?_
  refine o_mvt rfl ?_
  refine op_run (r_nilCheck rfl) rfl ?_
  refine op_run (r_fieldAddr rfl rfl rfl rfl rfl) rfl ?_
  refine op_run (r_load rfl rfl rfl (h1_.cell rfl)) rfl ?_
  refine o_mvc rfl ?_
  refine ops_nil ?_
  refine W_block ?_
  refine W_loop [3, 11] [2, 3, 4, 5, 11, 12, 13, 14, 15, 16, 17, 18, 19, 20, 21, 22, 23, 24, 25] (fun vs w' => ∃ (k : Nat) (last : Int), vs = [.int .i64 last, .int .i64 k] ∧ k ≤ 16 ∧ ((onesTo K k = [] ∧ last = -1) ∨ ∃ l : Nat, onesTo K k = [l] ∧ last = l ∧ l < 16 ∧ K l ≠ .no) ∧ Keep All w w') (fun vs _ => match vs with | [_, .int _ y] => 16 - y.toNat | _ => 0) ⟨0, -1, rfl, Nat.zero_le _, .inl ⟨rfl, rfl⟩, Keep.refl _⟩ ?_
  rintro J2 vs w2 ⟨k, last, rfl, hk, hlast, hk2⟩ -
  refine W_seq ?_
  refine W_region ?_
  refine op_run (r_lss rfl rfl) rfl ?_
  refine ops_nil ?_
  refine W_seq ?_
  refine W_cond_p rfl (fun h3 => ?_) (fun h3 => ?_)
  · refine W_skip ?_
    refine W_seq ?_
    refine W_block ?_
    refine W_seq ?_
    have hk16 : k < 16 := by omega
    obtain ⟨q, hq⟩ : ∃ q, ps[k]? = some q := ⟨_, List.getElem?_eq_getElem (by omega)⟩
    have hNq := h6_ _ _ hq
    obtain ⟨aq, rfl, haq⟩ := hNq.ptr
    have hinc := inc64' k (by omega)
    refine W_quiet (Keep All w2) (by kernel_rfl) (by kernel_rfl) (Keep.drawn _) ?_
    refine q_mvt rfl ?_
    refine q_run (fun _ _ => (r_nilCheck rfl)) rfl ?_
    refine q_run (fun _ _ => r_idxA1 rfl rfl rfl rfl (by omega) (by omega)) rfl ?_
    refine q_run (fun _ hk => r_load (v := .pointer aq) rfl rfl rfl (hk.cell ((hk2.blk' h4_ trivial).cell (by rw [Int.toNat_natCast, Nat.zero_add]; exact hq)) trivial)) rfl ?_
    refine q_ast rfl ?_
    refine q_ast rfl ?_
    refine q_nil ?_; intro w7 hk7
    refine W_block ?_
    refine W_seq ?_
    refine W_region ?_
    refine o_mvt rfl ?_
    refine op_run (r_isNilP rfl rfl) rfl ?_
    refine o_ast rfl ?_
    refine ops_nil ?_
    refine W_cond rfl (fun h8 => ?_) (fun h8 => ?_)
    · refine W_skip ?_
      refine W_region ?_
      refine op_run (r_add rfl rfl) rfl ?_
      refine o_mvt rfl ?_
      refine ops_nil ?_
      have hno : K k = .no := haq.1 (by cases aq with
        | none => rfl
        | some x => cases h8)
      refine ⟨by (repeat (first | with_reducible exact offM_refl _ _ | refine offM_updc rfl ?_ | refine offM_upd rfl ?_ | refine offM_updo rfl ?_ | refine offM_updo_none ?_ | refine offM_head rfl rfl ?_)), ⟨k + 1, last, congrArg (fun z : Int => [Value.int .i64 last, Value.int .i64 z]) hinc, by omega, by rw [onesTo_no hno]; exact hlast, hk2.trans hk7⟩, ?_⟩
      show 16 - (IntKind.i64.wrap ((k : Int) + 1)).toNat < 16 - (k : Int).toNat
      rw [hinc]; omega
    · refine W_seq ?_
      refine W_region ?_
      have hnn : K k ≠ .no := fun e => by
        have := haq.2 e
        subst this; cases h8
      refine o_mvt rfl ?_
      refine op_run (r_geq rfl rfl) rfl ?_
      refine o_ast rfl ?_
      refine ops_nil ?_
      refine W_cond_p rfl (fun h10 => ?_) (fun h10 => ?_)
      · refine W_seq ?_
        refine W_region ?_
        refine o_mvt rfl ?_
        refine o_ast rfl ?_
        refine ops_nil ?_
        refine W_ret ?_
        refine ret1 (.pointer (some ⟨b, 0, none⟩)) rfl ?_ ?_; rfl
        obtain ⟨l, hl, _⟩ : ∃ l : Nat, onesTo K k = [l] ∧ last = l := by
          rcases hlast with ⟨_, e⟩ | ⟨l, e1, e2, _⟩
          · omega
          · exact ⟨l, e1, e2⟩
        rw [wholeT_two hk16 (show onesTo K (k + 1) = [l, k] from by rw [onesTo_is hnn, hl]; rfl)]
        exact ⟨hv0.ka (hk2.trans hk7), hk2.trans hk7⟩
      · refine W_region ?_
        refine o_mvt rfl ?_
        refine o_ast rfl ?_
        refine ops_nil ?_
        refine W_region ?_
        refine op_run (r_add rfl rfl) rfl ?_
        refine o_mvt rfl ?_
        refine ops_nil ?_
        have hl0 : onesTo K k = [] := by
          rcases hlast with ⟨e, _⟩ | ⟨l, _, e2, _⟩
          · exact e
          · omega
        refine ⟨by (repeat (first | with_reducible exact offM_refl _ _ | refine offM_updc rfl ?_ | refine offM_upd rfl ?_ | refine offM_updo rfl ?_ | refine offM_updo_none ?_ | refine offM_head rfl rfl ?_)), ⟨k + 1, k, congrArg (fun z : Int => [Value.int .i64 k, Value.int .i64 z]) hinc, by omega, .inr ⟨k, by rw [onesTo_is hnn, hl0]; rfl, rfl, hk16, hnn⟩, hk2.trans hk7⟩, ?_⟩
        show 16 - (IntKind.i64.wrap ((k : Int) + 1)).toNat < 16 - (k : Int).toNat
        rw [hinc]; omega
  · refine W_exit ?_
    refine W_seq ?_
    refine W_region ?_
    refine o_mvt rfl ?_
    refine op_run (r_nilCheck rfl) rfl ?_
    refine op_run (r_fieldAddr rfl rfl rfl rfl rfl) rfl ?_
    obtain rfl : k = 16 := by omega
    obtain ⟨l, hl, rfl, hl16, hln⟩ : ∃ l : Nat, onesTo K 16 = [l] ∧ last = l ∧ l < 16 ∧ K l ≠ .no := by
      rcases hlast with ⟨e, _⟩ | h
      · obtain ⟨i, hi, hin⟩ := hsome
        have := mem_ones.2 ⟨hi, hin⟩
        rw [show ones K = onesTo K 16 from rfl, e] at this; cases this
      · exact h
    obtain ⟨q, hq⟩ : ∃ q, ps[l]? = some q := ⟨_, List.getElem?_eq_getElem (by omega)⟩
    obtain ⟨bq, vqb, vqv, pk, rfl, hBq, hbq, hvq, hcase, hBbq, hbiq⟩ := (h6_ _ _ hq).openB hln
    obtain ⟨aqb, cqb, rfl, _, _⟩ := hbq.form
    refine op_run (r_load rfl rfl rfl ((hk2.blk' h1_ trivial).cell rfl)) rfl ?_
    refine o_mvt rfl ?_
    refine op_run (r_nilCheck rfl) rfl ?_
    refine op_run (r_idxA1 rfl rfl rfl rfl (by omega) (by omega)) rfl ?_
    refine op_run (r_load (v := .pointer (some ⟨bq, 0, none⟩)) rfl rfl rfl ((hk2.blk' h4_ trivial).cell (by rw [Int.toNat_natCast, Nat.zero_add]; exact hq))) rfl ?_
    refine o_ast rfl ?_
    refine ops_nil ?_
    refine W_seq ?_
    refine W_held (fun w' => Keep All w w') (by kernel_rfl) (hk2.trans (Keep.drawn w2)) (fun hS => ?_)
    refine any_mvt 0 rfl (by kernel_rfl) (by kernel_rfl) (by kernel_rfl) rfl hS ?_
    refine any_run 1 (fun w' hS' => (r_nilCheck rfl)) rfl (by kernel_rfl) (by kernel_rfl) (by kernel_rfl) rfl hS ?_
    refine any_run 2 (fun w' hS' => (r_fieldAddr rfl rfl rfl rfl rfl)) rfl (by kernel_rfl) (by kernel_rfl) (by kernel_rfl) rfl hS ?_
    refine any_run 3 (fun w' hS' => (r_load rfl rfl rfl (((hS'.blk' h1_ trivial).cell rfl)))) rfl (by kernel_rfl) (by kernel_rfl) (by kernel_rfl) rfl hS ?_
    refine any_mvt 4 rfl (by kernel_rfl) (by kernel_rfl) (by kernel_rfl) rfl hS ?_
    refine any_run 5 (fun w' hS' => ((r_conv rfl rfl rfl).val (congrArg (Value.int .u8) (show IntKind.u8.wrap (l : Int) = ((l.toUInt8.toNat : Nat) : Int) from by rw [u8_of hl16]; exact (show IntKind.u8.wrap (l : Int) = (l : Int) % 256 from rfl).trans (by omega))))) rfl (by kernel_rfl) (by kernel_rfl) (by kernel_rfl) rfl hS ?_
    refine any_mvt 7 rfl (by kernel_rfl) (by kernel_rfl) (by kernel_rfl) rfl hS ?_
    refine any_run 8 (fun w' hS' => (r_nilCheck rfl)) rfl (by kernel_rfl) (by kernel_rfl) (by kernel_rfl) rfl hS ?_
    refine any_run 9 (fun w' hS' => (r_fieldAddr rfl rfl rfl rfl rfl)) rfl (by kernel_rfl) (by kernel_rfl) (by kernel_rfl) rfl hS ?_
    refine any_run 10 (fun w' hS' => (r_load rfl rfl rfl (((hS'.blk' hBq trivial).cell rfl)))) rfl (by kernel_rfl) (by kernel_rfl) (by kernel_rfl) rfl hS ?_
    refine any_mvt 13 rfl (by kernel_rfl) (by kernel_rfl) (by kernel_rfl) rfl hS ?_
    refine any_run 14 (fun w' hS' => (r_nilCheck rfl)) rfl (by kernel_rfl) (by kernel_rfl) (by kernel_rfl) rfl hS ?_
    refine any_run 15 (fun w' hS' => (r_fieldAddr rfl rfl rfl rfl rfl)) rfl (by kernel_rfl) (by kernel_rfl) (by kernel_rfl) rfl hS ?_
    refine any_run 16 (fun w' hS' => (r_load rfl rfl rfl (((hS'.blk' hBq trivial).cell rfl)))) rfl (by kernel_rfl) (by kernel_rfl) (by kernel_rfl) rfl hS ?_
    refine any_mvt 17 rfl (by kernel_rfl) (by kernel_rfl) (by kernel_rfl) rfl hS ?_
    refine any_run 18 (fun w' hS' => (r_nilCheck rfl)) rfl (by kernel_rfl) (by kernel_rfl) (by kernel_rfl) rfl hS ?_
    refine any_run 19 (fun w' hS' => (r_fieldAddr rfl rfl rfl rfl rfl)) rfl (by kernel_rfl) (by kernel_rfl) (by kernel_rfl) rfl hS ?_
    refine any_run 20 (fun w' hS' => (r_load rfl rfl rfl (((hS'.blk' hBq trivial).cell rfl)))) rfl (by kernel_rfl) (by kernel_rfl) (by kernel_rfl) rfl hS ?_
    refine any_one 6 (by kernel_rfl) (one_of rfl ?_)
    refine o_bs1 (v := (c8 l.toUInt8)) rfl rfl rfl rfl rfl rfl ?_; intro w21 b21 e21 hB21 hk21 hs21
    refine ops_nil ⟨hS.trans hk21, fun hS => ?_⟩
    refine any_one 11 (by kernel_rfl) (one_of rfl ?_)
    refine o_bsL ([.slice ab beg.length cb, .slice (some ⟨b21, 0, none⟩) 1 1, .slice aqb (begT (K l)).length cqb]) rfl rfl rfl rfl rfl rfl rfl rfl rfl ?_; intro w23 b23 e23 hB23 hk23 hs23
    have hS23 : Sl w23 (.slice (some ⟨b23, 0, none⟩) 3 3) 3 1 [.slice ab beg.length cb, .slice (some ⟨b21, 0, none⟩) 1 1, .slice aqb (begT (K l)).length cqb] := (Own.blk (n := 3) (sz := 1) hB23 rfl (by unfold maxLen; omega)).sl
    have hS21 : By w23 (.slice (some ⟨b21, 0, none⟩) 1 1) [l.toUInt8] := Sl.k (Own.blk (n := 1) (sz := 1) hB21 rfl (by unfold maxLen; omega)).sl hk23
    have hkl' := hkl l
    refine ops_nil ⟨hS.trans hk23, fun hS => ?_⟩
    have hz23 := hS.size
    have hgs25 : ∀ x ∈ [(Value.slice ab beg.length cb, beg), (Value.slice (some ⟨b21, 0, none⟩) 1 1, [l.toUInt8]), (Value.slice aqb (begT (K l)).length cqb, begT (K l))], By w23 x.1 x.2 := fun x hx => by
      rcases List.mem_cons.1 hx with rfl | hx
      · exact Sl.k h2_ hS
      · rcases List.mem_cons.1 hx with rfl | hx
        · exact hS21
        · rcases List.mem_cons.1 hx with rfl | hx
          · exact Sl.k hbq hS
          · cases hx
    refine any_one 12 (by kernel_rfl) (one_of rfl ?_)
    refine op_call rfl rfl rfl (sl_ConcatB w23 _ [(.slice ab beg.length cb, beg), (.slice (some ⟨b21, 0, none⟩) 1 1, [l.toUInt8]), (.slice aqb (begT (K l)).length cqb, begT (K l))] hS23 hgs25 (by simp; omega) (by simp)) ?_; rintro v25 w25 ⟨hO25, hin25, hk25⟩
    have hby25 : By w25 v25 ((beg ++ [l.toUInt8]) ++ begT (K l)) := by
      have h := OwnB.by_ hO25
      simpa using h
    have hz25 := hk25.size
    obtain ⟨a25, c25, rfl, _, _⟩ := hby25.form
    refine ops_nil ⟨hS.trans hk25, fun hS => ?_⟩
    refine any_run 21 (fun w' hS' => (r_build ([.slice a25 ((beg ++ [l.toUInt8]) ++ begT (K l)).length c25, vqv, .pointer pk]) (_) ([(0, .slice a25 ((beg ++ [l.toUInt8]) ++ begT (K l)).length c25), (1, vqv), (2, .pointer pk)]) rfl rfl rfl rfl rfl ((by clear hBq hcase; cases vqv <;> (try rfl); all_goals cases hvq)))) rfl (by kernel_rfl) (by kernel_rfl) (by kernel_rfl) rfl hS ?_
    refine any_one 22 (by kernel_rfl) (one_of rfl ?_)
    refine o_box (cs := [.slice a25 ((beg ++ [l.toUInt8]) ++ begT (K l)).length c25, vqv, .pointer pk]) rfl rfl rfl ?_; intro w28 b28 e28 hB28 hk28 hs28
    refine ops_nil ⟨hS.trans hk28, fun hS => ?_⟩
    refine any_ast 23 rfl (by kernel_rfl) (by kernel_rfl) (by kernel_rfl) rfl hS ?_
    refine any_done (by kernel_rfl) ?_
    refine W_ret ?_
    refine ret1 (.pointer (some ⟨b28, 0, none⟩)) rfl ?_ ?_; rfl
    have hcase' : CaseB B w28 (K l) vqv pk := hcase.ka hS
    rw [wholeT_one hl]
    exact ⟨NodeB.re hln hvq hcase' (Sl.k hby25 hk28) (fun _ => hin25.mono fun z hz => hNew z (by have hz : w23.heap.size ≤ z := hz; omega)) hB28 (hNew _ (by omega)), hS⟩
def DropBH (L : Nat) : Prop := ∀ (B : Nat → Prop) (lo : Nat) (hNew : ∀ z, lo ≤ z → B z) (w : World) (T : Tre) (v vr : Value) (rest val : List UInt8), lo ≤ w.heap.size → L ≤ 64 → T.wf L → rest.length = L → T.get rest = some val → NodeB B w T v → By w vr rest →
  Ret Tryd.prog 28 [v, vr].toArray w fun r w' => NodeB B w' (dropT T rest) r ∧ Keep All w w'
theorem tb_drop1 (L : Nat) (IH : ∀ L', L' < L → DropBH L') : DropBH L := by
  intro B lo hNew w T v vr rest val hlo hL64 hwf hrl hget hv hr
  have hT : T ≠ .no := fun e => by rw [e] at hget; cases hget
  obtain ⟨b, vb, vvn, pk, rfl, hB, hb, hvn, hcase, hBb, hbi⟩ := hv.openB hT
  obtain ⟨ab, cb, rfl, hcb0, hcbm⟩ := hb.form
  obtain ⟨a0, c0, rfl, hc0, hcm0⟩ := hr.form
  refine enter (fn := Tryd.f28) (n := 39) Tryd.func28 rfl rfl (by simp) ?_
  refine W_seq ?_
  refine W_region ?_
  refine o_asc rfl ?_
  refine ops_nil ?_
  refine W_seq ?_
  refine W_seq ?_
  refine W_region ?_
  refine o_mvt rfl ?_
  refine op_run (r_nilCheck rfl) rfl ?_
  refine op_run (r_fieldAddr rfl rfl rfl rfl rfl) rfl ?_
  refine op_run (r_load rfl rfl rfl (hB.cell rfl)) rfl ?_
  refine op_run (r_isNilP rfl rfl) rfl ?_
  refine ops_nil ?_
  refine W_cond rfl (fun h2 => ?_) (fun h2 => ?_)
  · refine W_seq ?_
    refine W_region ?_
    refine o_asc rfl ?_
    refine ops_nil ?_
    refine W_ret ?_
    refine ret1 (.pointer none) rfl ?_ ?_; rfl
    obtain ⟨beg, v0, rfl⟩ : ∃ beg v0, T = .leaf beg v0 := by
      rcases hcase with ⟨_, beg, v0, e, _⟩ | ⟨_, _, _, _, _, e, _⟩
      · exact ⟨_, _, e⟩
      · subst e; cases h2
    exact ⟨rfl, Keep.refl _⟩
  · refine W_skip ?_
    refine W_seq ?_
    refine W_region ?_
    obtain ⟨beg, kids, bk, ps, rfl, rfl, hBk, hps, hkids⟩ : ∃ beg kids bk ps, T = .branch beg kids ∧ pk = some ⟨bk, 0, none⟩ ∧ Blk w bk ps 71 ∧ ps.length = 16 ∧ ∀ (i : Nat) (p : Value), ps[i]? = some p → NodeB B w (kids i) p := by
      rcases hcase with ⟨rfl, _⟩ | h
      · cases h2
      · obtain ⟨beg, kids, bk, ps, e1, e2, g1, g2, _, g3⟩ := h; exact ⟨beg, kids, bk, ps, e1, e2, g1, g2, g3⟩
    have hb : By w (.slice ab beg.length cb) beg := hb
    have hB : Blk w b [.slice ab beg.length cb, vvn, .pointer (some ⟨bk, 0, none⟩)] 69 := hB
    obtain ⟨y, rs, rfl, hg2⟩ := Tre.get_some hget
    have hbl := hwf.1
    have hy16 : y.toNat < 16 := Nat.lt_of_not_le fun h => by rw [hwf.2.2.2.1 _ h] at hg2; cases hg2
    obtain ⟨q, hq⟩ : ∃ q, ps[y.toNat]? = some q := ⟨_, List.getElem?_eq_getElem (by omega)⟩
    have hNq := hkids _ _ hq
    obtain ⟨bq, oq, cq, eq_, _, _, hcy⟩ := hr.at (by rw [List.length_append, List.length_cons]; omega)
    cases eq_
    have hgy : ((beg ++ y :: rs).map c8)[beg.length]? = some (c8 y) := by rw [List.getElem?_map, List.getElem?_append_right (Nat.le_refl _), Nat.sub_self]; rfl
    have hcl2 : beg.length < (beg ++ y :: rs).length := by rw [List.length_append, List.length_cons]; omega
    have hd2 := By.dropS (k := beg.length + 1) hr (by omega)
    rw [drop_mid] at hd2
    have hinc := inc64' beg.length (by omega)
    have hrs : rs.length = L - beg.length - 1 := by rw [List.length_append, List.length_cons] at hrl; omega
    refine o_mvt rfl ?_
    refine op_run (r_nilCheck rfl) rfl ?_
    refine op_run (r_fieldAddr rfl rfl rfl rfl rfl) rfl ?_
    refine op_run (r_load rfl rfl rfl (hB.cell rfl)) rfl ?_
    refine op_run (r_len rfl rfl rfl) rfl ?_
    refine o_ast rfl ?_
    refine ops_nil ?_
    refine W_seq ?_
    refine W_held (fun w' => Keep All w w') (by kernel_rfl) (Keep.drawn w) (fun hS => ?_)
    refine any_mvt 0 rfl (by kernel_rfl) (by kernel_rfl) (by kernel_rfl) rfl hS ?_
    refine any_mvt 1 rfl (by kernel_rfl) (by kernel_rfl) (by kernel_rfl) rfl hS ?_
    refine any_mvt 2 rfl (by kernel_rfl) (by kernel_rfl) (by kernel_rfl) rfl hS ?_
    refine any_run 3 (fun w' hS' => (r_idxS1 rfl rfl rfl rfl (by (show (0 : Int) ≤ (beg.length : Int); omega)) (by (show (beg.length : Int) < _; omega)))) rfl (by kernel_rfl) (by kernel_rfl) (by kernel_rfl) rfl hS ?_
    refine any_run 4 (fun w' hS' => (r_load (v := c8 y) rfl rfl rfl (hS'.cell (show w.cell? ⟨bq, oq + ((beg.length : Nat) : Int).toNat, none⟩ = _ from by rw [Int.toNat_natCast]; exact hcy _ _ hgy) trivial))) rfl (by kernel_rfl) (by kernel_rfl) (by kernel_rfl) rfl hS ?_
    refine any_mvt 5 rfl (by kernel_rfl) (by kernel_rfl) (by kernel_rfl) rfl hS ?_
    refine any_run 6 (fun w' hS' => (r_nilCheck rfl)) rfl (by kernel_rfl) (by kernel_rfl) (by kernel_rfl) rfl hS ?_
    refine any_run 7 (fun w' hS' => (r_fieldAddr rfl rfl rfl rfl rfl)) rfl (by kernel_rfl) (by kernel_rfl) (by kernel_rfl) rfl hS ?_
    refine any_run 8 (fun w' hS' => (r_load rfl rfl rfl (((hS'.blk' hB trivial).cell rfl)))) rfl (by kernel_rfl) (by kernel_rfl) (by kernel_rfl) rfl hS ?_
    refine any_mvt 9 rfl (by kernel_rfl) (by kernel_rfl) (by kernel_rfl) rfl hS ?_
    refine any_mvt 10 rfl (by kernel_rfl) (by kernel_rfl) (by kernel_rfl) rfl hS ?_
    refine any_run 11 (fun w' hS' => (r_idxS1 rfl rfl rfl rfl (by (show (0 : Int) ≤ (beg.length : Int); omega)) (by (show (beg.length : Int) < _; omega)))) rfl (by kernel_rfl) (by kernel_rfl) (by kernel_rfl) rfl hS ?_
    refine any_run 12 (fun w' hS' => (r_load (v := c8 y) rfl rfl rfl (hS'.cell (show w.cell? ⟨bq, oq + ((beg.length : Nat) : Int).toNat, none⟩ = _ from by rw [Int.toNat_natCast]; exact hcy _ _ hgy) trivial))) rfl (by kernel_rfl) (by kernel_rfl) (by kernel_rfl) rfl hS ?_
    refine any_run 13 (fun w' hS' => (r_nilCheck rfl)) rfl (by kernel_rfl) (by kernel_rfl) (by kernel_rfl) rfl hS ?_
    refine any_run 14 (fun w' hS' => (r_idxA1 rfl rfl rfl rfl (by omega) (by omega))) rfl (by kernel_rfl) (by kernel_rfl) (by kernel_rfl) rfl hS ?_
    refine any_run 15 (fun w' hS' => (r_load (v := q) rfl rfl rfl ((hS'.blk' hBk trivial).cell (by rw [Int.toNat_natCast, Nat.zero_add]; exact hq)))) rfl (by kernel_rfl) (by kernel_rfl) (by kernel_rfl) rfl hS ?_
    refine any_mvt 16 rfl (by kernel_rfl) (by kernel_rfl) (by kernel_rfl) rfl hS ?_
    refine any_mvt 17 rfl (by kernel_rfl) (by kernel_rfl) (by kernel_rfl) rfl hS ?_
    refine any_run 18 (fun w' hS' => ((r_add rfl rfl).val (congrArg (Value.int .i64) hinc))) rfl (by kernel_rfl) (by kernel_rfl) (by kernel_rfl) rfl hS ?_
    refine any_run 19 (fun w' hS' => (r_sliceS_lo rfl rfl rfl rfl (by omega) (by (show ((beg.length + 1 : Nat) : Int) ≤ _; omega)))) rfl (by kernel_rfl) (by kernel_rfl) (by kernel_rfl) rfl hS ?_
    refine any_one 20 (by kernel_rfl) (one_of rfl ?_)
    refine op_call rfl rfl rfl (IH (L - beg.length - 1) (by omega) B lo hNew _ (kids y.toNat) q _ rs val (Nat.le_trans hlo hS.size) (by omega) (hwf.2.2.1 _) hrs hg2 (hNq.ka hS) (Sl.k hd2 hS)) ?_; rintro v14 w14 ⟨hN14, hk14⟩
    obtain ⟨d1, d2⟩ := dropT_all (kids y.toNat) _ rs val (hwf.2.2.1 y.toNat) hrs hg2
    refine ops_nil ⟨hS.trans hk14, fun hS => ?_⟩
    refine any_one 21 (by kernel_rfl) (one_of rfl ?_)
    refine op_call rfl rfl rfl (tb_with B lo hNew w14 (Nat.le_trans hlo hS.size) _ _ beg kids y hy16 _ (hv.ka hS) hN14) ?_; rintro v16 w16 ⟨hN16, hk16⟩
    refine ops_nil ⟨hS.trans hk16, fun hS => ?_⟩
    have hb18 : ∀ i, (begT (if i = y.toNat then dropT (kids y.toNat) rs else kids i)).length ≤ 64 := fun i => by
      split
      · exact Nat.le_trans (wf_beg d1).1 (by omega)
      · exact Nat.le_trans (wf_beg (hwf.2.2.1 i)).1 (by omega)
    have hs18 : ∃ i, i < 16 ∧ (if i = y.toNat then dropT (kids y.toNat) rs else kids i) ≠ .no := by
      obtain ⟨i, j, hij, hi, hj⟩ := hwf.2.2.2.2
      have lt : ∀ i, kids i ≠ .no → i < 16 := fun i h => Nat.lt_of_not_le fun hh => h (hwf.2.2.2.1 i hh)
      by_cases e : i = y.toNat
      · exact ⟨j, lt j hj, by rw [if_neg (by omega)]; exact hj⟩
      · exact ⟨i, lt i hi, by rw [if_neg e]; exact hi⟩
    refine any_one 22 (by kernel_rfl) (one_of rfl ?_)
    refine op_call rfl rfl rfl (tb_whole B lo hNew w16 (Nat.le_trans hlo hS.size) _ beg (fun i => if i = y.toNat then dropT (kids y.toNat) rs else kids i) (by omega) hb18 hs18 hN16) ?_; rintro v18 w18 ⟨hN18, hk18⟩
    refine ops_nil ⟨hS.trans hk18, fun hS => ?_⟩
    refine any_ast 23 rfl (by kernel_rfl) (by kernel_rfl) (by kernel_rfl) rfl hS ?_
    refine any_done (by kernel_rfl) ?_
    refine W_ret ?_
    refine ret1 v18 rfl ?_ ?_; rfl
    refine ⟨?_, hS⟩
    rw [dropT, getD_mid, drop_mid]
    have e : (fun i => if i = y.toNat then dropT (kids i) rs else kids i) = fun i => if i = y.toNat then dropT (kids y.toNat) rs else kids i := by
      funext i; split
      · rename_i h; rw [h]
      · rfl
    rw [e]; exact hN18
theorem tb_drop (L : Nat) : DropBH L := by
  induction L using Nat.strongRecOn with
  | ind L ih => exact tb_drop1 L ih
/-- A trie in memory, its nodes in blocks that are told. -/
def TrieB (B : Nat → Prop) (w : World) (b : Nat) (T : Tre) : Prop := ∃ v, Blk w b [v] 49 ∧ NodeB B w T v ∧ T.wf 64
theorem TrieB.to {B : Nat → Prop} {w : World} {b : Nat} {T : Tre} (h : TrieB B w b T) : TrieIn w b T := by
  obtain ⟨v, h1, h2, h3⟩ := h; exact ⟨v, h1, h2.toIn, h3⟩
theorem TrieB.k {B C : Nat → Prop} {w w' : World} {b : Nat} {T : Tre} (h : TrieB B w b T) (hk : Keep C w w') (hb : C b) (hB : ∀ z, B z → C z) : TrieB B w' b T := by
  obtain ⟨v, h1, h2, h3⟩ := h; exact ⟨v, hk.blk' h1 hb, NodeB.k hk hB h2, h3⟩
theorem TrieB.lt {B : Nat → Prop} {w : World} {b : Nat} {T : Tre} (h : TrieB B w b T) : TrieB (fun z => B z ∧ z < w.heap.size) w b T := by
  obtain ⟨v, h1, h2, h3⟩ := h; exact ⟨v, h1, h2.lt, h3⟩
theorem TrieB.mono {B C : Nat → Prop} {w : World} {b : Nat} {T : Tre} (h : TrieB B w b T) (hB : ∀ z, B z → C z) : TrieB C w b T := by
  obtain ⟨v, h1, h2, h3⟩ := h; exact ⟨v, h1, NodeB.mono hB h2, h3⟩
theorem tb_Put (B : Nat → Prop) (lo : Nat) (hNew : ∀ z, lo ≤ z → B z) (w : World) (b : Nat) (hlo : lo ≤ w.heap.size) (hBb : ∀ z, B z → z ≠ b) (T : Tre) (key : Dig) (vv : Value) (val : List UInt8) (h : TrieB B w b T) (hv : By w vv val) (hl : val.length ≤ 2 ^ 46) : Ret Tryd.prog 8 [.pointer (some ⟨b, 0, none⟩), .agg (dgR key).toArray, vv].toArray w fun _ w' =>
    TrieB B w' b (putTT T key val) ∧ Keep (· ≠ b) w w' := by
  obtain ⟨v0, hBt, hN, hwf⟩ := h
  obtain ⟨a, rfl, _⟩ := hN.ptr
  have hn64 : (nibs key.val).length = 64 := by rw [nibs_len, key.2]
  refine enter (fn := Tryd.f8) (n := 18) Tryd.func8 rfl rfl (by simp) ?_
  refine W_seq ?_
  refine W_region ?_
  refine o_box rfl rfl rfl ?_; intro w1 b1 e1 hB1 hk1 hs1
  have hB1 : Blk w1 b1 (dgR key) 24 := hB1
  refine ops_nil ?_
  refine W_gate 12 (fun w' => Keep All w1 w') (by kernel_rfl) (Keep.drawn w1) (fun hS => ?_)
  refine gt_mvt 0 rfl (by kernel_rfl) (by kernel_rfl) (by kernel_rfl) (by kernel_rfl) rfl hS ?_
  refine gt_mvt 1 rfl (by kernel_rfl) (by kernel_rfl) (by kernel_rfl) (by kernel_rfl) rfl hS ?_
  refine gt_run 2 (fun w' hS' => (r_nilCheck rfl)) rfl (by kernel_rfl) (by kernel_rfl) (by kernel_rfl) (by kernel_rfl) rfl hS ?_
  refine gt_run 3 (fun w' hS' => (r_fieldAddr rfl rfl rfl rfl rfl)) rfl (by kernel_rfl) (by kernel_rfl) (by kernel_rfl) (by kernel_rfl) rfl hS ?_
  refine gt_run 4 (fun w' hS' => (r_load rfl rfl rfl (((hS'.blk' (hk1.blk' hBt trivial) trivial).cell rfl)))) rfl (by kernel_rfl) (by kernel_rfl) (by kernel_rfl) (by kernel_rfl) rfl hS ?_
  refine gt_run 5 (fun w' hS' => (r_loadA (dgR key) rfl rfl rfl (by first | rfl | (rw [binV_len]; rfl) | (rw [dgR_len]; rfl) | (rw [refR_len]; rfl) | (rw [secR_len]; rfl) | (rw [List.length_map, tagF_len]; rfl) | rfl) ((hS'.blk' hB1 trivial).all))) rfl (by kernel_rfl) (by kernel_rfl) (by kernel_rfl) (by kernel_rfl) rfl hS ?_
  refine gt_mvt 7 rfl (by kernel_rfl) (by kernel_rfl) (by kernel_rfl) (by kernel_rfl) rfl hS ?_
  refine gt_one 6 (by kernel_rfl) (one_of rfl ?_)
  refine op_call rfl rfl rfl (tr_nibbles _ key) ?_; rintro v5 w5 ⟨hO5, hin5, hk5⟩
  have hz1 := hk1.size
  have hz5 := hS.size
  have hi5 : InB B v5 := hin5.mono fun z hz => hNew z (Nat.le_trans (Nat.le_trans hlo (Nat.le_trans hz1 hz5)) hz)
  refine ops_nil ⟨hS.trans hk5, fun hS => ?_⟩
  refine gt_one 8 (by kernel_rfl) (one_of rfl ?_)
  refine op_call rfl rfl rfl (sl_CloneT w5 _ val (Sl.k hv (hk1.trans hS)) hl) ?_; rintro v7 w7 ⟨hby7, hin7, hk7⟩
  have hz7 := hS.size
  have hi7 : InB B v7 := hin7.mono fun z hz => hNew z (Nat.le_trans (Nat.le_trans hlo (Nat.le_trans hz1 hz7)) hz.1)
  refine ops_nil ⟨hS.trans hk7, fun hS => ?_⟩
  refine gt_one 9 (by kernel_rfl) (one_of rfl ?_)
  refine op_call rfl rfl rfl (tb_put 64 B lo hNew w7 T (.pointer a) _ _ (nibs key.val) val (Nat.le_trans hlo (hk1.trans hS).size) (Nat.le_refl _) hwf hn64 (nibs_16 _) (hN.ka (hk1.trans hS)) (Sl.k (OwnB.by_ hO5) hk7) (fun _ => hi5) hby7 (fun _ => hi7)) ?_; rintro v9 w9 ⟨hN9, hk9⟩
  obtain ⟨a9, rfl, _⟩ := hN9.ptr
  refine ops_nil ⟨hS.trans hk9, fun hS => ?_⟩
  refine gt_run 10 (fun w' hS' => (r_nilCheck rfl)) rfl (by kernel_rfl) (by kernel_rfl) (by kernel_rfl) (by kernel_rfl) rfl hS ?_
  refine gt_run 11 (fun w' hS' => (r_fieldAddr rfl rfl rfl rfl rfl)) rfl (by kernel_rfl) (by kernel_rfl) (by kernel_rfl) (by kernel_rfl) rfl hS ?_
  refine gt_past 12 (by kernel_rfl) (by kernel_rfl) (one_of rfl ?_)
  refine o_store (v := (.pointer a9)) rfl rfl rfl rfl (hS.blk' (hk1.blk' hBt trivial) trivial) (by exact (by decide : (0 : Nat) < 1)) rfl ?_; intro w11 hB11 hk11 hs11
  have hB11 : Blk w11 b [.pointer a9] 49 := hB11
  have hkw9 : Keep All w w9 := hk1.trans hS
  have hfin : TrieB B w11 b (putTT T key val) := ⟨.pointer a9, hB11, NodeB.k hk11 hBb hN9, (putT_all T 64 (nibs key.val) val hwf hn64 (nibs_16 _)).1⟩
  refine ops_nil ?_
  refine gt_done (by kernel_rfl) ?_
  refine ret0 rfl ?_
  exact ⟨hfin, hkw9.all.trans hk11⟩
theorem tb_Drop (B : Nat → Prop) (lo : Nat) (hNew : ∀ z, lo ≤ z → B z) (w : World) (b : Nat) (hlo : lo ≤ w.heap.size) (hBb : ∀ z, B z → z ≠ b) (T : Tre) (key : Dig) (h : TrieB B w b T) : Ret Tryd.prog 13 [.pointer (some ⟨b, 0, none⟩), .agg (dgR key).toArray].toArray w fun r w' =>
    r = .bool (T.get (nibs key.val)).isSome ∧ TrieB B w' b (dropTT T key) ∧ Keep (· ≠ b) w w' := by
  have h0 := h
  obtain ⟨v0, hBt, hN, hwf⟩ := h
  obtain ⟨a, rfl, _⟩ := hN.ptr
  have hn64 : (nibs key.val).length = 64 := by rw [nibs_len, key.2]
  refine enter (fn := Tryd.f13) (n := 19) Tryd.func13 rfl rfl (by simp) ?_
  refine W_seq ?_
  refine W_region ?_
  refine o_box rfl rfl rfl ?_; intro w1 b1 e1 hB1 hk1 hs1
  have hB1 : Blk w1 b1 (dgR key) 24 := hB1
  refine o_asc rfl ?_
  refine ops_nil ?_
  refine W_seq ?_
  refine W_seq ?_
  refine W_region ?_
  refine o_mvt rfl ?_
  refine op_run (r_loadA (dgR key) rfl rfl rfl (by first | rfl | (rw [binV_len]; rfl) | (rw [dgR_len]; rfl) | (rw [refR_len]; rfl) | (rw [secR_len]; rfl) | (rw [List.length_map, tagF_len]; rfl) | rfl) (hB1.all)) rfl ?_
  refine op_call rfl rfl rfl (tr_find w1 b T key (h0.to.k hk1)) ?_; rintro v3 w3 ⟨⟨af, rfl, haf⟩, hf, hk3⟩
  refine op_run (r_isNilP rfl rfl) rfl ?_
  refine ops_nil ?_
  refine W_cond rfl (fun h4 => ?_) (fun h4 => ?_)
  · refine W_seq ?_
    refine W_region ?_
    refine o_asc rfl ?_
    refine ops_nil ?_
    refine W_ret ?_
    refine ret1 (.bool false) rfl ?_ ?_; rfl
    have hno : T.get (nibs key.val) = none := haf.2 (by cases af with
      | none => rfl
      | some x => cases h4)
    have hd : dropTT T key = T := by unfold dropTT; rw [hno]; rfl
    exact ⟨by rw [hno]; rfl, by rw [hd]; exact h0.k (hk1.trans hk3) trivial (fun _ _ => trivial), (hk1.trans hk3).all⟩
  · refine W_skip ?_
    refine W_seq ?_
    obtain ⟨v, hv⟩ : ∃ v, T.get (nibs key.val) = some v := by
      cases hg : T.get (nibs key.val) with
      | none => have := haf.1 hg; subst this; cases h4
      | some v => exact ⟨v, rfl⟩
    refine W_gate 10 (fun w' => Keep All w1 w') (by kernel_rfl) (hk3.trans (Keep.drawn w3)) (fun hS => ?_)
    refine gt_mvt 0 rfl (by kernel_rfl) (by kernel_rfl) (by kernel_rfl) (by kernel_rfl) rfl hS ?_
    refine gt_mvt 1 rfl (by kernel_rfl) (by kernel_rfl) (by kernel_rfl) (by kernel_rfl) rfl hS ?_
    refine gt_run 2 (fun w' hS' => (r_nilCheck rfl)) rfl (by kernel_rfl) (by kernel_rfl) (by kernel_rfl) (by kernel_rfl) rfl hS ?_
    refine gt_run 3 (fun w' hS' => (r_fieldAddr rfl rfl rfl rfl rfl)) rfl (by kernel_rfl) (by kernel_rfl) (by kernel_rfl) (by kernel_rfl) rfl hS ?_
    refine gt_run 4 (fun w' hS' => (r_load rfl rfl rfl (((hS'.blk' (hk1.blk' hBt trivial) trivial).cell rfl)))) rfl (by kernel_rfl) (by kernel_rfl) (by kernel_rfl) (by kernel_rfl) rfl hS ?_
    refine gt_run 5 (fun w' hS' => (r_loadA (dgR key) rfl rfl rfl (by first | rfl | (rw [binV_len]; rfl) | (rw [dgR_len]; rfl) | (rw [refR_len]; rfl) | (rw [secR_len]; rfl) | (rw [List.length_map, tagF_len]; rfl) | rfl) ((hS'.blk' hB1 trivial).all))) rfl (by kernel_rfl) (by kernel_rfl) (by kernel_rfl) (by kernel_rfl) rfl hS ?_
    refine gt_one 6 (by kernel_rfl) (one_of rfl ?_)
    refine op_call rfl rfl rfl (tr_nibbles _ key) ?_; rintro v9 w9 ⟨hO9, hin9, hk9⟩
    refine ops_nil ⟨hS.trans hk9, fun hS => ?_⟩
    refine gt_one 7 (by kernel_rfl) (one_of rfl ?_)
    refine op_call rfl rfl rfl (tb_drop 64 B lo hNew w9 T (.pointer a) _ (nibs key.val) v (Nat.le_trans hlo (hk1.trans hS).size) (Nat.le_refl _) hwf hn64 hv (hN.ka (hk1.trans hS)) (OwnB.by_ hO9)) ?_; rintro v11 w11 ⟨hN11, hk11⟩
    obtain ⟨a11, rfl, _⟩ := hN11.ptr
    refine ops_nil ⟨hS.trans hk11, fun hS => ?_⟩
    refine gt_run 8 (fun w' hS' => (r_nilCheck rfl)) rfl (by kernel_rfl) (by kernel_rfl) (by kernel_rfl) (by kernel_rfl) rfl hS ?_
    refine gt_run 9 (fun w' hS' => (r_fieldAddr rfl rfl rfl rfl rfl)) rfl (by kernel_rfl) (by kernel_rfl) (by kernel_rfl) (by kernel_rfl) rfl hS ?_
    refine gt_past 10 (by kernel_rfl) (by kernel_rfl) (one_of rfl ?_)
    refine o_store (v := (.pointer a11)) rfl rfl rfl rfl (hS.blk' (hk1.blk' hBt trivial) trivial) (by exact (by decide : (0 : Nat) < 1)) rfl ?_; intro w13 hB13 hk13 hs13
    have hB13 : Blk w13 b [.pointer a11] 49 := hB13
    have hkw11 : Keep All w w11 := hk1.trans hS
    have hd : dropTT T key = dropT T (nibs key.val) := by unfold dropTT; rw [hv]; rfl
    have hfin : TrieB B w13 b (dropTT T key) := ⟨.pointer a11, hB13, by rw [hd]; exact NodeB.k hk13 hBb hN11, by rw [hd]; exact (dropT_all T 64 (nibs key.val) v hwf hn64 hv).1⟩
    refine ops_nil ?_
    refine gt_done (by kernel_rfl) ?_
    refine W_seq ?_
    refine W_region ?_
    refine o_asc rfl ?_
    refine ops_nil ?_
    refine W_ret ?_
    refine ret1 (.bool true) rfl ?_ ?_; rfl
    exact ⟨by rw [hv]; rfl, hfin, hkw11.all.trans hk13⟩
end Go.Proofs.YtpiidddccmohdabDoor.B
