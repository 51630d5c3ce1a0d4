/-
  trie: find, Get, Drop, New, Put, Twin.
-/
import Derived.Test.YtpiidddccmohdabDoorTreW4
import Derived.Test.YtpiidddccmohdabDoorClone
namespace Go.Proofs.YtpiidddccmohdabDoor.B
open Go
set_option linter.unusedVariables false
set_option maxHeartbeats 2000000
set_option maxRecDepth 100000
attribute [local irreducible] W OpsW OpsQ retP
theorem wayT_ne : ∀ (T : Tre) (r : List UInt8) (x : Tre × List UInt8), x ∈ wayT T r → x.1 ≠ .no := by
  intro T
  induction T with
  | no => intro r x h; cases h
  | leaf b v =>
    intro r x h
    have h : x ∈ [((Tre.leaf b v, r) : Tre × List UInt8)] := h
    rcases List.mem_cons.1 h with rfl | h
    · intro e; cases e
    · cases h
  | branch b k ih =>
    intro r x h
    rw [wayT] at h
    rcases List.mem_cons.1 h with rfl | h
    · intro e; cases e
    · split at h
      · cases h
      · exact ih _ _ x h
/-- Bytes don't stand in a loop's record. -/
theorem By.notLoop {w : World} {v : Value} {bs : List UInt8} {x : Nat} {L : Loop} (h : By w v bs) (hL : w.heap[x]? = some (.loop L)) : bs ≠ [] → InB (fun z => z ≠ x) v := by
  intro hne b hb e
  obtain ⟨x0, c, rfl, h5, h6, h7, h8, h9⟩ := h
  cases x0 with
  | none => cases hb
  | some y =>
    obtain rfl : y.block = b := Option.some.inj hb
    cases bs with
    | nil => exact absurd rfl hne
    | cons u us =>
      have hc := (h9 y rfl 0 (c8 u) rfl).2
      rw [e] at hc
      simp [World.cell?, hL] at hc
/-- A trie in memory: its cell, and its nodes. -/
def TrieIn (w : World) (b : Nat) (T : Tre) : Prop := ∃ v, Blk w b [v] 49 ∧ NodeIn w T v ∧ T.wf 64
theorem TrieIn.k {w w' : World} {b : Nat} {T : Tre} (h : TrieIn w b T) (hk : Keep All w w') : TrieIn w' b T := by
  obtain ⟨v, h1, h2, h3⟩ := h; exact ⟨v, hk.blk' h1 trivial, h2.k hk, h3⟩
/-- Another trie's cell may change. -/
theorem TrieIn.other {w w' : World} {b x : Nat} {T : Tre} {a : Option Addr} {e : TypeId} (h : TrieIn w b T) (hx : Blk w x [.pointer a] e) (hne : b ≠ x) (hk : Keep (· ≠ x) w w') : TrieIn w' b T := by
  obtain ⟨v, h1, h2, h3⟩ := h
  exact ⟨v, hk.blk' h1 hne, ((h2.toB x (fun _ => ⟨a, e, hx⟩)).k hk (fun z hz => hz.2)).toIn, h3⟩
theorem TrieIn.cell {w : World} {b : Nat} {T : Tre} (h : TrieIn w b T) : ∃ a, Blk w b [.pointer a] 49 := by
  obtain ⟨v, h1, h2, _⟩ := h
  obtain ⟨a, rfl, _⟩ := h2.ptr
  exact ⟨a, h1⟩
def FoundB (B : Nat → Prop) (w : World) (o : Option (List UInt8)) (fa : Value) : Prop := (∃ a, fa = .pointer a ∧ (o = none ↔ a = none)) ∧ ∀ v, o = some v → ∃ beg, NodeB B w (.leaf beg v) fa
theorem FoundB.k {B C : Nat → Prop} {w w' : World} {o : Option (List UInt8)} {fa : Value} (h : FoundB B w o fa) (hk : Keep C w w') (hB : ∀ z, B z → C z) : FoundB B w' o fa :=
  ⟨h.1, fun v hv => (h.2 v hv).imp fun _ hn => hn.k hk hB⟩
theorem tr_seq (T0 : Tre) (key : Dig) (B : Nat → Prop) (b bK bT : Nat) (hwf : T0.wf 64) : SeqA Tryd.prog 31 #[.pointer (some ⟨bK, 0, none⟩), .pointer (some ⟨bT, 0, none⟩)] (wayT T0 (nibs key.val)).length B (wayE T0 key B) (wayR T0 key B b bK bT) :=
  fun l J Jx w hR hBz hJ hJx hY h0 => tw_walk T0 key B b bK bT hwf l J Jx w hR hBz hJ hJx hY h0
theorem tr_way (w : World) (b : Nat) (key : Dig) : Ret Tryd.prog 19 [.pointer (some ⟨b, 0, none⟩), .agg (dgR key).toArray].toArray w fun r w' => ∃ bK bT, r = .func (.func 31) #[] #[.pointer (some ⟨bK, 0, none⟩), .pointer (some ⟨bT, 0, none⟩)] ∧
    Blk w' bK (dgR key) 24 ∧ Blk w' bT [.pointer (some ⟨b, 0, none⟩)] 28 ∧ Keep All w w' := by
  refine enter (fn := Tryd.f19) (n := 6) Tryd.func19 rfl rfl (by simp) ?_
  refine W_seq ?_
  refine W_region ?_
  refine o_box rfl rfl rfl ?_; intro w1 b1 e1 hB1 hk1 hs1
  refine o_box rfl rfl rfl ?_; intro w2 b2 e2 hB2 hk2 hs2
  refine o_asc rfl ?_
  refine ops_nil ?_
  refine W_seq ?_
  refine W_region ?_
  refine op_run (r_makeFunc) rfl ?_
  refine o_ast rfl ?_
  refine ops_nil ?_
  refine W_ret ?_
  refine ret1 (.func (.func 31) #[] #[.pointer (some ⟨b2, 0, none⟩), .pointer (some ⟨b1, 0, none⟩)]) rfl ?_ ?_; rfl
  exact ⟨b2, b1, rfl, hB2, hk2.blk' hB1 trivial, hk1.trans hk2⟩
theorem tr_find (w : World) (b : Nat) (T0 : Tre) (key : Dig) (h : TrieIn w b T0) : Ret Tryd.prog 27 [.pointer (some ⟨b, 0, none⟩), .agg (dgR key).toArray].toArray w fun r w' =>
    (∃ a, r = .pointer a ∧ (T0.get (nibs key.val) = none ↔ a = none)) ∧ (∀ v, T0.get (nibs key.val) = some v → ∃ beg, NodeIn w' (.leaf beg v) r) ∧ Keep All w w' := by
  obtain ⟨v0, hBt, hN0, hwf⟩ := h
  obtain ⟨N0, hN0e⟩ : ∃ N0, N0 = wayT T0 (nibs key.val) := ⟨_, rfl⟩
  obtain ⟨B, hBdef⟩ : ∃ B : Nat → Prop, B = fun z => z < w.heap.size ∧ z ≠ w.heap.size := ⟨_, rfl⟩
  have hNB : NodeB B w T0 v0 := by rw [hBdef]; exact hN0.toB0
  have hBlt : ∀ z, B z → z < w.heap.size := by rw [hBdef]; exact fun z hz => hz.1
  have hn64 : (nibs key.val).length = 64 := by rw [nibs_len, key.2]
  refine enterM (fn := Tryd.f27) (n := 27) Tryd.func27 rfl rfl (by simp) ?_
  refine W_seq ?_
  refine W_region ?_
  refine o_box rfl rfl rfl ?_; intro w1 b1 e1 hB1 hk1 hs1
  have hB1 : Blk w1 b1 (dgR key) 24 := hB1
  refine o_alloc rfl rfl rfl ?_; intro w2 b2 e2 hB2 hk2 hs2
  have hB2 : Blk w2 b2 [.pointer none] 47 := hB2
  refine ops_nil ?_
  refine W_seq2 ?_
  refine W2_seq ?_
  refine W_region ?_
  refine o_mvt rfl ?_
  refine op_run (r_loadA (dgR key) rfl rfl rfl (by first | rfl | (rw [binV_len]; rfl) | (rw [dgR_len]; rfl) | (rw [refR_len]; rfl) | (rw [secR_len]; rfl) | (rw [List.length_map, tagF_len]; rfl) | rfl) ((hk2.blk' hB1 trivial).all)) rfl ?_
  refine op_call rfl rfl rfl (tr_way w2 b key) ?_; rintro v4 w4 ⟨bK, bT, rfl, hBK, hBT, hk4⟩
  have hk04 : Keep All w w4 := (hk1.trans hk2).trans hk4
  obtain ⟨D, hD⟩ : ∃ D, D = w4.heap.size := ⟨_, rfl⟩
  have hz4 := hk4.size
  have hz04 := hk04.size
  have hb2l : w.heap.size ≤ b2 := by have := hk1.size; omega
  have hb2D : b2 < D := by omega
  refine ops_nil ?_
  refine W_rangeA rfl rfl (tr_seq T0 key B b bK bT hwf) (fun k args w' h => by obtain ⟨_, _, _, _, _, rfl, _⟩ := h; rfl) (fun hi k w' => ∃ fa, Blk w' b2 [fa] 47 ∧ FoundB B w' ((N0.take k).foldl hitS none) fa ∧ Keep All w w') (fun e w' => False) ?_ ?_ ?_ ?_ ?_ ?_ ?_ ?_
  · exact ⟨fun w' hk => ⟨hk.blk' hBK trivial, hk.blk' hBT trivial, v0, (hk04.trans hk).blk' hBt trivial, hNB.k (hk04.trans hk) (fun _ _ => trivial)⟩, fun z hz => Nat.lt_of_lt_of_le (hBlt z hz) hz04⟩
  · exact fun hi k wa wb ⟨fa, h1, h2, h3⟩ hk => ⟨fa, hk.blk' h1 (by rw [← hD]; omega), h2.k hk (fun z hz => by have := hBlt z hz; show z ≠ _; omega), h3.new hk (by omega)⟩
  · exact fun e wa wb h hk => h
  · exact fun w' hk hs => ⟨_, (hk4.trans hk).blk' hB2 trivial, ⟨⟨none, rfl, by simp⟩, fun v h => (by cases h)⟩, hk04.trans hk⟩
  · rintro k10 args10 w10 hi10 hI10 hlo10 hhi10 hN10 hE10 hL10
    obtain ⟨p, vr, T, r, hget, rfl, hNd, hby10⟩ := hE10
    rw [← hN0e] at hget hN10
    obtain ⟨fa, hF1, hF2, hF3⟩ := hI10
    have hTn : T ≠ .no := wayT_ne _ _ _ (by rw [← hN0e]; exact List.mem_of_getElem? hget)
    have htk : (N0.take (k10 + 1)).foldl hitS none = hitS ((N0.take k10).foldl hitS none) (T, r) := by
      rw [List.take_succ_eq_append_getElem hN10, List.foldl_append, List.foldl_cons, List.foldl_nil, (List.getElem?_eq_some_iff.1 hget).2]
    refine W_seq ?_
    refine W_region ?_
    refine o_ast rfl ?_
    refine ops_nil ?_
    refine W_region ?_
    refine o_ast rfl ?_
    refine ops_nil ?_
    refine ⟨Keep.refl _, ?_⟩; intro w11 hk11 hs11
    rw [← hD] at hk11
    obtain ⟨lp, hlp⟩ := hL10
    rw [← hD] at hlp
    have hby11 := hby10.keepN hk11 (hby10.notLoop hlp)
    have hBD : ∀ z, B z → z ≠ D + 1 := fun z hz => by have := hBlt z hz; omega
    have hNd11 := hNd.k hk11 hBD
    obtain ⟨bn, vb, vvn, pk, rfl, hB, hb, hvn, hcase⟩ := hNd11.open hTn
    obtain ⟨ab, cb, rfl, _, _⟩ := hb.form
    refine W_block ?_
    refine W_cut [24] [12, 13, 14, 15, 16, 17, 18, 19, 20, 21, 22, 23, 24] (fun vs w12 => ∃ d : Bool, vs = [.bool d] ∧ (d = true ↔ (hitT (T, r)).isSome = true) ∧ w12 = w11) ?_ ?_
    · refine W_region ?_
      refine o_mvt rfl ?_
      refine op_run (r_nilCheck rfl) rfl ?_
      refine op_run (r_fieldAddr rfl rfl rfl rfl rfl) rfl ?_
      refine op_run (r_load rfl rfl rfl (hB.cell rfl)) rfl ?_
      refine op_run (r_isNilP rfl rfl) rfl ?_
      refine o_mvt rfl ?_
      refine g_split rfl rfl rfl (fun g14 => ?_) (fun g14 => ?_)
      · refine o_mvt (g_yes rfl rfl rfl g14) ?_
        refine op_run (r_nilCheck rfl) (g_yes rfl rfl rfl g14) ?_
        refine op_run (r_fieldAddr rfl rfl rfl rfl rfl) (g_yes rfl rfl rfl g14) ?_
        refine op_run (r_load rfl rfl rfl (hB.cell rfl)) (g_yes rfl rfl rfl g14) ?_
        refine o_mvt (g_yes rfl rfl rfl g14) ?_
        refine op_call rfl rfl (g_yes rfl rfl rfl g14) (by_Equal w11 _ _ (begT T) r hb hby11) ?_; rintro v16 w16 ⟨rfl, rfl⟩
        refine o_pkTt rfl g14 rfl ?_
        refine ops_nil ?_
        exact ⟨by (repeat (first | with_reducible exact offM_refl _ _ | refine offM_updc rfl ?_ | refine offM_upd rfl ?_ | refine offM_updo rfl ?_ | refine offM_updo_none ?_ | refine offM_head rfl rfl ?_)), decide (begT T = r), rfl, by
          obtain ⟨beg, val, rfl⟩ : ∃ beg val, T = .leaf beg val := by
            rcases hcase with ⟨_, beg, val, e, _⟩ | ⟨_, _, _, _, _, e, _⟩
            · exact ⟨_, _, e⟩
            · subst e; cases g14
          show decide (beg = r) = true ↔ (if beg = r then some val else none).isSome = true
          by_cases e : beg = r <;> simp [e], rfl⟩
      · refine op_skip (g_no rfl rfl rfl g14) ?_
        refine op_skip (g_no rfl rfl rfl g14) ?_
        refine op_skip (g_no rfl rfl rfl g14) ?_
        refine op_skip (g_no rfl rfl rfl g14) ?_
        refine op_skip (g_no rfl rfl rfl g14) ?_
        refine op_skip (g_no rfl rfl rfl g14) ?_
        refine o_pkFc rfl g14 rfl ?_
        refine ops_nil ?_
        exact ⟨by (repeat (first | with_reducible exact offM_refl _ _ | refine offM_updc rfl ?_ | refine offM_upd rfl ?_ | refine offM_updo rfl ?_ | refine offM_updo_none ?_ | refine offM_head rfl rfl ?_)), false, rfl, by
          obtain ⟨beg, kids, rfl⟩ : ∃ beg kids, T = .branch beg kids := by
            rcases hcase with ⟨e, _⟩ | ⟨beg, kids, _, _, e, _⟩
            · subst e; cases g14
            · exact ⟨_, _, e⟩
          exact ⟨(fun h => by cases h), fun h => by cases h⟩, rfl⟩
    · rintro J19 vs w19 ⟨d, rfl, hd, rfl⟩ -
      refine W_cond rfl (fun h20 => ?_) (fun h20 => ?_)
      · refine W_region ?_
        refine o_mvt rfl ?_
        refine o_store (v := (.pointer (some ⟨bn, 0, none⟩))) rfl rfl rfl rfl (hk11.blk' hF1 (show b2 ≠ D + 1 by omega)) (by exact (by decide : (0 : Nat) < 1)) rfl ?_; intro w21 hB21 hk21 hs21
        have hB21 : Blk w21 b2 [.pointer (some ⟨bn, 0, none⟩)] 47 := hB21
        have hb2B : ∀ z, B z → z ≠ b2 := fun z hz => by have := hBlt z hz; omega
        refine ops_nil ?_
        obtain ⟨beg, val, rfl, hbeg⟩ : ∃ beg val, T = .leaf beg val ∧ beg = r := by
          have h := hd.1 h20
          cases T with
          | no => cases h
          | branch b k => cases h
          | leaf beg val =>
            have h : (if beg = r then some val else none).isSome = true := h
            by_cases e : beg = r
            · exact ⟨_, _, rfl, e⟩
            · rw [if_neg e] at h; cases h
        have hst : hitS ((N0.take k10).foldl hitS none) (.leaf beg val, r) = some val := by
          unfold hitS hitT
          simp [hbeg]
        refine ⟨(hk21.mono fun z _ hz => ?_), .pointer (some ⟨bn, 0, none⟩), hB21, ⟨⟨_, rfl, by rw [htk, hst]; simp⟩, fun v hv => ?_⟩, ((hF3.new hk11 (by omega)).new hk21 hb2l)⟩
        · rcases hz with hz | hz
          · exact hb2B z hz
          · omega
        · rw [htk, hst] at hv
          injection hv with hv; subst hv
          exact ⟨beg, hNd11.k hk21 hb2B⟩
      · refine W_skip ?_
        have hst : hitS ((N0.take k10).foldl hitS none) (T, r) = (N0.take k10).foldl hitS none := by
          unfold hitS
          cases hh : hitT (T, r) with
          | none => rfl
          | some v => rw [hd.2 (by rw [hh]; rfl)] at h20; cases h20
        exact ⟨Keep.refl _, fa, hk11.blk' hF1 (show b2 ≠ D + 1 by omega), by rw [htk, hst]; exact hF2.k hk11 hBD, hF3.new hk11 (by omega)⟩
  · rintro w24 hI24 hD24
    obtain ⟨hi, fa, hF1, hF2, hF3⟩ := hI24.resolve_right (fun h => h)
    rw [← hN0e, List.take_length, hN0e, get_way T0 _ 64 hwf hn64] at hF2
    obtain ⟨⟨a, rfl, ha⟩, hF4⟩ := hF2
    refine W_seq ?_
    refine W_region ?_
    refine op_run (r_load rfl rfl rfl (hF1.cell rfl)) rfl ?_
    refine o_store (v := (.pointer a)) rfl rfl rfl rfl hF1 (by exact (by decide : (0 : Nat) < 1)) rfl ?_; intro w26 hB26 hk26 hs26
    have hB26 : Blk w26 b2 [.pointer a] 47 := hB26
    refine ops_nil ?_
    refine W_ret ?_
    refine ⟨hk26.get hD24 (show w4.heap.size ≠ b2 by omega), ?_⟩
    refine retC (.pointer a) rfl rfl rfl rfl (((Keep.putObj w26 w4.heap.size _).blk' hB26 (show b2 ≠ w4.heap.size by omega)).cell rfl) ?_
    refine ⟨⟨a, rfl, ha⟩, fun v hv => (hF4 v hv).imp fun beg hn => ((hn.k hk26 (fun z hz => by have := hBlt z hz; show z ≠ b2; omega)).k (Keep.putObj w26 w4.heap.size _) (fun z hz => by have := hBlt z hz; show z ≠ w4.heap.size; omega)).toIn, (hF3.new hk26 hb2l).new (Keep.putObj w26 w4.heap.size _) (by omega)⟩
  · rintro w29 hI29 hD29
    exact hI29.elim
  · exact fun j w1 h => h.elim
theorem tr_New (w : World) : Ret Tryd.prog 7 [].toArray w fun r w' => r = .pointer (some ⟨w.heap.size, 0, none⟩) ∧ TrieIn w' w.heap.size .no ∧ Keep All w w' := by
  refine enter (fn := Tryd.f7) (n := 3) Tryd.func7 rfl rfl (by simp) ?_
  refine W_seq ?_
  refine W_region ?_
  refine o_asc rfl ?_
  refine ops_nil ?_
  refine W_seq ?_
  refine W_region ?_
  refine op_run (r_build ([.pointer none]) (_) ([]) rfl rfl rfl rfl rfl (rfl)) rfl ?_
  refine o_box rfl rfl rfl ?_; intro w2 b2 e2 hB2 hk2 hs2
  refine o_ast rfl ?_
  refine ops_nil ?_
  refine W_ret ?_
  refine ret1 (.pointer (some ⟨b2, 0, none⟩)) rfl ?_ ?_; rfl
  subst e2
  exact ⟨rfl, ⟨.pointer none, hB2, rfl, trivial⟩, hk2⟩
theorem tr_GetO (w : World) (b : Nat) (T : Tre) (key : Dig) (h : TrieIn w b T) (hlen : ∀ v, T.get (nibs key.val) = some v → v.length ≤ 2 ^ 46) : Ret Tryd.prog 14 [.pointer (some ⟨b, 0, none⟩), .agg (dgR key).toArray].toArray w fun r w' =>
    ∃ vv, r = .tuple #[vv, .bool (T.get (nibs key.val)).isSome] ∧ OwnB w' 5 vv ((T.get (nibs key.val)).getD []) ∧ InB (fun z => w.heap.size ≤ z ∧ z < w'.heap.size) vv ∧ Keep All w w' := by
  refine enter (fn := Tryd.f14) (n := 17) Tryd.func14 rfl rfl (by simp) ?_
  refine W_seq ?_
  refine W_region ?_
  refine o_box rfl rfl rfl ?_; intro w1 b1 e1 hB1 hk1 hs1
  have hB1 : Blk w1 b1 (dgR key) 24 := hB1
  refine o_asc rfl ?_
  refine o_asc rfl ?_
  refine ops_nil ?_
  refine W_seq ?_
  refine W_region ?_
  refine o_mvt rfl ?_
  refine op_run (r_loadA (dgR key) rfl rfl rfl (by first | rfl | (rw [binV_len]; rfl) | (rw [dgR_len]; rfl) | (rw [refR_len]; rfl) | (rw [secR_len]; rfl) | (rw [List.length_map, tagF_len]; rfl) | rfl) (hB1.all)) rfl ?_
  refine op_call rfl rfl rfl (tr_find w1 b T key (h.k hk1)) ?_; rintro v3 w3 ⟨⟨a, rfl, ha⟩, hf, hk3⟩
  refine o_ast rfl ?_
  refine ops_nil ?_
  refine W_seq ?_
  refine W_seq ?_
  refine W_region ?_
  refine o_mvt rfl ?_
  refine op_run (r_isNilP rfl rfl) rfl ?_
  refine ops_nil ?_
  refine W_cond rfl (fun h4 => ?_) (fun h4 => ?_)
  · refine W_seq ?_
    refine W_region ?_
    refine o_asc rfl ?_
    refine o_asc rfl ?_
    refine ops_nil ?_
    refine W_ret ?_
    refine ret2 (.slice none 0 0) (.bool false) rfl ?_ ?_ ?_; rfl; rfl
    have hno : T.get (nibs key.val) = none := ha.2 (by cases a with
      | none => rfl
      | some x => cases h4)
    exact ⟨_, by rw [hno]; rfl, by rw [hno]; exact own_nil _ _ _, InB.nil, hk1.trans hk3⟩
  · refine W_skip ?_
    refine W_seq ?_
    refine W_region ?_
    obtain ⟨v, hv⟩ : ∃ v, T.get (nibs key.val) = some v := by
      cases hg : T.get (nibs key.val) with
      | none => have := ha.1 hg; subst this; cases h4
      | some v => exact ⟨v, rfl⟩
    obtain ⟨beg, bn, vb, vv, ea, hBn, hbn, hvn⟩ := hf v hv
    cases ea
    obtain ⟨av, cv, rfl, _, _⟩ := hvn.form
    refine o_mvt rfl ?_
    refine op_run (r_nilCheck rfl) rfl ?_
    refine op_run (r_fieldAddr rfl rfl rfl rfl rfl) rfl ?_
    refine op_run (r_load rfl rfl rfl (hBn.cell rfl)) rfl ?_
    refine op_call rfl rfl rfl (sl_CloneO w3 _ v hvn (hlen v hv)) ?_; rintro v7 w7 ⟨hby7, hin7, hk7⟩
    refine o_ast rfl ?_
    refine o_asc rfl ?_
    refine ops_nil ?_
    refine W_ret ?_
    refine ret2 v7 (.bool true) rfl ?_ ?_ ?_; rfl; rfl
    have hz1 := hk1.size
    have hz3 := hk3.size
    exact ⟨v7, by rw [hv]; rfl, by rw [hv]; exact hby7, hin7.mono fun z hz => ⟨by omega, hz.2⟩, (hk1.trans hk3).trans hk7⟩
theorem tr_Get (w : World) (b : Nat) (T : Tre) (key : Dig) (h : TrieIn w b T) (hlen : ∀ v, T.get (nibs key.val) = some v → v.length ≤ 2 ^ 46) : Ret Tryd.prog 14 [.pointer (some ⟨b, 0, none⟩), .agg (dgR key).toArray].toArray w fun r w' =>
    ∃ vv, r = .tuple #[vv, .bool (T.get (nibs key.val)).isSome] ∧ By w' vv ((T.get (nibs key.val)).getD []) ∧ InB (fun z => w.heap.size ≤ z ∧ z < w'.heap.size) vv ∧ Keep All w w' :=
  (tr_GetO w b T key h hlen).mono fun _ _ ⟨v, he, vv, e, h1, h2⟩ => ⟨v, he, vv, e, OwnB.by_ h1, h2⟩
def putTT (T : Tre) (key : Dig) (val : List UInt8) : Tre := putT T (nibs key.val) val
def dropTT (T : Tre) (key : Dig) : Tre := if (T.get (nibs key.val)).isSome then dropT T (nibs key.val) else T
theorem tr_Put (w : World) (b : Nat) (T : Tre) (key : Dig) (vv : Value) (val : List UInt8) (h : TrieIn w b T) (hv : By w vv val) (hl : val.length ≤ 2 ^ 46) : Ret Tryd.prog 8 [.pointer (some ⟨b, 0, none⟩), .agg (dgR key).toArray, vv].toArray w fun _ w' =>
    TrieIn w' b (putTT T key val) ∧ Keep (· ≠ b) w w' := by
  obtain ⟨v0, hBt, hN, hwf⟩ := h
  obtain ⟨a, rfl, _⟩ := hN.ptr
  have hn64 : (nibs key.val).length = 64 := by rw [nibs_len, key.2]
  refine enter (fn := Tryd.f8) (n := 18) Tryd.func8 rfl rfl (by simp) ?_
  refine W_seq ?_
  refine W_region ?_
  refine o_box rfl rfl rfl ?_; intro w1 b1 e1 hB1 hk1 hs1
  have hB1 : Blk w1 b1 (dgR key) 24 := hB1
  refine ops_nil ?_
  refine W_gate 12 (fun w' => Keep All w1 w') (by kernel_rfl) (Keep.drawn w1) (fun hS => ?_)
  refine gt_mvt 0 rfl (by kernel_rfl) (by kernel_rfl) (by kernel_rfl) (by kernel_rfl) rfl hS ?_
  refine gt_mvt 1 rfl (by kernel_rfl) (by kernel_rfl) (by kernel_rfl) (by kernel_rfl) rfl hS ?_
  refine gt_run 2 (fun w' hS' => (r_nilCheck rfl)) rfl (by kernel_rfl) (by kernel_rfl) (by kernel_rfl) (by kernel_rfl) rfl hS ?_
  refine gt_run 3 (fun w' hS' => (r_fieldAddr rfl rfl rfl rfl rfl)) rfl (by kernel_rfl) (by kernel_rfl) (by kernel_rfl) (by kernel_rfl) rfl hS ?_
  refine gt_run 4 (fun w' hS' => (r_load rfl rfl rfl (((hS'.blk' (hk1.blk' hBt trivial) trivial).cell rfl)))) rfl (by kernel_rfl) (by kernel_rfl) (by kernel_rfl) (by kernel_rfl) rfl hS ?_
  refine gt_run 5 (fun w' hS' => (r_loadA (dgR key) rfl rfl rfl (by first | rfl | (rw [binV_len]; rfl) | (rw [dgR_len]; rfl) | (rw [refR_len]; rfl) | (rw [secR_len]; rfl) | (rw [List.length_map, tagF_len]; rfl) | rfl) ((hS'.blk' hB1 trivial).all))) rfl (by kernel_rfl) (by kernel_rfl) (by kernel_rfl) (by kernel_rfl) rfl hS ?_
  refine gt_mvt 7 rfl (by kernel_rfl) (by kernel_rfl) (by kernel_rfl) (by kernel_rfl) rfl hS ?_
  refine gt_one 6 (by kernel_rfl) (one_of rfl ?_)
  refine op_call rfl rfl rfl (tr_nibbles _ key) ?_; rintro v5 w5 ⟨hO5, hin5, hk5⟩
  refine ops_nil ⟨hS.trans hk5, fun hS => ?_⟩
  refine gt_one 8 (by kernel_rfl) (one_of rfl ?_)
  refine op_call rfl rfl rfl (sl_CloneT w5 _ val (Sl.k hv (hk1.trans hS)) hl) ?_; rintro v7 w7 ⟨hby7, hin7, hk7⟩
  refine ops_nil ⟨hS.trans hk7, fun hS => ?_⟩
  refine gt_one 9 (by kernel_rfl) (one_of rfl ?_)
  refine op_call rfl rfl rfl (tr_put 64 w7 T (.pointer a) _ _ (nibs key.val) val (Nat.le_refl _) hwf hn64 (nibs_16 _) (hN.k (hk1.trans hS)) (Sl.k (OwnB.by_ hO5) hk7) hby7) ?_; rintro v9 w9 ⟨hN9, hk9⟩
  obtain ⟨a9, rfl, _⟩ := hN9.ptr
  refine ops_nil ⟨hS.trans hk9, fun hS => ?_⟩
  refine gt_run 10 (fun w' hS' => (r_nilCheck rfl)) rfl (by kernel_rfl) (by kernel_rfl) (by kernel_rfl) (by kernel_rfl) rfl hS ?_
  refine gt_run 11 (fun w' hS' => (r_fieldAddr rfl rfl rfl rfl rfl)) rfl (by kernel_rfl) (by kernel_rfl) (by kernel_rfl) (by kernel_rfl) rfl hS ?_
  refine gt_past 12 (by kernel_rfl) (by kernel_rfl) (one_of rfl ?_)
  refine o_store (v := (.pointer a9)) rfl rfl rfl rfl (hS.blk' (hk1.blk' hBt trivial) trivial) (by exact (by decide : (0 : Nat) < 1)) rfl ?_; intro w11 hB11 hk11 hs11
  have hB11 : Blk w11 b [.pointer a9] 49 := hB11
  have hkw9 : Keep All w w9 := hk1.trans hS
  have hbt9 : Blk w9 b [.pointer a] 49 := hkw9.blk' hBt trivial
  have hfin : TrieIn w11 b (putTT T key val) := ⟨.pointer a9, hB11, ((hN9.toB b (fun _ => ⟨a, _, hbt9⟩)).k hk11 (fun z hz => hz.2)).toIn, (putT_all T 64 (nibs key.val) val hwf hn64 (nibs_16 _)).1⟩
  refine ops_nil ?_
  refine gt_done (by kernel_rfl) ?_
  refine ret0 rfl ?_
  exact ⟨hfin, hkw9.all.trans hk11⟩
theorem tr_Drop (w : World) (b : Nat) (T : Tre) (key : Dig) (h : TrieIn w b T) : Ret Tryd.prog 13 [.pointer (some ⟨b, 0, none⟩), .agg (dgR key).toArray].toArray w fun r w' =>
    r = .bool (T.get (nibs key.val)).isSome ∧ TrieIn w' b (dropTT T key) ∧ Keep (· ≠ b) w w' := by
  have h0 := h
  obtain ⟨v0, hBt, hN, hwf⟩ := h
  obtain ⟨a, rfl, _⟩ := hN.ptr
  have hn64 : (nibs key.val).length = 64 := by rw [nibs_len, key.2]
  refine enter (fn := Tryd.f13) (n := 19) Tryd.func13 rfl rfl (by simp) ?_
  refine W_seq ?_
  refine W_region ?_
  refine o_box rfl rfl rfl ?_; intro w1 b1 e1 hB1 hk1 hs1
  have hB1 : Blk w1 b1 (dgR key) 24 := hB1
  refine o_asc rfl ?_
  refine ops_nil ?_
  refine W_seq ?_
  refine W_seq ?_
  refine W_region ?_
  refine o_mvt rfl ?_
  refine op_run (r_loadA (dgR key) rfl rfl rfl (by first | rfl | (rw [binV_len]; rfl) | (rw [dgR_len]; rfl) | (rw [refR_len]; rfl) | (rw [secR_len]; rfl) | (rw [List.length_map, tagF_len]; rfl) | rfl) (hB1.all)) rfl ?_
  refine op_call rfl rfl rfl (tr_find w1 b T key (h0.k hk1)) ?_; rintro v3 w3 ⟨⟨af, rfl, haf⟩, hf, hk3⟩
  refine op_run (r_isNilP rfl rfl) rfl ?_
  refine ops_nil ?_
  refine W_cond rfl (fun h4 => ?_) (fun h4 => ?_)
  · refine W_seq ?_
    refine W_region ?_
    refine o_asc rfl ?_
    refine ops_nil ?_
    refine W_ret ?_
    refine ret1 (.bool false) rfl ?_ ?_; rfl
    have hno : T.get (nibs key.val) = none := haf.2 (by cases af with
      | none => rfl
      | some x => cases h4)
    have hd : dropTT T key = T := by unfold dropTT; rw [hno]; rfl
    exact ⟨by rw [hno]; rfl, by rw [hd]; exact h0.k (hk1.trans hk3), (hk1.trans hk3).all⟩
  · refine W_skip ?_
    refine W_seq ?_
    obtain ⟨v, hv⟩ : ∃ v, T.get (nibs key.val) = some v := by
      cases hg : T.get (nibs key.val) with
      | none => have := haf.1 hg; subst this; cases h4
      | some v => exact ⟨v, rfl⟩
    refine W_gate 10 (fun w' => Keep All w1 w') (by kernel_rfl) (hk3.trans (Keep.drawn w3)) (fun hS => ?_)
    refine gt_mvt 0 rfl (by kernel_rfl) (by kernel_rfl) (by kernel_rfl) (by kernel_rfl) rfl hS ?_
    refine gt_mvt 1 rfl (by kernel_rfl) (by kernel_rfl) (by kernel_rfl) (by kernel_rfl) rfl hS ?_
    refine gt_run 2 (fun w' hS' => (r_nilCheck rfl)) rfl (by kernel_rfl) (by kernel_rfl) (by kernel_rfl) (by kernel_rfl) rfl hS ?_
    refine gt_run 3 (fun w' hS' => (r_fieldAddr rfl rfl rfl rfl rfl)) rfl (by kernel_rfl) (by kernel_rfl) (by kernel_rfl) (by kernel_rfl) rfl hS ?_
    refine gt_run 4 (fun w' hS' => (r_load rfl rfl rfl (((hS'.blk' (hk1.blk' hBt trivial) trivial).cell rfl)))) rfl (by kernel_rfl) (by kernel_rfl) (by kernel_rfl) (by kernel_rfl) rfl hS ?_
    refine gt_run 5 (fun w' hS' => (r_loadA (dgR key) rfl rfl rfl (by first | rfl | (rw [binV_len]; rfl) | (rw [dgR_len]; rfl) | (rw [refR_len]; rfl) | (rw [secR_len]; rfl) | (rw [List.length_map, tagF_len]; rfl) | rfl) ((hS'.blk' hB1 trivial).all))) rfl (by kernel_rfl) (by kernel_rfl) (by kernel_rfl) (by kernel_rfl) rfl hS ?_
    refine gt_one 6 (by kernel_rfl) (one_of rfl ?_)
    refine op_call rfl rfl rfl (tr_nibbles _ key) ?_; rintro v9 w9 ⟨hO9, hin9, hk9⟩
    refine ops_nil ⟨hS.trans hk9, fun hS => ?_⟩
    refine gt_one 7 (by kernel_rfl) (one_of rfl ?_)
    refine op_call rfl rfl rfl (tr_drop 64 w9 T (.pointer a) _ (nibs key.val) v (Nat.le_refl _) hwf hn64 hv (hN.k (hk1.trans hS)) (OwnB.by_ hO9)) ?_; rintro v11 w11 ⟨hN11, hk11⟩
    obtain ⟨a11, rfl, _⟩ := hN11.ptr
    refine ops_nil ⟨hS.trans hk11, fun hS => ?_⟩
    refine gt_run 8 (fun w' hS' => (r_nilCheck rfl)) rfl (by kernel_rfl) (by kernel_rfl) (by kernel_rfl) (by kernel_rfl) rfl hS ?_
    refine gt_run 9 (fun w' hS' => (r_fieldAddr rfl rfl rfl rfl rfl)) rfl (by kernel_rfl) (by kernel_rfl) (by kernel_rfl) (by kernel_rfl) rfl hS ?_
    refine gt_past 10 (by kernel_rfl) (by kernel_rfl) (one_of rfl ?_)
    refine o_store (v := (.pointer a11)) rfl rfl rfl rfl (hS.blk' (hk1.blk' hBt trivial) trivial) (by exact (by decide : (0 : Nat) < 1)) rfl ?_; intro w13 hB13 hk13 hs13
    have hB13 : Blk w13 b [.pointer a11] 49 := hB13
    have hkw11 : Keep All w w11 := hk1.trans hS
    have hbt11 : Blk w11 b [.pointer a] 49 := hkw11.blk' hBt trivial
    have hd : dropTT T key = dropT T (nibs key.val) := by unfold dropTT; rw [hv]; rfl
    have hfin : TrieIn w13 b (dropTT T key) := ⟨.pointer a11, hB13, by rw [hd]; exact ((hN11.toB b (fun _ => ⟨a, _, hbt11⟩)).k hk13 (fun z hz => hz.2)).toIn, by rw [hd]; exact (dropT_all T 64 (nibs key.val) v hwf hn64 hv).1⟩
    refine ops_nil ?_
    refine gt_done (by kernel_rfl) ?_
    refine W_seq ?_
    refine W_region ?_
    refine o_asc rfl ?_
    refine ops_nil ?_
    refine W_ret ?_
    refine ret1 (.bool true) rfl ?_ ?_; rfl
    exact ⟨by rw [hv]; rfl, hfin, hkw11.all.trans hk13⟩
/-! ### What a trie has -/
theorem nibs_inj : ∀ {a b : List UInt8}, nibs a = nibs b → a = b
  | [], [], _ => rfl
  | [], y :: b, h => by cases h
  | x :: a, [], h => by cases h
  | x :: a, y :: b, h => by
    have h : hiN x :: loN x :: nibs a = hiN y :: loN y :: nibs b := h
    injection h with h1 h
    injection h with h2 h
    have e1 := congrArg UInt8.toNat h1
    have e2 := congrArg UInt8.toNat h2
    rw [hiN_nat, hiN_nat] at e1
    rw [loN_nat, loN_nat] at e2
    rw [nibs_inj h, UInt8.toNat_inj.1 (show x.toNat = y.toNat by omega)]
theorem nibs_surj : ∀ (n : Nat) (r : List UInt8), r.length = 2 * n → nib16 r → ∃ l : List UInt8, l.length = n ∧ nibs l = r
  | 0, r, h, _ => ⟨[], rfl, by obtain rfl := List.eq_nil_of_length_eq_zero h; rfl⟩
  | n + 1, r, h, hn => by
    match r, h, hn with
    | a :: b :: t, h, hn =>
      simp only [List.length_cons] at h
      obtain ⟨l, hl, e⟩ := nibs_surj n t (by omega) (fun x hx => hn x (List.mem_cons_of_mem _ (List.mem_cons_of_mem _ hx)))
      have ha := hn a (List.mem_cons_self ..)
      have hb := hn b (List.mem_cons_of_mem _ (List.mem_cons_self ..))
      have hx := toU8_lt (x := a.toNat * 16 + b.toNat) (by omega)
      refine ⟨(a.toNat * 16 + b.toNat).toUInt8 :: l, by rw [List.length_cons, hl], ?_⟩
      show hiN _ :: loN _ :: nibs l = _
      rw [e, show hiN (a.toNat * 16 + b.toNat).toUInt8 = a from UInt8.toNat_inj.1 (by rw [hiN_nat, hx]; omega), show loN (a.toNat * 16 + b.toNat).toUInt8 = b from UInt8.toNat_inj.1 (by rw [loN_nat, hx]; omega)]
/-- A trie is told by what it has under each key. -/
theorem Tre.uniqD {T S : Tre} (hT : T.wf 64) (hS : S.wf 64) (h : ∀ k : Dig, T.get (nibs k.val) = S.get (nibs k.val)) : T = S :=
  Tre.uniq T S 64 hT hS fun r hr hn => by
    obtain ⟨l, hl, rfl⟩ := nibs_surj 32 r (by omega) hn
    exact h ⟨l, hl⟩
theorem get_putTT {T : Tre} (h : T.wf 64) (key k : Dig) (val : List UInt8) : (putTT T key val).get (nibs k.val) = if k = key then some val else T.get (nibs k.val) := by
  have hn : ∀ d : Dig, (nibs d.val).length = 64 := fun d => by rw [nibs_len, d.2]
  unfold putTT
  rw [(putT_all T 64 (nibs key.val) val h (hn key) (nibs_16 _)).2 _ (hn k)]
  by_cases e : k = key
  · rw [if_pos e, if_pos (by rw [e])]
  · rw [if_neg e, if_neg (fun h => e (Subtype.ext (nibs_inj h)))]
theorem get_dropTT {T : Tre} (h : T.wf 64) (key k : Dig) : (dropTT T key).get (nibs k.val) = if k = key then none else T.get (nibs k.val) := by
  have hn : ∀ d : Dig, (nibs d.val).length = 64 := fun d => by rw [nibs_len, d.2]
  unfold dropTT
  cases hg : T.get (nibs key.val) with
  | none =>
    show T.get (nibs k.val) = _
    by_cases e : k = key
    · rw [if_pos e, e, hg]
    · rw [if_neg e]
  | some v =>
    show (dropT T (nibs key.val)).get (nibs k.val) = _
    rw [(dropT_all T 64 (nibs key.val) v h (hn key) hg).2 _ (hn k)]
    by_cases e : k = key
    · rw [if_pos e, if_pos (by rw [e])]
    · rw [if_neg e, if_neg (fun h => e (Subtype.ext (nibs_inj h)))]
theorem wf_putTT {T : Tre} (h : T.wf 64) (key : Dig) (val : List UInt8) : (putTT T key val).wf 64 := (putT_all T 64 (nibs key.val) val h (by rw [nibs_len, key.2]) (nibs_16 _)).1
theorem wf_dropTT {T : Tre} (h : T.wf 64) (key : Dig) : (dropTT T key).wf 64 := by
  unfold dropTT
  cases hg : T.get (nibs key.val) with
  | none => exact h
  | some v => exact (dropT_all T 64 (nibs key.val) v h (by rw [nibs_len, key.2]) hg).1
end Go.Proofs.YtpiidddccmohdabDoor.B
