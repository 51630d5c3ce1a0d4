/-
  trie: Prove.
-/
import Derived.Test.YtpiidddccmohdabDoorTreK
namespace Go.Proofs.YtpiidddccmohdabDoor.B
open Go
set_option linter.unusedVariables false
set_option maxHeartbeats 2000000
set_option maxRecDepth 100000
attribute [local irreducible] W OpsW OpsQ retP
theorem own_ne {w : World} {e1 e2 s1 s2 : Nat} {v u : Value} {n m : Nat} {xs ys : List Value} (h1 : Own w e1 s1 v n xs) (h2 : Own w e2 s2 u m ys) (he : e1 ≠ e2) {z : Nat} (hz : v.ownBlock = some z) : some z ≠ u.ownBlock := by
  intro hu
  rcases h1.2 with ⟨rfl, _⟩ | ⟨g, cap, cur, rfl, _, hg, _⟩
  · cases hz
  · rcases h2.2 with ⟨rfl, _⟩ | ⟨g2, cap2, cur2, rfl, _, hg2, _⟩
    · cases hu
    · obtain rfl : g = z := Option.some.inj hz
      obtain rfl : g = g2 := Option.some.inj hu
      rw [hg] at hg2
      injection hg2 with h; injection h with _ h
      exact he h
/-- Rows of bytes, each with a row of its own. -/
def RowsO (w : World) (lo : Nat) : List Value → List (List UInt8) → Prop
  | [], [] => True
  | v :: vs, b :: bs => OwnB w 5 v b ∧ InB (fun z => lo ≤ z) v ∧ RowsO w lo vs bs
  | _, _ => False
theorem RowsO.len {w : World} {lo : Nat} : ∀ {vs : List Value} {bs : List (List UInt8)}, RowsO w lo vs bs → vs.length = bs.length
  | [], [], _ => rfl
  | _ :: _, _ :: _, h => by rw [List.length_cons, List.length_cons, RowsO.len h.2.2]
  | [], _ :: _, h => h.elim
  | _ :: _, [], h => h.elim
theorem RowsO.k {w w' : World} {lo : Nat} {C : Nat → Prop} (hk : Keep C w w') (hC : ∀ (v : Value) (b : List UInt8) (z : Nat), OwnB w 5 v b → InB (fun z => lo ≤ z) v → v.ownBlock = some z → C z) : ∀ {vs : List Value} {bs : List (List UInt8)}, RowsO w lo vs bs → RowsO w' lo vs bs
  | [], [], _ => trivial
  | _ :: _, _ :: _, h => ⟨Own.keep h.1 hk (fun z hz => hC _ _ z h.1 h.2.1 hz), h.2.1, RowsO.k hk hC h.2.2⟩
  | [], _ :: _, h => h.elim
  | _ :: _, [], h => h.elim
theorem RowsO.snoc {w : World} {lo : Nat} {v : Value} {b : List UInt8} (h1 : OwnB w 5 v b) (h2 : InB (fun z => lo ≤ z) v) : ∀ {vs : List Value} {bs : List (List UInt8)}, RowsO w lo vs bs → RowsO w lo (vs ++ [v]) (bs ++ [b])
  | [], [], _ => ⟨h1, h2, trivial⟩
  | _ :: _, _ :: _, h => ⟨h.1, h.2.1, RowsO.snoc h1 h2 h.2.2⟩
  | [], _ :: _, h => h.elim
  | _ :: _, [], h => h.elim
theorem RowsO.mono {w : World} {lo lo' : Nat} (hl : lo' ≤ lo) : ∀ {vs : List Value} {bs : List (List UInt8)}, RowsO w lo vs bs → RowsO w lo' vs bs
  | [], [], _ => trivial
  | _ :: _, _ :: _, h => ⟨h.1, h.2.1.mono fun z hz => Nat.le_trans hl hz, RowsO.mono hl h.2.2⟩
  | [], _ :: _, h => h.elim
  | _ :: _, [], h => h.elim
theorem RowsO.get {w : World} {lo : Nat} : ∀ {vs : List Value} {bs : List (List UInt8)} {i : Nat} {b : List UInt8}, RowsO w lo vs bs → bs[i]? = some b → ∃ v, vs[i]? = some v ∧ OwnB w 5 v b ∧ InB (fun z => lo ≤ z) v
  | [], [], i, b, _, h => by cases h
  | v :: vs, c :: bs, 0, b, h, hb => by simp at hb; subst hb; exact ⟨v, rfl, h.1, h.2.1⟩
  | v :: vs, c :: bs, i + 1, b, h, hb => by rw [List.getElem?_cons_succ] at hb ⊢; exact RowsO.get h.2.2 hb
  | [], _ :: _, _, _, h, _ => h.elim
  | _ :: _, [], _, _, h, _ => h.elim
theorem wayT_sub : ∀ (T : Tre) (r : List UInt8) (L : Nat), T.wf L → T.short → ∀ x ∈ wayT T r, ∃ L', x.1.wf L' ∧ x.1.short := by
  intro T
  induction T with
  | no => intro r L _ _ x h; cases h
  | leaf b v => intro r L hw hs x h; rw [List.mem_singleton.1 (show x ∈ [((Tre.leaf b v, r) : Tre × List UInt8)] from h)]; exact ⟨L, hw, hs⟩
  | branch b k ih =>
    intro r L hw hs x h
    rw [wayT] at h
    rcases List.mem_cons.1 h with rfl | h
    · exact ⟨L, hw, hs⟩
    · split at h
      · cases h
      · exact ih _ _ _ (hw.2.2.1 _) (hs.2 _) x h
theorem wayT_len : ∀ (T : Tre) (r : List UInt8) (L : Nat), T.wf L → (wayT T r).length ≤ L + 1 := by
  intro T
  induction T with
  | no => intro r L _; exact Nat.zero_le _
  | leaf b v => intro r L _; show 1 ≤ L + 1; omega
  | branch b k ih =>
    intro r L hw
    rw [wayT, List.length_cons]
    split
    · simp
    · have := ih (r.getD b.length 0).toNat (r.drop (b.length + 1)) _ (hw.2.2.1 _)
      have := hw.1
      omega
def proveT (T : Tre) (key : Dig) : List (List UInt8) := (wayT T (nibs key.val)).map fun x => nodeB x.1
theorem ti_bssP : tinfo Tryd.prog 25 = some (some (.slice none 0 0), 1, 24) := by kernel_rfl
theorem ne_rows : (5 : Nat) ≠ 25 := by decide
theorem OwnB.one1 {w : World} {e : TypeId} {v : Value} {xs : List UInt8} (h : OwnB w e v xs) : one v = true := (OwnB.by_ h).one1
theorem tr_Prove (w : World) (b : Nat) (T0 : Tre) (key : Dig) (h : TrieIn w b T0) (hs : T0.short) : Ret Tryd.prog 9 [.pointer (some ⟨b, 0, none⟩), .agg (dgR key).toArray].toArray w fun r w' =>
    ∃ vs, Own w' 25 1 r vs.length vs ∧ RowsO w' w.heap.size vs (proveT T0 key) ∧ InB (fun z => w.heap.size ≤ z) r ∧ Keep All w w' := by
  obtain ⟨v0, hBt, hN0, hwf⟩ := h
  obtain ⟨N0, hN0e⟩ : ∃ N0, N0 = wayT T0 (nibs key.val) := ⟨_, rfl⟩
  obtain ⟨B, hBdef⟩ : ∃ B : Nat → Prop, B = fun z => z < w.heap.size ∧ z ≠ w.heap.size := ⟨_, rfl⟩
  have hNB : NodeB B w T0 v0 := by rw [hBdef]; exact hN0.toB0
  have hBlt : ∀ z, B z → z < w.heap.size := by rw [hBdef]; exact fun z hz => hz.1
  have hNl : N0.length ≤ 65 := by rw [hN0e]; exact wayT_len T0 _ 64 hwf
  refine enterM (fn := Tryd.f9) (n := 17) Tryd.func9 rfl rfl (by simp) ?_
  refine W_seq ?_
  refine W_region ?_
  refine o_box rfl rfl rfl ?_; intro w1 b1 e1 hB1 hk1 hs1
  have hB1 : Blk w1 b1 (dgR key) 24 := hB1
  refine o_alloc rfl rfl rfl ?_; intro w2 b2 e2 hB2 hk2 hs2
  have hB2 : Blk w2 b2 [.slice none 0 0] 33 := hB2
  refine ops_nil ?_
  refine W_seq2 ?_
  refine W2_seq ?_
  refine W_region ?_
  refine o_mvt rfl ?_
  refine op_run (r_loadA (dgR key) rfl rfl rfl (by first | rfl | (rw [binV_len]; rfl) | (rw [dgR_len]; rfl) | (rw [refR_len]; rfl) | (rw [secR_len]; rfl) | (rw [List.length_map, tagF_len]; rfl) | rfl) ((hk2.blk' hB1 trivial).all)) rfl ?_
  refine op_call rfl rfl rfl (tr_way w2 b key) ?_; rintro v4 w4 ⟨bK, bT, rfl, hBK, hBT, hk4⟩
  have hk04 : Keep All w w4 := (hk1.trans hk2).trans hk4
  obtain ⟨D, hD⟩ : ∃ D, D = w4.heap.size := ⟨_, rfl⟩
  have hz4 := hk4.size
  have hz04 := hk04.size
  have hb2l : w.heap.size ≤ b2 := by have := hk1.size; omega
  have hb2D : b2 < D := by omega
  refine ops_nil ?_
  refine W_rangeA rfl rfl (tr_seq T0 key B b bK bT hwf) (fun k args w' h => by obtain ⟨_, _, _, _, _, rfl, _⟩ := h; rfl) (fun hi k w' => ∃ u vs, Blk w' b2 [u] 33 ∧ Own w' 25 1 u vs.length vs ∧ RowsO w' hi vs ((N0.take k).map fun x => nodeB x.1) ∧ InB (fun z => hi ≤ z) u ∧ Keep All w w' ∧ D + 2 ≤ hi) (fun e w' => False) ?_ ?_ ?_ ?_ ?_ ?_ ?_ ?_
  · exact ⟨fun w' hk => ⟨hk.blk' hBK trivial, hk.blk' hBT trivial, v0, (hk04.trans hk).blk' hBt trivial, hNB.k (hk04.trans hk) (fun _ _ => trivial)⟩, fun z hz => Nat.lt_of_lt_of_le (hBlt z hz) hz04⟩
  · exact fun hi k wa wb ⟨u, vs, h1, h2, h3, h4, h5, h6⟩ hk => ⟨u, vs, hk.blk' h1 (by rw [← hD]; omega), h2.keep hk (fun z hz e => by have := h4 z hz; omega), RowsO.k hk (fun v b z _ hl hz e => by have := hl z hz; omega) h3, h4, h5.new hk (by omega), h6⟩
  · exact fun e wa wb h hk => h
  · exact fun w' hk hs => ⟨_, [], (hk4.trans hk).blk' hB2 trivial, own_nil _ _ _, trivial, InB.nil, hk04.trans hk, by rw [hD]; exact hs⟩
  · rintro k10 args10 w10 hi10 hI10 hlo10 hhi10 hN10 hE10 hL10
    obtain ⟨p, vr, T, r, hget, rfl, hNd, hby10⟩ := hE10
    rw [← hN0e] at hget hN10
    obtain ⟨u, vs, hU1, hU2, hU3, hU4, hU5, hU6⟩ := hI10
    have hmem : ((T, r) : Tre × List UInt8) ∈ wayT T0 (nibs key.val) := by rw [← hN0e]; exact List.mem_of_getElem? hget
    have hTn : T ≠ .no := wayT_ne _ _ _ hmem
    obtain ⟨L', hwfT, hsT⟩ := wayT_sub T0 _ 64 hwf hs _ hmem
    have htk : (N0.take (k10 + 1)).map (fun x => nodeB x.1) = (N0.take k10).map (fun x => nodeB x.1) ++ [nodeB T] := by
      rw [List.take_succ_eq_append_getElem hN10, List.map_append, (List.getElem?_eq_some_iff.1 hget).2]; rfl
    obtain ⟨ap, rfl, _⟩ := hNd.toIn.ptr
    refine W_region ?_
    refine o_ast rfl ?_
    refine ops_nil ?_
    refine ⟨Keep.refl _, ?_⟩; intro w11 hk11 hs11
    rw [← hD] at hk11
    have hBD : ∀ z, B z → z ≠ D + 1 := fun z hz => by have := hBlt z hz; omega
    have hNd11 := (hNd.k hk11 hBD).toIn
    have hU1' := hk11.blk' hU1 (show b2 ≠ D + 1 by omega)
    have hU2' := hU2.keep hk11 (fun z hz => by have := hU4 z hz; show z ≠ D + 1; omega)
    have hU3' : RowsO w11 hi10 vs ((N0.take k10).map fun x => nodeB x.1) := RowsO.k hk11 (fun v b z _ hl hz => by have := hl z hz; show z ≠ D + 1; omega) hU3
    have hU5' : Keep All w w11 := hU5.new hk11 (by omega)
    have hz11 := hk11.size
    have hvl := RowsO.len hU3
    rw [List.length_map, List.length_take] at hvl
    refine W_block ?_
    refine W_gateV 4 5 (fun w' => Blk w' b2 [u] 33) (fun w' => True) (by kernel_rfl) (⟨(Keep.drawn w11).blk' hU1' trivial, trivial⟩) (fun hS => ?_)
    refine gvS_run 0 (fun w' hS' => (r_load rfl rfl rfl ((hS'.cell rfl)))) rfl (by kernel_rfl) (by kernel_rfl) (by kernel_rfl) (by kernel_rfl) (by kernel_rfl) rfl hS ?_
    refine gvP_mvt 1 rfl (by kernel_rfl) (by kernel_rfl) (by kernel_rfl) (by kernel_rfl) rfl hS ?_
    refine gv_one 2 (by kernel_rfl) (one_ofV rfl ?_)
    refine op_call rfl rfl rfl (tr_bytes T L' hTn hwfT hsT _ (.pointer ap) (hNd11.k (Keep.drawn w11))) ?_; rintro v14 w14 ⟨hO14, hin14, hk14⟩
    have hbk : By w14 v14 (nodeB T) := OwnB.by_ hO14
    obtain ⟨a14, c14, e14_, _, _⟩ := hbk.form
    refine ops_nil ⟨⟨hk14.blk' hS.1 trivial, trivial⟩, fun hS => ?_⟩
    refine gv_one 3 (by kernel_rfl) (one_ofV rfl ?_)
    refine o_bs1 (v := v14) rfl hbk.one1 rfl rfl rfl rfl ?_; intro w16 b16 e16 hB16 hk16 hs16
    refine ops_nil ⟨⟨hk16.blk' hS.1 trivial, trivial⟩, fun hS => ?_⟩
    have hk1116 : Keep All w11 w16 := ((Keep.drawn w11).trans hk14).trans hk16
    have hO16 : OwnB w16 5 v14 (nodeB T) := hO14.keep hk16 (fun _ _ => trivial)
    refine gv_mid 4 (by kernel_rfl) (by kernel_rfl) (one_ofV rfl ?_)
    refine o_appS (v := u) (news := [v14]) rfl rfl (Own.blk (n := 1) (sz := 1) hB16 rfl (by unfold maxLen; omega)).sl rfl ti_bssP rfl rfl (hU2'.keep hk1116 (fun _ _ => trivial)) (by simp [hbk.one1]) (by unfold maxLen; omega) (by omega) rfl ?_; intro v18 w18 hown18 hk18 hb18
    obtain ⟨a18, c18, e18_, _, _⟩ := hown18.sl.form
    have hB18 : Blk w18 b2 [u] 33 := hk18.blk' hS.1 (fun e => by have := hU4 b2 e.symm; omega)
    refine ops_nil ⟨trivial, fun hS => ?_⟩
    refine gv_past 5 (by kernel_rfl) (by kernel_rfl) (one_ofV rfl ?_)
    refine o_store (v := v18) rfl rfl (by rw [e18_]; rfl) rfl hB18 (by decide : (0 : Nat) < 1) rfl ?_; intro w20 hB20 hk20 hs20
    refine ops_nil ?_
    refine gv_done (by kernel_rfl) ?_
    have hB20 : Blk w20 b2 [v18] 33 := hB20
    have hz1116 := hk1116.size
    have h18 : InB (fun z => hi10 ≤ z) v18 := fun z hz => by
      rcases hb18 z hz with h | h
      · exact hU4 z h
      · omega
    have hin14' : InB (fun z => hi10 ≤ z) v14 := hin14.mono fun z hz => by
      have hz : w11.heap.size ≤ z := hz
      omega
    have hR16 : RowsO w16 hi10 (vs ++ [v14]) ((N0.take (k10 + 1)).map fun x => nodeB x.1) := by
      rw [htk]; exact RowsO.snoc hO16 hin14' (RowsO.k hk1116 (fun _ _ _ _ _ _ => trivial) hU3')
    have hR18 : RowsO w18 hi10 (vs ++ [v14]) ((N0.take (k10 + 1)).map fun x => nodeB x.1) := RowsO.k hk18 (fun v b z ho _ hz => own_ne ho (hU2'.keep hk1116 (fun _ _ => trivial)) ne_rows hz) hR16
    refine ⟨?_, v18, vs ++ [v14], hB20, ?_, RowsO.k hk20 (fun v b z _ hl hz => by have := hl z hz; show z ≠ b2; omega) hR18, h18, ((hU5'.trans hk1116).own hk18 (fun z hz _ => by have := hU4 z hz; omega)).new hk20 hb2l, hU6⟩
    · refine (hk1116.all.trans (hk18.mono fun z _ hz e => ?_)).trans (hk20.mono fun z _ hz e => ?_)
      · have := hU4 z e.symm
        rcases hz with h | h
        · have := hBlt z h; omega
        · omega
      · rcases hz with h | h
        · have := hBlt z h; omega
        · omega
    · rw [List.length_append]
      exact Own.keep hown18 hk20 (fun z hz => by have := h18 z hz; show z ≠ b2; omega)
  · rintro w22 hI22 hD22
    obtain ⟨hi, u, vs, hU1, hU2, hU3, hU4, hU5, hU6⟩ := hI22.resolve_right (fun h => h)
    rw [← hN0e, List.take_length, hN0e] at hU3
    obtain ⟨au, cu, eu_, _, _⟩ := hU2.sl.form
    refine W_seq ?_
    refine W_region ?_
    refine op_run (r_load rfl rfl rfl (hU1.cell rfl)) rfl ?_
    refine o_store (v := u) rfl rfl (by rw [eu_]; rfl) rfl hU1 (by decide : (0 : Nat) < 1) rfl ?_; intro w24 hB24 hk24 hs24
    have hB24 : Blk w24 b2 [u] 33 := hB24
    refine ops_nil ?_
    refine W_ret ?_
    refine ⟨hk24.get hD22 (show w4.heap.size ≠ b2 by omega), ?_⟩
    refine retC u rfl rfl rfl rfl (((Keep.putObj w24 w4.heap.size _).blk' hB24 (show b2 ≠ w4.heap.size by omega)).cell rfl) ?_
    have hP := Keep.putObj w24 w4.heap.size (.deferred none)
    refine ⟨vs, ((hU2.keep hk24 (fun z hz => by have := hU4 z hz; show z ≠ b2; omega)).keep hP (fun z hz => by have := hU4 z hz; show z ≠ w4.heap.size; omega)), ?_, hU4.mono fun z hz => by omega, (hU5.new hk24 hb2l).new hP (by omega)⟩
    exact RowsO.mono (by omega) (RowsO.k hP (fun v b z _ hl hz => by have := hl z hz; show z ≠ w4.heap.size; omega) (RowsO.k hk24 (fun v b z _ hl hz => by have := hl z hz; show z ≠ b2; omega) hU3))
  · rintro w27 hI27 hD27
    exact hI27.elim
  · exact fun j w1 h => h.elim
end Go.Proofs.YtpiidddccmohdabDoor.B
