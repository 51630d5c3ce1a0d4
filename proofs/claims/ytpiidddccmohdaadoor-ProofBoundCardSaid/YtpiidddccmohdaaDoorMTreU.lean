/-
  Texts merged (mtpl.py): TreU1 TreU2 TreU3 TreU4 TreU5.
-/
import Derived.Test.YtpiidddccmohdaaDoorTreK2
import Derived.Test.YtpiidddccmohdaaDoorNib8
import Derived.Test.YtpiidddccmohdaaDoorTreP
import Derived.Test.YtpiidddccmohdaaDoorTreTw
/-! Tries: the items of a node, whose keys begin alike. -/
namespace Go.Proofs.YtpiidddccmohdaaDoor.B
open Go
set_option linter.unusedVariables false
set_option maxHeartbeats 2000000
set_option maxRecDepth 100000
attribute [local irreducible] W OpsW OpsQ retP
/-- All keys from a place on have the same nibbles up to another one, and part there. -/
def ShP (l : List It) (a to : Nat) : Prop := a ≤ to ∧ to ≤ 64 ∧ (∀ i, a ≤ i → i < to → ∀ x ∈ l, ∀ y ∈ l, (nibs x.1.val)[i]? = (nibs y.1.val)[i]?) ∧ (to < 64 → ∃ x ∈ l, ∃ y ∈ l, (nibs x.1.val)[to]? ≠ (nibs y.1.val)[to]?)
def partI (l : List It) (at_ : Nat) (n : UInt8) : List It := l.filter fun x => (nibs x.1.val)[at_]? = some n
/-- A trie has just the items, behind a beginning. -/
structure AtI (a : List UInt8) (T : Tre) (l : List It) : Prop where
  wf : T.wf (64 - a.length)
  la : a.length ≤ 64
  nd : (l.map (·.1)).Nodup
  fw : ∀ x ∈ l, ∃ r, nibs x.1.val = a ++ r ∧ T.get r = some x.2
  bw : ∀ r v, r.length = 64 - a.length → nib16 r → T.get r = some v → ∃ x ∈ l, nibs x.1.val = a ++ r
theorem look_nodup : ∀ {l : List It} {x : It}, (l.map (·.1)).Nodup → x ∈ l → lookI l x.1 = some x.2
  | y :: l, x, hn, hx => by
    obtain ⟨h1, h2⟩ := List.nodup_cons.1 (show (y.1 :: l.map (·.1)).Nodup from hn)
    unfold lookI
    rcases List.mem_cons.1 hx with rfl | hx
    · exact if_pos rfl
    · rw [if_neg (fun e => h1 (by rw [e]; exact List.mem_map.2 ⟨x, hx, rfl⟩))]
      exact look_nodup h2 hx
theorem Agree.atI {T : Tre} {l : List It} (h : Agree T l) (hw : T.wf 64) (hn : (l.map (·.1)).Nodup) : AtI [] T l := by
  refine ⟨hw, Nat.zero_le _, hn, fun x hx => ⟨nibs x.1.val, rfl, by rw [h x.1]; exact look_nodup hn hx⟩, fun r v hr h16 hg => ?_⟩
  have hr : r.length = 64 := hr
  obtain ⟨d, hd, rfl⟩ := nibs_surj 32 r (by omega) h16
  have h1 := h ⟨d, hd⟩
  rw [hg] at h1
  exact ⟨_, look_mem h1.symm, rfl⟩
theorem AtI.no {a : List UInt8} {l : List It} (h : AtI a .no l) : l = [] := by
  cases l with
  | nil => rfl
  | cons x l =>
    obtain ⟨r, _, h2⟩ := h.fw x (List.mem_cons_self ..)
    cases h2
theorem AtI.some_ {a : List UInt8} {T : Tre} {l : List It} (h : AtI a T l) (hT : T ≠ .no) : l ≠ [] := by
  obtain ⟨r, v, h1, h2, h3⟩ := T.has _ h.wf hT
  obtain ⟨x, hx, _⟩ := h.bw r v h1 h2 h3
  exact fun e => by rw [e] at hx; cases hx
theorem nd_one {l : List It} {x : It} (hn : (l.map (·.1)).Nodup) (hx : x ∈ l) (h : ∀ y ∈ l, y.1 = x.1) : l = [x] := by
  match l with
  | [] => cases hx
  | [y] => rw [List.mem_singleton.1 hx]
  | y :: z :: l =>
    obtain ⟨h1, _⟩ := List.nodup_cons.1 (show (y.1 :: z.1 :: l.map (·.1)).Nodup from hn)
    refine absurd ?_ h1
    rw [h y (List.mem_cons_self ..), h z (List.mem_cons_of_mem _ (List.mem_cons_self ..))]
    exact List.mem_cons_self ..
theorem AtI.leaf {a b v : List UInt8} {l : List It} (h : AtI a (.leaf b v) l) : ∃ x, l = [x] ∧ nibs x.1.val = a ++ b ∧ x.2 = v := by
  obtain ⟨x, hx, he⟩ := h.bw b v h.wf.1 h.wf.2 (if_pos rfl)
  have hall : ∀ y ∈ l, nibs y.1.val = a ++ b ∧ y.2 = v := fun y hy => by
    obtain ⟨r, h1, h2⟩ := h.fw y hy
    have h2 : (if b = r then some v else none) = some y.2 := h2
    by_cases e : b = r
    · rw [if_pos e] at h2; injection h2 with h2
      exact ⟨by rw [h1, e], h2.symm⟩
    · rw [if_neg e] at h2; cases h2
  exact ⟨x, nd_one h.nd hx fun y hy => Subtype.ext (nibs_inj (by rw [(hall y hy).1, he])), hall x hx⟩
theorem at_mid {a b r : List UInt8} {x : UInt8} : (a ++ (b ++ x :: r))[a.length + b.length]? = some x := by
  rw [← List.append_assoc, List.getElem?_append_right (by rw [List.length_append]; exact Nat.le_refl _), List.length_append, Nat.sub_self]; rfl
theorem at_ahead {a b r : List UInt8} {i : Nat} (hi : i < a.length + b.length) : (a ++ (b ++ r))[i]? = (a ++ b)[i]? := by
  rw [← List.append_assoc, List.getElem?_append_left (by rw [List.length_append]; exact hi)]
theorem AtI.mem {a b : List UInt8} {k : Nat → Tre} {l : List It} (h : AtI a (.branch b k) l) {x : It} (hx : x ∈ l) : ∃ y r, nibs x.1.val = a ++ (b ++ y :: r) ∧ (k y.toNat).get r = some x.2 := by
  obtain ⟨r, h1, h2⟩ := h.fw x hx
  obtain ⟨y, r', rfl, h3⟩ := Tre.get_some h2
  exact ⟨y, r', h1, h3⟩
theorem AtI.parts {a b : List UInt8} {k : Nat → Tre} {l : List It} (h : AtI a (.branch b k) l) : ∃ x ∈ l, ∃ y ∈ l, (nibs x.1.val)[a.length + b.length]? ≠ (nibs y.1.val)[a.length + b.length]? := by
  obtain ⟨x, y, r, s, v, u, hxy, h1, h2, h3, h4, h5, h6⟩ := Tre.two h.wf
  obtain ⟨p, hp, e1⟩ := h.bw _ _ h1 h3 h5
  obtain ⟨q, hq, e2⟩ := h.bw _ _ h2 h4 h6
  refine ⟨p, hp, q, hq, ?_⟩
  rw [e1, e2, at_mid, at_mid]
  exact fun e => hxy (Option.some.inj e)
theorem AtI.two {a b : List UInt8} {k : Nat → Tre} {l : List It} (h : AtI a (.branch b k) l) : 2 ≤ l.length := by
  obtain ⟨x, hx, y, hy, hne⟩ := h.parts
  match l with
  | [] => cases hx
  | [z] => rw [List.mem_singleton.1 hx, List.mem_singleton.1 hy] at hne; exact absurd rfl hne
  | _ :: _ :: l => show 2 ≤ l.length + 1 + 1; omega
theorem AtI.shared {a b : List UInt8} {k : Nat → Tre} {l : List It} (h : AtI a (.branch b k) l) {to : Nat} (hs : ShP l a.length to) : to = a.length + b.length := by
  obtain ⟨h1, h2, h3, h4⟩ := hs
  have hbl := h.wf.1
  have hla := h.la
  rcases Nat.lt_trichotomy to (a.length + b.length) with hlt | he | hgt
  · obtain ⟨x, hx, y, hy, hne⟩ := h4 (by omega)
    obtain ⟨p, r, e1, _⟩ := h.mem hx
    obtain ⟨q, s, e2, _⟩ := h.mem hy
    rw [e1, e2, at_ahead hlt, at_ahead hlt] at hne
    exact absurd rfl hne
  · exact he
  · obtain ⟨x, hx, y, hy, hne⟩ := h.parts
    exact absurd (h3 _ (by omega) hgt x hx y hy) hne
theorem AtI.kid {a b : List UInt8} {k : Nat → Tre} {l : List It} (h : AtI a (.branch b k) l) (n : UInt8) : AtI ((a ++ b) ++ [n]) (k n.toNat) (partI l (a.length + b.length) n) := by
  have hbl := h.wf.1
  have hla := h.la
  have hlen : ((a ++ b) ++ [n]).length = a.length + b.length + 1 := by rw [List.length_append, List.length_append]; rfl
  have he : 64 - ((a ++ b) ++ [n]).length = 64 - a.length - b.length - 1 := by omega
  refine ⟨by rw [he]; exact h.wf.2.2.1 _, by omega, List.Nodup.sublist (List.Sublist.map _ List.filter_sublist) h.nd, fun x hx => ?_, fun r v hr h16 hg => ?_⟩
  · unfold partI at hx
    obtain ⟨hx, hn⟩ := List.mem_filter.1 hx
    obtain ⟨y, r, e1, e2⟩ := h.mem hx
    have hn : (nibs x.1.val)[a.length + b.length]? = some n := by simpa using hn
    rw [e1, at_mid] at hn
    obtain rfl := Option.some.inj hn
    exact ⟨r, by rw [e1]; simp, e2⟩
  · have hn16 : n.toNat < 16 := Nat.lt_of_not_le fun hh => by rw [h.wf.2.2.2.1 _ hh] at hg; cases hg
    obtain ⟨x, hx, e⟩ := h.bw (b ++ n :: r) v (by rw [List.length_append, List.length_cons]; omega) (fun z hz => by
      rcases List.mem_append.1 hz with hz | hz
      · exact h.wf.2.1 z hz
      · rcases List.mem_cons.1 hz with rfl | hz
        · exact hn16
        · exact h16 z hz) (by rw [Tre.get_br]; exact hg)
    refine ⟨x, List.mem_filter.2 ⟨hx, ?_⟩, by rw [e]; simp⟩
    rw [e, at_mid]; simp
/-- The nibbles of a node's keys. -/
theorem AtI.beg {a : List UInt8} {T : Tre} {l : List It} (h : AtI a T l) {x : It} (hx : x ∈ l) : ((nibs x.1.val).drop a.length).take (begT T).length = begT T := by
  obtain ⟨r, h1, h2⟩ := h.fw x hx
  obtain ⟨t, ht⟩ := get_pre h2
  rw [h1, List.drop_left' rfl, ← ht, List.take_left' rfl]
theorem partI_len (l : List It) (at_ : Nat) (n : UInt8) : (partI l at_ n).length ≤ l.length := List.length_filter_le _ _
end Go.Proofs.YtpiidddccmohdaaDoor.B
/-! The document's tries: rest, Shared, part. -/
namespace Go.Proofs.YtpiidddccmohdaaDoor.B
open Go
set_option linter.unusedVariables false
set_option maxHeartbeats 2000000
set_option maxRecDepth 100000
attribute [local irreducible] W OpsW OpsQ retP
theorem nib_at (k : Dig) {i : Nat} (h : i < 64) : ∃ x, (nibs k.val)[i]? = some x := ⟨_, List.getElem?_eq_getElem (by rw [nibs_len, k.2]; omega)⟩
theorem rf8_rest (w : World) (key : Dig) (a to : Nat) (hat : a ≤ to) (hto : to ≤ 64) : Ret Tryd.prog 25 [.agg (dgR key).toArray, .int .i64 a, .int .i64 to].toArray w fun r w' => OwnB w' 5 r (((nibs key.val).drop a).take (to - a)) ∧ InB (fun z => w.heap.size ≤ z) r ∧ Keep All w w' := by
  refine enter (fn := Tryd.f25) (n := 23) Tryd.func25 rfl rfl (by simp) ?_
  refine W_seq ?_
  refine W_region ?_
  refine o_box rfl rfl rfl ?_; intro w1 b1 e1 hB1 hk1 hs1
  have hB1 : Blk w1 b1 (dgR key) 23 := hB1
  refine o_asc rfl ?_
  refine ops_nil ?_
  refine W_seq ?_
  refine W_region ?_
  refine o_bs0 rfl rfl rfl ?_; intro w2 b2 e2 hB2 hk2 hs2
  refine o_ast rfl ?_
  refine ops_nil ?_
  refine W_seq ?_
  refine W_seq ?_
  refine W_region ?_
  refine o_mvt rfl ?_
  refine o_ast rfl ?_
  refine ops_nil ?_
  refine W_block ?_
  refine W_loop [7, 8] [7, 8, 11, 12, 13, 14, 15, 16, 17, 18, 19, 20, 21] (fun vs w' => ∃ (k : Nat) (u : Value), vs = [u, .int .i64 (a + k : Nat)] ∧ a + k ≤ to ∧ OwnB w' 5 u (((nibs key.val).drop a).take k) ∧ InB (fun z => w1.heap.size ≤ z) u ∧ Keep All w1 w') (fun vs _ => match vs with | [_, .int _ y] => to - y.toNat | _ => 0) ⟨0, _, rfl, hat, Own.blk (n := 0) (sz := 1) hB2 rfl (Nat.zero_le _), fun z hz => by have : b2 = z := Option.some.inj hz; omega, hk2⟩ ?_
  rintro J3 vs w3 ⟨k, u, rfl, hk, hO, hin, hkw⟩ -
  refine W_seq ?_
  refine W_seq ?_
  refine W_region ?_
  refine o_mvt rfl ?_
  refine o_mvt rfl ?_
  refine op_run (r_lss rfl rfl) rfl ?_
  refine ops_nil ?_
  refine W_cond_p rfl (fun h4 => ?_) (fun h4 => ?_)
  · refine W_skip ?_
    refine W_seq ?_
    refine W_block ?_
    refine W_region ?_
    refine o_mvt rfl ?_
    have hkl : a + k < to := by omega
    obtain ⟨x, hx⟩ := nib_at key (show a + k < 64 by omega)
    have hinc := inc64' (a + k) (by omega)
    have hlen : (((nibs key.val).drop a).take k).length = k := by rw [List.length_take, List.length_drop, nibs_len, key.2]; omega
    refine op_run (r_loadA (dgR key) rfl rfl rfl (by first | rfl | (rw [binV_len]; rfl) | (rw [dgR_len]; rfl) | (rw [refR_len]; rfl) | (rw [secR_len]; rfl) | (rw [List.length_map, tagF_len]; rfl) | (rw [dgR_len]; rfl)) ((hkw.blk' hB1 trivial).all)) rfl ?_
    refine o_mvt rfl ?_
    refine op_call rfl rfl rfl (rf08_Nibble w3 key (a + k) x hx) ?_; rintro v6 w6 ⟨rfl, hk6⟩
    refine o_bs1 (v := c8 x) rfl rfl rfl rfl rfl rfl ?_; intro w7 b7 e7 hB7 hk7 hs7
    refine o_appS (v := u) rfl rfl (Own.blk (n := 1) (sz := 1) hB7 rfl (by unfold maxLen; omega)).sl rfl ti_u8 rfl rfl (hO.keep (hk6.trans hk7) (fun _ _ => trivial)) (by rfl) (by unfold maxLen; omega) (by omega) rfl ?_; intro v8 w8 hown8 hk8 hb8
    refine o_ast rfl ?_
    refine ops_nil ?_
    refine W_region ?_
    refine o_mvt rfl ?_
    refine op_run (r_add rfl rfl) rfl ?_
    refine o_ast rfl ?_
    refine ops_nil ?_
    have e : ((nibs key.val).drop a).take (k + 1) = ((nibs key.val).drop a).take k ++ [x] := by
      have hd : ((nibs key.val).drop a)[k]? = some x := by rw [List.getElem?_drop]; exact hx
      obtain ⟨h1, h2⟩ := List.getElem?_eq_some_iff.1 hd
      rw [List.take_succ_eq_append_getElem h1, h2]
    have hO8 : OwnB w8 5 v8 (((nibs key.val).drop a).take (k + 1)) := by rw [e]; exact OwnB.app (ys := [x]) hown8
    have hz := hkw.size
    have hz2 := (hk6.trans hk7).size
    refine ⟨by (repeat (first | with_reducible exact offM_refl _ _ | refine offM_updc rfl ?_ | refine offM_upd rfl ?_ | refine offM_updo rfl ?_ | refine offM_updo_none ?_ | refine offM_head rfl rfl ?_)), ⟨k + 1, v8, congrArg (fun z : Int => [v8, Value.int .i64 z]) hinc, by omega, hO8, fun z hz => ?_, (hkw.trans (hk6.trans hk7)).own hk8 (fun z hz _ => hin z hz)⟩, ?_⟩
    · rcases hb8 z hz with h | h
      · exact hin z h
      · omega
    · show to - (IntKind.i64.wrap (((a + k : Nat) : Int) + 1)).toNat < to - ((a + k : Nat) : Int).toNat
      rw [hinc]; omega
  · refine W_exit ?_
    refine W_seq ?_
    refine W_region ?_
    refine o_mvt rfl ?_
    refine o_ast rfl ?_
    refine ops_nil ?_
    refine W_ret ?_
    refine ret1 u rfl ?_ ?_; rfl
    have hke : k = to - a := by omega
    rw [← hke]
    exact ⟨hO, hin.mono fun z hz => Nat.le_trans hk1.size hz, hk1.trans hkw⟩
theorem rf8_Shared (w : World) (v : Value) (l : List It) (a : Nat) (ha : a ≤ 64) (hv : ItIn w v l) (h1 : l ≠ []) (hl : l.length ≤ 2 ^ 40) : Ret Tryd.prog 24 [v, .int .i64 a].toArray w fun r w' => (∃ to : Nat, r = .int .i64 to ∧ ShP l a to) ∧ Keep All w w' := by
  obtain ⟨a0, c0, rfl, hc0, hcm0⟩ := hv.form
  obtain ⟨y0, hy0⟩ : ∃ y, l[0]? = some y := by cases l with
    | nil => exact absurd rfl h1
    | cons x l => exact ⟨x, rfl⟩
  have hm0 := List.mem_of_getElem? hy0
  refine enter (fn := Tryd.f24) (n := 34) Tryd.func24 rfl rfl (by simp) ?_
  refine W_seq ?_
  refine W_region ?_
  refine o_asc rfl ?_
  refine ops_nil ?_
  refine W_seq ?_
  refine W_region ?_
  refine o_mvt rfl ?_
  refine o_ast rfl ?_
  refine ops_nil ?_
  refine W_seq ?_
  refine W_block ?_
  refine W_loop [5] [4, 5, 6, 8, 9, 10, 11, 12, 13, 14, 15, 16, 17, 18, 19, 20, 21, 22, 23, 24, 25, 26, 27, 28, 29, 30, 31, 32] (fun vs w' => ∃ t : Nat, vs = [.int .i64 t] ∧ a ≤ t ∧ t ≤ 64 ∧ (∀ i, a ≤ i → i < t → ∀ x ∈ l, ∀ y ∈ l, (nibs x.1.val)[i]? = (nibs y.1.val)[i]?) ∧ Keep All w w') (fun vs _ => match vs with | [.int _ y] => 64 - y.toNat | _ => 0) ⟨a, rfl, Nat.le_refl _, ha, fun i h2 h3 => by omega, Keep.refl _⟩ ?_
  rintro J1 vs w1 ⟨t, rfl, hat, ht, hsame, hkw⟩ -
  refine W_seq ?_
  refine W_seq ?_
  refine W_region ?_
  refine o_mvt rfl ?_
  refine op_run (r_lss rfl rfl) rfl ?_
  refine ops_nil ?_
  refine W_cond_p rfl (fun h2 => ?_) (fun h2 => ?_)
  · refine W_skip ?_
    refine W_block ?_
    refine W_seq ?_
    refine W_seq ?_
    refine W_region ?_
    refine o_asc rfl ?_
    refine ops_nil ?_
    refine W_block ?_
    have htl : t < 64 := by omega
    have hinct := inc64' t (by omega)
    obtain ⟨n0, hn0⟩ := nib_at y0.1 htl
    refine W_loop [6] [4, 6, 10, 11, 12, 13, 14, 15, 16, 17, 18, 19, 20, 21, 22, 23, 24, 25, 26, 27, 28, 29, 30] (fun vs w' => ∃ k : Nat, vs = [.int .i64 k] ∧ k ≤ l.length ∧ (∀ x ∈ l.take k, (nibs x.1.val)[t]? = some n0) ∧ Keep All w1 w') (fun vs _ => match vs with | [.int _ y] => l.length - y.toNat | _ => 0) ⟨0, rfl, Nat.zero_le _, (fun x hx => by cases hx), Keep.refl _⟩ ?_
    rintro J3 vs w3 ⟨k, rfl, hk, hs3, hk3⟩ -
    refine W_seq ?_
    refine W_seq ?_
    refine W_region ?_
    refine o_mvt rfl ?_
    refine o_mvt rfl ?_
    refine op_run (r_len rfl rfl rfl) rfl ?_
    refine op_run (r_lss rfl rfl) rfl ?_
    refine ops_nil ?_
    refine W_cond_p rfl (fun h4 => ?_) (fun h4 => ?_)
    · refine W_skip ?_
      refine W_seq ?_
      refine W_block ?_
      refine W_seq ?_
      have hkl : k < l.length := by omega
      obtain ⟨y, hy⟩ : ∃ y, l[k]? = some y := ⟨_, List.getElem?_eq_getElem hkl⟩
      have hv3 := (hv.k hkw).k hk3
      obtain ⟨b, off, c, vv, ev_, hby, hc⟩ := hv3.at hy
      obtain ⟨b', off', c', vv', ev2_, hby', hc'⟩ := hv3.at hy0
      cases ev_
      cases ev2_
      obtain ⟨n, hn⟩ := nib_at y.1 htl
      have hinc := inc64' k (by omega)
      refine W_quiet (Keep All w3) (by kernel_rfl) (by kernel_rfl) (Keep.drawn _) ?_
      refine q_mvt rfl ?_
      refine q_mvt rfl ?_
      refine q_run (fun _ _ => r_idxS rfl rfl rfl rfl (by omega) (by omega)) rfl ?_
      refine q_run (fun _ _ => (r_fieldAddr rfl rfl rfl rfl rfl)) rfl ?_
      refine q_run (fun _ hk => r_loadA (dgR y.1) rfl rfl rfl (by first | rfl | (rw [binV_len]; rfl) | (rw [dgR_len]; rfl) | (rw [refR_len]; rfl) | (rw [secR_len]; rfl) | (rw [List.length_map, tagF_len]; rfl) | (rw [dgR_len]; rfl)) ((fun j u hj => by rw [Int.toNat_natCast]; exact hk.cell (itR_dg hc j u hj) trivial))) rfl ?_
      refine q_mvt rfl ?_
      refine q_call rfl rfl rfl (fun _ hk => (rf08_Nibble _ y.1 t n hn).mono fun e w'' ⟨u, he, h1, h2⟩ => ⟨u, he, h1, hk.trans h2⟩) ?_
      refine q_mvt rfl ?_
      refine q_run (fun _ _ => r_idxS rfl rfl rfl rfl (by omega) (by omega)) rfl ?_
      refine q_run (fun _ _ => (r_fieldAddr rfl rfl rfl rfl rfl)) rfl ?_
      refine q_run (fun _ hk => r_loadA (dgR y0.1) rfl rfl rfl (by first | rfl | (rw [binV_len]; rfl) | (rw [dgR_len]; rfl) | (rw [refR_len]; rfl) | (rw [secR_len]; rfl) | (rw [List.length_map, tagF_len]; rfl) | (rw [dgR_len]; rfl)) ((fun j u hj => hk.cell (itR_dg hc' j u (by simpa using hj)) trivial))) rfl ?_
      refine q_mvt rfl ?_
      refine q_call rfl rfl rfl (fun _ hk => (rf08_Nibble _ y0.1 t n0 hn0).mono fun e w'' ⟨u, he, h1, h2⟩ => ⟨u, he, h1, hk.trans h2⟩) ?_
      refine q_run (fun _ _ => (r_neq rfl rfl)) rfl ?_
      refine q_nil ?_; intro w12 hk12
      refine W_cond_p rfl (fun h13 => ?_) (fun h13 => ?_)
      · refine W_seq ?_
        refine W_region ?_
        refine o_mvt rfl ?_
        refine o_ast rfl ?_
        refine ops_nil ?_
        refine W_ret ?_
        refine ret1 (.int .i64 t) rfl ?_ ?_; rfl
        have g : n ≠ n0 := fun e => by
          have := UInt8.toNat_inj.2 e
          simp at h13; omega
        exact ⟨⟨t, rfl, hat, ht, hsame, fun _ => ⟨y, List.mem_of_getElem? hy, y0, hm0, by rw [hn, hn0]; exact fun e => g (Option.some.inj e)⟩⟩, (hkw.trans hk3).trans hk12⟩
      · refine W_skip ?_
        refine W_region ?_
        refine o_mvt rfl ?_
        refine op_run (r_add rfl rfl) rfl ?_
        refine o_ast rfl ?_
        refine ops_nil ?_
        have g : n = n0 := UInt8.toNat_inj.1 (by simp at h13; omega)
        refine ⟨by (repeat (first | with_reducible exact offM_refl _ _ | refine offM_updc rfl ?_ | refine offM_upd rfl ?_ | refine offM_updo rfl ?_ | refine offM_updo_none ?_ | refine offM_head rfl rfl ?_)), ⟨k + 1, congrArg (fun z : Int => [Value.int .i64 z]) hinc, by omega, fun x hx => ?_, hk3.trans hk12⟩, ?_⟩
        · rw [List.take_succ_eq_append_getElem hkl, (List.getElem?_eq_some_iff.1 hy).2] at hx
          rcases List.mem_append.1 hx with h | h
          · exact hs3 x h
          · rw [List.mem_singleton.1 h, hn, g]
        · show l.length - (IntKind.i64.wrap ((k : Int) + 1)).toNat < l.length - (k : Int).toNat
          rw [hinc]; omega
    · refine W_exit ?_
      refine W_region ?_
      refine o_mvt rfl ?_
      refine op_run (r_add rfl rfl) rfl ?_
      refine o_ast rfl ?_
      refine ops_nil ?_
      have hke : k = l.length := by omega
      rw [hke, List.take_length] at hs3
      refine ⟨by (repeat (first | with_reducible exact offM_refl _ _ | refine offM_updc rfl ?_ | refine offM_upd rfl ?_ | refine offM_updo rfl ?_ | refine offM_updo_none ?_ | refine offM_head rfl rfl ?_)), ⟨t + 1, congrArg (fun z : Int => [Value.int .i64 z]) hinct, by omega, by omega, fun i h2 h3 x hx y hy => ?_, hkw.trans hk3⟩, ?_⟩
      · by_cases e : i = t
        · rw [e, hs3 x hx, hs3 y hy]
        · exact hsame i h2 (by omega) x hx y hy
      · show 64 - (IntKind.i64.wrap ((t : Int) + 1)).toNat < 64 - (t : Int).toNat
        rw [hinct]; omega
  · refine W_exit ?_
    refine W_seq ?_
    refine W_region ?_
    refine o_mvt rfl ?_
    refine o_ast rfl ?_
    refine ops_nil ?_
    refine W_ret ?_
    refine ret1 (.int .i64 t) rfl ?_ ?_; rfl
    exact ⟨⟨t, rfl, hat, ht, hsame, fun h => by omega⟩, hkw⟩
theorem partI_s {l : List It} {k : Nat} {y : It} (hy : l[k]? = some y) (at_ : Nat) (n : UInt8) : partI (l.take (k + 1)) at_ n = partI (l.take k) at_ n ++ if (nibs y.1.val)[at_]? = some n then [y] else [] := by
  obtain ⟨h1, h2⟩ := List.getElem?_eq_some_iff.1 hy
  rw [List.take_succ_eq_append_getElem h1, h2]
  unfold partI
  rw [List.filter_append, List.filter_cons]
  by_cases e : (nibs y.1.val)[at_]? = some n
  · rw [if_pos e, if_pos (by simpa using e)]; rfl
  · rw [if_neg e, if_neg (by simpa using e)]; rfl
/-- Items that are put together of items that are old. -/
def OutP (w0 w w' : World) (u : Value) (l : List It) : Prop := ∃ its, Own w' 45 33 u l.length (rows itR its) ∧ Prs w0 its l ∧ InB (fun z => w.heap.size ≤ z) u ∧ Keep All w w'
theorem OutP.k {w0 w w1 w' : World} {u : Value} {l : List It} (h : OutP w0 w w1 u l) (hk : Keep All w1 w') : OutP w0 w w' u l := by
  obtain ⟨its, h1, h2, h3, h4⟩ := h; exact ⟨its, h1.keep hk (fun _ _ => trivial), h2, h3, h4.trans hk⟩
theorem OutP.app {w00 w0 w w1 w2 : World} {u u' : Value} {l : List It} {its : List Iv} {k : Dig} {vv : Value} {b : List UInt8} (hP : Prs w00 its l) (hI : InB (fun z => w0.heap.size ≤ z) u) (hk0 : Keep All w0 w) (hb : By w00 vv b) (hk : Keep All w w1)
    (hO : Own w2 45 33 u' (l.length + 1) (rows itR its ++ itR (k, vv))) (hk2 : Keep (fun z => some z ≠ u.ownBlock) w1 w2) (hu : InB (fun z => u.ownBlock = some z ∨ w1.heap.size ≤ z) u') : OutP w00 w0 w2 u' (l ++ [(k, b)]) := by
  have hkw : Keep All w0 w2 := (hk0.trans hk).own hk2 (fun z hz _ => hI z hz)
  refine ⟨its ++ [(k, vv)], ?_, Prs.snoc hb hP, fun z hz => ?_, hkw⟩
  · rw [rows_app, List.length_append]
    have e : rows itR [(k, vv)] = itR (k, vv) := List.append_nil _
    rw [e]; exact hO
  · rcases hu z hz with h | h
    · exact hI z h
    · have := (hk0.trans hk).size; omega
theorem rf8_partP (w0 w : World) (v : Value) (its0 : List Iv) (l : List It) (at_ : Nat) (n : UInt8) (ha : at_ < 64) (hits1 : Sl w v l.length 33 (rows itR its0)) (hits2 : Prs w0 its0 l) (hk0 : Keep All w0 w) (hl : l.length ≤ 2 ^ 20) : Ret Tryd.prog 26 [v, .int .i64 at_, c8 n].toArray w fun r w' => OutP w0 w w' r (partI l at_ n) := by
  obtain ⟨a0, c0, rfl, hc0, hcm0⟩ := hits1.form
  refine enter (fn := Tryd.f26) (n := 33) Tryd.func26 rfl rfl (by simp) ?_
  refine W_seq ?_
  refine W_region ?_
  refine o_asc rfl ?_
  refine ops_nil ?_
  refine W_seq ?_
  refine W_region ?_
  refine o_bs0 rfl rfl rfl ?_; intro w1 b1 e1 hB1 hk1 hs1
  refine o_ast rfl ?_
  refine ops_nil ?_
  refine W_seq ?_
  refine W_seq ?_
  refine W_region ?_
  refine o_asc rfl ?_
  refine ops_nil ?_
  refine W_block ?_
  refine W_loop [7, 8] [7, 8, 10, 11, 12, 13, 14, 15, 16, 17, 18, 19, 20, 21, 22, 23, 24, 25, 26, 27, 28, 29, 30, 31] (fun vs w' => ∃ (k : Nat) (u : Value), vs = [u, .int .i64 k] ∧ k ≤ l.length ∧ OutP w0 w w' u (partI (l.take k) at_ n)) (fun vs _ => match vs with | [_, .int _ y] => l.length - y.toNat | _ => 0) ⟨0, .slice (some ⟨b1, 0, none⟩) 0 0, rfl, Nat.zero_le _, ⟨[], Own.blk (n := 0) (sz := 33) hB1 rfl (Nat.zero_le _), trivial, (fun z hz => by have : b1 = z := Option.some.inj hz; omega), hk1⟩⟩ ?_
  rintro J2 vs w2 ⟨k, u, rfl, hk, hO⟩ -
  refine W_seq ?_
  refine W_seq ?_
  refine W_region ?_
  refine o_mvt rfl ?_
  refine o_mvt rfl ?_
  refine op_run (r_len rfl rfl rfl) rfl ?_
  refine op_run (r_lss rfl rfl) rfl ?_
  refine ops_nil ?_
  refine W_cond_p rfl (fun h3 => ?_) (fun h3 => ?_)
  · refine W_skip ?_
    refine W_seq ?_
    refine W_block ?_
    refine W_seq ?_
    refine W_region ?_
    refine o_mvt rfl ?_
    refine o_mvt rfl ?_
    have hkl : k < l.length := by omega
    obtain ⟨y, hy⟩ : ∃ y, l[k]? = some y := ⟨_, List.getElem?_eq_getElem hkl⟩
    obtain ⟨vv, hvx, hvb⟩ := hits2.get hy
    have hkw3 := hO
    obtain ⟨its, hO1, hO2, hO3, hO4⟩ := hO
    have hlen : (partI (l.take k) at_ n).length ≤ k := by have := partI_len (l.take k) at_ n; rw [List.length_take] at this; omega
    have htk := partI_s hy at_ n
    have hl0 := hits2.len
    obtain ⟨hkl0, hxe⟩ := List.getElem?_eq_some_iff.1 hvx
    rw [← hl0] at hits1
    obtain ⟨b, off, ea_, hc⟩ := rows_at' itR_len hits1 hkl0 (by decide)
    rw [hxe] at hc
    subst ea_
    have hinc := inc64' k (by omega)
    obtain ⟨m, hm⟩ := nib_at y.1 ha
    refine op_run (r_idxS rfl rfl rfl rfl (by omega) (by omega)) rfl ?_
    refine op_run (r_fieldAddr rfl rfl rfl rfl rfl) rfl ?_
    refine op_run (r_loadA (dgR y.1) rfl rfl rfl (by first | rfl | (rw [binV_len]; rfl) | (rw [dgR_len]; rfl) | (rw [refR_len]; rfl) | (rw [secR_len]; rfl) | (rw [List.length_map, tagF_len]; rfl) | (rw [dgR_len]; rfl) | (rw [itR_len]; rfl)) ((fun j u hj => by rw [Int.toNat_natCast]; exact hO4.cell (itR_dg hc j u hj) trivial))) rfl ?_
    refine o_mvt rfl ?_
    refine op_call rfl rfl rfl (rf08_Nibble _ y.1 at_ m hm) ?_; rintro v6 w6 ⟨rfl, hk6⟩
    refine o_mvt rfl ?_
    refine op_run (r_eql rfl rfl) rfl ?_
    refine ops_nil ?_
    refine W_cond_p rfl (fun h7 => ?_) (fun h7 => ?_)
    · refine W_region ?_
      refine o_mvt rfl ?_
      refine o_mvt rfl ?_
      refine o_mvt rfl ?_
      refine op_run (r_idxS rfl rfl rfl rfl (by omega) (by omega)) rfl ?_
      refine op_run (r_loadA (itR (y.1, vv)) rfl rfl rfl (by first | rfl | (rw [binV_len]; rfl) | (rw [dgR_len]; rfl) | (rw [refR_len]; rfl) | (rw [secR_len]; rfl) | (rw [List.length_map, tagF_len]; rfl) | (rw [dgR_len]; rfl) | (rw [itR_len]; rfl)) ((fun j u hj => by rw [Int.toNat_natCast]; exact (hO4.trans hk6).cell (hc j u hj) trivial))) rfl ?_
      refine o_bsA1 (itR (y.1, vv)) rfl rfl (by rw [itR_len]; exact ti_it) (by rw [itR_len]; rfl) (by rw [itR_len]; decide) rfl ?_; intro w10 b10 e10 hB10 hk10 hs10
      refine o_app (v := u) (c := 1) (m := (partI (l.take k) at_ n).length) (itR (y.1, vv)) rfl rfl rfl ti_it rfl (by decide) (hO1.keep (hk6.trans hk10) (fun _ _ => trivial)) (by rw [itR_len]) hB10.all (itR_one (Sl.oneI hvb)) (by unfold maxLen; omega) (by omega) rfl ?_; intro v11 w11 hown11 hk11 hb11
      refine o_ast rfl ?_
      refine ops_nil ?_
      refine W_region ?_
      refine o_mvt rfl ?_
      refine op_run (r_add rfl rfl) rfl ?_
      refine o_ast rfl ?_
      refine ops_nil ?_
      have g : m = n := UInt8.toNat_inj.1 (by omega)
      rw [if_pos (by rw [hm, g])] at htk
      refine ⟨by (repeat (first | with_reducible exact offM_refl _ _ | refine offM_updc rfl ?_ | refine offM_upd rfl ?_ | refine offM_updo rfl ?_ | refine offM_updo_none ?_ | refine offM_head rfl rfl ?_)), ⟨k + 1, v11, congrArg (fun z : Int => [v11, Value.int .i64 z]) hinc, by omega, ?_⟩, ?_⟩
      · rw [htk]; exact OutP.app (k := y.1) (b := y.2) hO2 hO3 hO4 hvb (hk6.trans hk10) hown11 hk11 hb11
      · show l.length - (IntKind.i64.wrap ((k : Int) + 1)).toNat < l.length - (k : Int).toNat
        rw [hinc]; omega
    · refine W_skip ?_
      refine W_region ?_
      refine o_mvt rfl ?_
      refine op_run (r_add rfl rfl) rfl ?_
      refine o_ast rfl ?_
      refine ops_nil ?_
      have g : m ≠ n := fun e => by
        have := UInt8.toNat_inj.2 e
        omega
      rw [if_neg (by rw [hm]; exact fun e => g (Option.some.inj e)), List.append_nil] at htk
      refine ⟨by (repeat (first | with_reducible exact offM_refl _ _ | refine offM_updc rfl ?_ | refine offM_upd rfl ?_ | refine offM_updo rfl ?_ | refine offM_updo_none ?_ | refine offM_head rfl rfl ?_)), ⟨k + 1, u, congrArg (fun z : Int => [u, Value.int .i64 z]) hinc, by omega, by rw [htk]; exact hkw3.k hk6⟩, ?_⟩
      show l.length - (IntKind.i64.wrap ((k : Int) + 1)).toNat < l.length - (k : Int).toNat
      rw [hinc]; omega
  · refine W_exit ?_
    refine W_seq ?_
    refine W_region ?_
    refine o_mvt rfl ?_
    refine o_ast rfl ?_
    refine ops_nil ?_
    refine W_ret ?_
    refine ret1 u rfl ?_ ?_; rfl
    have hke : k = l.length := by omega
    rw [hke, List.take_length] at hO
    exact hO
theorem rf8_part (w : World) (v : Value) (l : List It) (at_ : Nat) (n : UInt8) (ha : at_ < 64) (hv : ItIn w v l) (hl : l.length ≤ 2 ^ 20) : Ret Tryd.prog 26 [v, .int .i64 at_, c8 n].toArray w fun r w' => Out w w' r (partI l at_ n) := by
  obtain ⟨its0, h1, h2⟩ := hv
  exact rf8_partP w w v its0 l at_ n ha h1 h2 (Keep.refl _) hl
end Go.Proofs.YtpiidddccmohdaaDoor.B
/-! The document's tries: a node's bytes. -/
namespace Go.Proofs.YtpiidddccmohdaaDoor.B
open Go
set_option linter.unusedVariables false
set_option maxHeartbeats 2000000
set_option maxRecDepth 100000
attribute [local irreducible] W OpsW OpsQ retP
def NodeOk (T : Tre) : Prop := ∀ (a : List UInt8) (l : List It) (w : World) (v : Value), AtI a T l → T.short → ItIn w v l → l.length ≤ 2 ^ 20 → Ret Tryd.prog 23 [v, .int .i64 a.length].toArray w fun r w' => OwnB w' 5 r (nodeB T) ∧ InB (fun z => w.heap.size ≤ z) r ∧ Keep All w w'
theorem itR_v32 {d : Dig} {vv : Value} : (itR (d, vv))[32]? = some vv := by
  unfold itR; rw [List.getElem?_append_right (by rw [dgR_len]; exact Nat.le_refl _), dgR_len]; rfl
theorem encN_0 : encN 0 = [0] := by unfold encN; rfl
theorem encN_1 : encN 1 = [1] := by unfold encN; rfl
theorem rf8_Node1 (T : Tre) (hT : T ≠ .no) (ih : ∀ b k, T = .branch b k → ∀ i, k i ≠ .no → NodeOk (k i)) : NodeOk T := by
  intro a l w v hA hs hv hl
  obtain ⟨a0, c0, rfl, hc0, hcm0⟩ := hv.form
  have hne := hA.some_ hT
  obtain ⟨y0, hy0⟩ : ∃ y, l[0]? = some y := by cases l with
    | nil => exact absurd rfl hne
    | cons x l => exact ⟨x, rfl⟩
  have hm0 := List.mem_of_getElem? hy0
  have hpos := List.length_pos_iff.2 hne
  have hla := hA.la
  have hbeg := hA.beg hm0
  obtain ⟨b, off, c, vv, ev_, hby, hc⟩ := hv.at hy0
  cases ev_
  obtain ⟨av, cv, rfl, _, _⟩ := hby.form
  refine enter (fn := Tryd.f23) (n := 72) Tryd.func23 rfl rfl (by simp) ?_
  refine W_seq ?_
  refine W_region ?_
  refine o_asc rfl ?_
  refine ops_nil ?_
  refine W_seq ?_
  refine W_seq ?_
  refine W_region ?_
  refine o_mvt rfl ?_
  refine op_run (r_len rfl rfl rfl) rfl ?_
  refine op_run (r_eql rfl rfl) rfl ?_
  refine ops_nil ?_
  refine W_cond_p rfl (fun h1 => ?_) (fun h1 => ?_)
  · refine W_seq ?_
    obtain ⟨beg, val, rfl⟩ : ∃ beg val, T = .leaf beg val := by
      cases T with
      | no => exact absurd rfl hT
      | leaf b v => exact ⟨_, _, rfl⟩
      | branch b k => have := hA.two; omega
    obtain ⟨x, rfl, _, hx2⟩ := hA.leaf
    have ex : x = y0 := by simpa using hy0
    subst ex
    subst hx2
    have hs1 := hs.1
    have hs2 := hs.2
    have hn10 := encN_len10 (v := 0) (by decide)
    have hb10 := encB_len beg (by omega)
    have hbl : beg.length = 64 - a.length := hA.wf.1
    have hbeg : ((nibs x.1.val).drop a.length).take (64 - a.length) = beg := by rw [← hbl]; exact hbeg
    refine W_held (fun w' => Keep All w w') (by kernel_rfl) (Keep.drawn w) (fun hS => ?_)
    refine any_mvt 1 rfl (by kernel_rfl) (by kernel_rfl) (by kernel_rfl) rfl hS ?_
    refine any_run 2 (fun w' hS' => (r_idxS rfl rfl rfl rfl (by omega) (by simp))) rfl (by kernel_rfl) (by kernel_rfl) (by kernel_rfl) rfl hS ?_
    refine any_run 3 (fun w' hS' => (r_fieldAddr rfl rfl rfl rfl rfl)) rfl (by kernel_rfl) (by kernel_rfl) (by kernel_rfl) rfl hS ?_
    refine any_run 4 (fun w' hS' => (r_loadA (dgR x.1) rfl rfl rfl (by first | rfl | (rw [binV_len]; rfl) | (rw [dgR_len]; rfl) | (rw [refR_len]; rfl) | (rw [secR_len]; rfl) | (rw [List.length_map, tagF_len]; rfl) | (rw [dgR_len]; rfl)) ((fun j u hj => hS'.cell (itR_dg hc j u (by simpa using hj)) trivial)))) rfl (by kernel_rfl) (by kernel_rfl) (by kernel_rfl) rfl hS ?_
    refine any_mvt 5 rfl (by kernel_rfl) (by kernel_rfl) (by kernel_rfl) rfl hS ?_
    refine any_mvt 8 rfl (by kernel_rfl) (by kernel_rfl) (by kernel_rfl) rfl hS ?_
    refine any_run 9 (fun w' hS' => (r_idxS rfl rfl rfl rfl (by omega) (by simp))) rfl (by kernel_rfl) (by kernel_rfl) (by kernel_rfl) rfl hS ?_
    refine any_run 10 (fun w' hS' => (r_fieldAddr rfl rfl rfl rfl rfl)) rfl (by kernel_rfl) (by kernel_rfl) (by kernel_rfl) rfl hS ?_
    refine any_run 11 (fun w' hS' => (r_load rfl rfl rfl ((hS'.cell (hc 32 _ itR_v32) trivial)))) rfl (by kernel_rfl) (by kernel_rfl) (by kernel_rfl) rfl hS ?_
    refine any_two 0 6 (by kernel_rfl) (one_of rfl ?_) (one_of rfl ?_)
    · refine o_bs1 (v := c8 0) rfl rfl rfl rfl rfl rfl ?_; intro w7 b7 e7 hB7 hk7 hs7
      have hz7 := hS.size
      have hO7 : OwnB w7 5 (.slice (some ⟨b7, 0, none⟩) 1 1) (encN 0) := by rw [encN_0]; exact Own.blk hB7 rfl (by unfold maxLen; omega)
      refine ops_nil ⟨hS.trans hk7, fun hS => ?_⟩
      refine any_one 6 (by kernel_rfl) (one_of rfl ?_)
      refine op_call rfl rfl rfl (rf8_rest w7 x.1 a.length 64 hla (Nat.le_refl _)) ?_; rintro v9 w9 ⟨hO9, hin9, hk9⟩
      rw [hbeg] at hO9
      refine ops_nil ⟨hS.trans hk9, fun hS => ?_⟩
      refine any_one 7 (by kernel_rfl) (one_of rfl ?_)
      refine op_call rfl rfl rfl (ref01_Bytes w9 (.slice (some ⟨b7, 0, none⟩) 1 1) v9 (encN 0) beg (hO7.keep hk9 (fun _ _ => trivial)) (fun w' hk => OwnB.by_ (hO9.keep hk (fun z hz e => by have h := hin9 z hz; have e : some z = some b7 := e; injection e with e; omega))) (by omega)) ?_; rintro v11 w11 ⟨hO11, hk11, hin11⟩
      have hkw11 : Keep All w w11 := hS.own hk11 (fun z hz _ => by have hz : some b7 = some z := hz; injection hz with hz; omega)
      have hi11 : InB (fun z => w.heap.size ≤ z) v11 := hin11.mono fun z hz => by
        rcases hz with h | h
        · have h : some b7 = some z := h
          injection h with h; omega
        · have := hS.size; omega
      refine ops_nil ⟨hkw11, fun hS => ?_⟩
      refine any_one 12 (by kernel_rfl) (one_of rfl ?_)
      refine op_call rfl rfl rfl (ref01_Bytes w11 v11 (.slice av x.2.length cv) (encN 0 ++ encB beg) x.2 hO11 (fun w' hk => hby.keepN (hkw11.own hk (fun z hz _ => hi11 z hz)) (fun _ _ _ => trivial)) (by rw [List.length_append]; omega)) ?_; rintro v13 w13 ⟨hO13, hk13, hin13⟩
      have hi13 : InB (fun z => w.heap.size ≤ z) v13 := hin13.mono fun z hz => by
        rcases hz with h | h
        · exact hi11 z h
        · have := hkw11.size; omega
      refine ops_nil ⟨hkw11.own hk13 (fun z hz _ => hi11 z hz), fun hS => ?_⟩
      refine any_ast 13 rfl (by kernel_rfl) (by kernel_rfl) (by kernel_rfl) rfl hS ?_
      refine any_done (by kernel_rfl) ?_
      refine W_ret ?_
      refine ret1 v13 rfl ?_ ?_; rfl
      exact ⟨hO13, hi13, hS⟩
    · refine op_call rfl rfl rfl (rf8_rest _ x.1 a.length 64 hla (Nat.le_refl _)) ?_; rintro v16 w16 ⟨hO16, hin16, hk16⟩
      rw [hbeg] at hO16
      refine ops_nil ⟨hS.trans hk16, fun hS => ?_⟩
      refine any_one 0 (by kernel_rfl) (one_of rfl ?_)
      refine o_bs1 (v := c8 0) rfl rfl rfl rfl rfl rfl ?_; intro w18 b18 e18 hB18 hk18 hs18
      have hz18 := hS.size
      have hO18 : OwnB w18 5 (.slice (some ⟨b18, 0, none⟩) 1 1) (encN 0) := by rw [encN_0]; exact Own.blk hB18 rfl (by unfold maxLen; omega)
      refine ops_nil ⟨hS.trans hk18, fun hS => ?_⟩
      refine any_one 7 (by kernel_rfl) (one_of rfl ?_)
      refine op_call rfl rfl rfl (ref01_Bytes w18 (.slice (some ⟨b18, 0, none⟩) 1 1) v16 (encN 0) beg hO18 (fun w' hk => OwnB.by_ ((hO16.keep hk18 (fun _ _ => trivial)).keep hk (fun z hz e => by have h := hO16.lt z hz; have e : some z = some b18 := e; injection e with e; omega))) (by omega)) ?_; rintro v20 w20 ⟨hO20, hk20, hin20⟩
      have hkw20 : Keep All w w20 := hS.own hk20 (fun z hz _ => by have hz : some b18 = some z := hz; injection hz with hz; omega)
      have hi20 : InB (fun z => w.heap.size ≤ z) v20 := hin20.mono fun z hz => by
        rcases hz with h | h
        · have h : some b18 = some z := h
          injection h with h; omega
        · have := hS.size; omega
      refine ops_nil ⟨hkw20, fun hS => ?_⟩
      refine any_one 12 (by kernel_rfl) (one_of rfl ?_)
      refine op_call rfl rfl rfl (ref01_Bytes w20 v20 (.slice av x.2.length cv) (encN 0 ++ encB beg) x.2 hO20 (fun w' hk => hby.keepN (hkw20.own hk (fun z hz _ => hi20 z hz)) (fun _ _ _ => trivial)) (by rw [List.length_append]; omega)) ?_; rintro v22 w22 ⟨hO22, hk22, hin22⟩
      have hi22 : InB (fun z => w.heap.size ≤ z) v22 := hin22.mono fun z hz => by
        rcases hz with h | h
        · exact hi20 z h
        · have := hkw20.size; omega
      refine ops_nil ⟨hkw20.own hk22 (fun z hz _ => hi20 z hz), fun hS => ?_⟩
      refine any_ast 13 rfl (by kernel_rfl) (by kernel_rfl) (by kernel_rfl) rfl hS ?_
      refine any_done (by kernel_rfl) ?_
      refine W_ret ?_
      refine ret1 v22 rfl ?_ ?_; rfl
      exact ⟨hO22, hi22, hS⟩
  · refine W_skip ?_
    refine W_seq ?_
    refine W_region ?_
    obtain ⟨beg, kids, rfl⟩ : ∃ beg kids, T = .branch beg kids := by
      cases T with
      | no => exact absurd rfl hT
      | leaf b v => obtain ⟨x, rfl, _⟩ := hA.leaf; exact absurd rfl h1
      | branch b k => exact ⟨_, _, rfl⟩
    have hs1 := hs.1
    have hbl := hA.wf.1
    have hn10 := encN_len10 (v := 1) (by decide)
    have hb10 := encB_len beg (by omega)
    refine o_mvt rfl ?_
    refine o_mvt rfl ?_
    refine op_call rfl rfl rfl (rf8_Shared w _ l a.length hla hv hne (by omega)) ?_; rintro v25 w25 ⟨⟨to, rfl, hto⟩, hk25⟩
    obtain rfl := hA.shared hto
    have hbeg : ((nibs y0.1.val).drop a.length).take (a.length + beg.length - a.length) = beg := by rw [Nat.add_sub_cancel_left]; exact hbeg
    refine o_ast rfl ?_
    refine ops_nil ?_
    refine W_seq ?_
    refine W_region ?_
    refine o_bs1 (v := c8 1) rfl rfl rfl rfl rfl rfl ?_; intro w26 b26 e26 hB26 hk26 hs26
    have hO26 : OwnB w26 5 (.slice (some ⟨b26, 0, none⟩) 1 1) (encN 1) := by rw [encN_1]; exact Own.blk hB26 rfl (by unfold maxLen; omega)
    refine o_mvt rfl ?_
    refine op_run (r_idxS rfl rfl rfl rfl (by omega) (by omega)) rfl ?_
    refine op_run (r_fieldAddr rfl rfl rfl rfl rfl) rfl ?_
    refine op_run (r_loadA (dgR y0.1) rfl rfl rfl (by first | rfl | (rw [binV_len]; rfl) | (rw [dgR_len]; rfl) | (rw [refR_len]; rfl) | (rw [secR_len]; rfl) | (rw [List.length_map, tagF_len]; rfl) | (rw [dgR_len]; rfl)) ((fun j u hj => (hk25.trans hk26).cell (itR_dg hc j u (by simpa using hj)) trivial))) rfl ?_
    refine o_mvt rfl ?_
    refine o_mvt rfl ?_
    refine op_call rfl rfl rfl (rf8_rest w26 y0.1 a.length (a.length + beg.length) (by omega) (by omega)) ?_; rintro v29 w29 ⟨hO29, hin29, hk29⟩
    rw [hbeg] at hO29
    refine op_call rfl rfl rfl (ref01_Bytes w29 (.slice (some ⟨b26, 0, none⟩) 1 1) v29 (encN 1) beg (hO26.keep hk29 (fun _ _ => trivial)) (fun w' hk => OwnB.by_ (hO29.keep hk (fun z hz e => by have h := hin29 z hz; have e : some z = some b26 := e; injection e with e; omega))) (by omega)) ?_; rintro v30 w30 ⟨hO30, hk30, hin30⟩
    have hz25 := hk25.size
    have hkw30 : Keep All w w30 := ((hk25.trans hk26).trans hk29).own hk30 (fun z hz _ => by have hz : some b26 = some z := hz; injection hz with hz; omega)
    have hi30 : InB (fun z => w.heap.size ≤ z) v30 := hin30.mono fun z hz => by
      rcases hz with h | h
      · have h : some b26 = some z := h
        injection h with h; omega
      · have := ((hk25.trans hk26).trans hk29).size; omega
    have hlt30 : ∀ z, v30.ownBlock = some z → z < w30.heap.size := fun z hz => hO30.lt z hz
    refine o_ast rfl ?_
    refine ops_nil ?_
    refine W_seq ?_
    refine W_region ?_
    refine o_asc rfl ?_
    refine ops_nil ?_
    refine W_seq ?_
    refine W_region ?_
    refine o_bs0 rfl rfl rfl ?_; intro w31 b31 e31 hB31 hk31 hs31
    refine o_ast rfl ?_
    refine ops_nil ?_
    refine W_seq ?_
    refine W_region ?_
    refine o_asc rfl ?_
    refine ops_nil ?_
    refine W_seq ?_
    refine W_seq ?_
    refine W_region ?_
    refine o_asc rfl ?_
    refine ops_nil ?_
    refine W_block ?_
    refine W_loop [7, 8, 9, 10] [7, 8, 9, 10, 11, 12, 42, 43, 44, 45, 46, 47, 48, 49, 50, 51, 52, 53, 54, 55, 56, 57, 58, 59, 60, 61, 62, 63, 64, 65, 66] (fun vs w' => ∃ (k : Nat) (u : Value), vs = [.int .u64 (maskTo kids k : Nat), u, .int .u64 (2 ^ k : Nat), .int .u8 (k : Nat)] ∧ k ≤ 16 ∧ OwnB w' 5 u (digsTo kids k) ∧ InB (fun z => w30.heap.size ≤ z) u ∧ Keep All w30 w') (fun vs _ => match vs with | [_, _, _, .int _ y] => 16 - y.toNat | _ => 0) ⟨0, .slice (some ⟨b31, 0, none⟩) 0 0, rfl, Nat.zero_le _, Own.blk (n := 0) (sz := 1) hB31 rfl (Nat.zero_le _), fun z hz => by have : b31 = z := Option.some.inj hz; omega, hk31⟩ ?_
    rintro J32 vs w32 ⟨k, u, rfl, hk, hO, hin, hkw⟩ -
    refine W_seq ?_
    refine W_seq ?_
    refine W_region ?_
    refine o_mvt rfl ?_
    refine op_run (r_lss rfl rfl) rfl ?_
    refine ops_nil ?_
    refine W_cond_p rfl (fun h33 => ?_) (fun h33 => ?_)
    · refine W_skip ?_
      refine W_seq ?_
      refine W_block ?_
      refine W_seq ?_
      refine W_region ?_
      refine o_mvt rfl ?_
      refine o_mvt rfl ?_
      refine o_mvt rfl ?_
      have hk16 : k < 16 := by omega
      have hu8 := u8_of hk16
      have hc8 : c8 k.toUInt8 = .int .u8 (k : Nat) := by show Value.int .u8 ((k.toUInt8.toNat : Nat) : Int) = _; rw [hu8]
      have hinc : IntKind.u8.wrap (((k : Nat) : Int) + 1) = ((k + 1 : Nat) : Int) := (show IntKind.u8.wrap (((k : Nat) : Int) + 1) = (((k : Nat) : Int) + 1) % 256 from rfl).trans (by omega)
      have hbit : IntKind.u64.wrap (2 * ((2 ^ k : Nat) : Int)) = ((2 ^ (k + 1) : Nat) : Int) := by
        have h2 : 2 ^ k < 2 ^ 16 := Nat.pow_lt_pow_right (by decide) hk16
        rw [wrap_u64, Nat.pow_succ]
        generalize 2 ^ k = m at h2 ⊢
        omega
      have hmask : IntKind.u64.wrap (((maskTo kids k : Nat) : Int) + ((2 ^ k : Nat) : Int)) = ((maskTo kids k + 2 ^ k : Nat) : Int) := by
        have h1 := maskTo_lt kids k
        have h2 : 2 ^ k < 2 ^ 16 := Nat.pow_lt_pow_right (by decide) hk16
        rw [wrap_u64]; omega
      have hdl := digsTo_len kids k
      have hpart := rf8_part w32 (.slice (some ⟨b, off, none⟩) l.length c0) l (a.length + beg.length) k.toUInt8 (by omega) ((hv.k hkw30).k hkw) hl
      rw [hc8] at hpart
      have hkid := hA.kid k.toUInt8
      rw [hu8] at hkid
      have hkl : ((a ++ beg) ++ [k.toUInt8]).length = a.length + beg.length + 1 := by rw [List.length_append, List.length_append]; rfl
      have hPl := partI_len l (a.length + beg.length) k.toUInt8
      refine op_call rfl rfl rfl hpart ?_; rintro v34 w34 hO34
      obtain ⟨a34, c34, rfl, _, _⟩ := hO34.it.form
      refine o_ast rfl ?_
      refine ops_nil ?_
      refine W_seq ?_
      refine W_seq ?_
      refine W_region ?_
      refine o_mvt rfl ?_
      refine op_run (r_len rfl rfl rfl) rfl ?_
      refine op_run (r_gtr rfl rfl) rfl ?_
      refine ops_nil ?_
      refine W_cond_p rfl (fun h35 => ?_) (fun h35 => ?_)
      · refine W_seq ?_
        refine W_region ?_
        refine o_mvt rfl ?_
        refine o_mvt rfl ?_
        refine op_run (r_add rfl rfl) rfl ?_
        refine o_ast rfl ?_
        refine ops_nil ?_
        refine W_seq ?_
        refine W_region ?_
        have hnn : kids k ≠ .no := fun e => by
          rw [e] at hkid
          rw [hkid.no] at h35
          simp at h35
        have hnode := ih _ _ rfl k hnn _ _ w34 _ hkid (hs.2 k) hO34.it (by omega)
        rw [hkl] at hnode
        refine o_mvt rfl ?_
        refine o_mvt rfl ?_
        refine op_run ((r_add rfl rfl).val (congrArg (Value.int .i64) (inc64' (a.length + beg.length) (by omega)))) rfl ?_
        refine op_call rfl rfl rfl (hnode) ?_; rintro v36 w36 ⟨hO36, hin36, hk36⟩
        obtain ⟨a36, c36, rfl, _, _⟩ := (OwnB.by_ hO36).form
        refine o_bs1 (v := (.slice a36 (nodeB (kids k)).length c36)) rfl rfl rfl rfl rfl rfl ?_; intro w37 b37 e37 hB37 hk37 hs37
        refine op_call rfl rfl rfl (rf_TagD w37 _ 4 [nodeB (kids k)] (rowsB_one hB37 (Sl.k (OwnB.by_ hO36) hk37)) (tag_1 4 (by have := nodeB_len (hs.2 k); omega))) ?_; rintro v38 w38 ⟨rfl, hk38⟩
        refine o_alloc rfl rfl rfl ?_; intro w39 b39 e39 hB39 hk39 hs39
        refine o_storeA (cs := dgR (tagD 4 [nodeB (kids k)])) rfl rfl (by first | rfl | exact binV_one _ | exact dgR_one _ | exact refR_one _ | exact secR_one _ | exact all_c8 _ | exact okC_dgR _) (by first | rfl | (rw [binV_len]; rfl) | (rw [dgR_len]; rfl) | (rw [refR_len]; rfl) | (rw [secR_len]; rfl) | (rw [List.length_map, tagF_len]; rfl) | (rw [dgR_len]; rfl)) hB39 (by exact Nat.le_of_eq (by simp [dgR_len])) rfl ?_; intro w40 hB40 hk40 hs40
        have hB40 : Blk w40 b39 ((tagD 4 [nodeB (kids k)]).val.map c8) 23 := by
          have h := hB40
          rwa [splice_all (by simp [dgR_len])] at h
        have hl32 := (tagD 4 [nodeB (kids k)]).2
        have hk3440 : Keep All w34 w40 := (((hk36.trans hk37).trans hk38).trans hk39).new hk40 (by have := ((hk36.trans hk37).trans hk38).size; omega)
        have hk3240 : Keep All w32 w40 := hO34.keepAll.trans hk3440
        have hS40 : Sl w40 (.slice (some ⟨b39, 0, none⟩) 32 32) 32 1 ((tagD 4 [nodeB (kids k)]).val.map c8) := (Own.blk (n := 32) (sz := 1) hB40 (by rw [List.length_map, hl32]) (by unfold maxLen; omega)).sl
        have hz40 := (hkw.trans hk3240).size
        refine ops_nil ?_
        refine W_region ?_
        refine o_mvt rfl ?_
        refine op_run (r_sliceA rfl rfl rfl) rfl ?_
        refine o_appS (v := u) rfl rfl hS40 rfl ti_u8 rfl rfl (hO.keep hk3240 (fun _ _ => trivial)) (all_c8 _) (by unfold maxLen; omega) (by omega) rfl ?_; intro v41 w41 hown41 hk41 hb41
        refine o_ast rfl ?_
        refine ops_nil ?_
        refine W_region ?_
        refine o_mvt rfl ?_
        refine op_run (r_mul rfl rfl) rfl ?_
        refine o_ast rfl ?_
        refine ops_nil ?_
        refine W_region ?_
        refine o_mvt rfl ?_
        refine op_run (r_add rfl rfl) rfl ?_
        refine o_ast rfl ?_
        refine ops_nil ?_
        have hO41 : OwnB w41 5 v41 (digsTo kids (k + 1)) := by
          rw [digsTo_s, Tre.notNo.2 hnn, if_neg (by decide)]
          exact OwnB.app (ys := (tagD 4 [nodeB (kids k)]).val) (by rw [hl32]; exact hown41)
        have em : maskTo kids (k + 1) = maskTo kids k + 2 ^ k := by
          show maskTo kids k + (if (kids k).isNo = true then 0 else 2 ^ k) = _
          rw [Tre.notNo.2 hnn, if_neg (by decide)]
        refine ⟨by (repeat (first | with_reducible exact offM_refl _ _ | refine offM_updc rfl ?_ | refine offM_upd rfl ?_ | refine offM_updo rfl ?_ | refine offM_updo_none ?_ | refine offM_head rfl rfl ?_)), ⟨k + 1, v41, ?_, by omega, hO41, fun z hz => ?_, (hkw.trans hk3240).own hk41 (fun z hz _ => hin z hz)⟩, ?_⟩
        · show [Value.int .u64 (IntKind.u64.wrap (((maskTo kids k : Nat) : Int) + ((2 ^ k : Nat) : Int))), v41, Value.int .u64 (IntKind.u64.wrap (2 * ((2 ^ k : Nat) : Int))), Value.int .u8 (IntKind.u8.wrap (((k : Nat) : Int) + 1))] = _
          rw [hmask, hbit, hinc, em]
        · rcases hb41 z hz with h | h
          · exact hin z h
          · omega
        · show 16 - (IntKind.u8.wrap (((k : Nat) : Int) + 1)).toNat < 16 - ((k : Nat) : Int).toNat
          rw [hinc]; omega
      · refine W_skip ?_
        refine W_region ?_
        refine o_mvt rfl ?_
        refine op_run (r_mul rfl rfl) rfl ?_
        refine o_ast rfl ?_
        refine ops_nil ?_
        refine W_region ?_
        refine o_mvt rfl ?_
        refine op_run (r_add rfl rfl) rfl ?_
        refine o_ast rfl ?_
        refine ops_nil ?_
        have hno : kids k = .no := Classical.byContradiction fun e => by
          have h1 := List.length_pos_iff.2 (hkid.some_ e)
          omega
        have em : maskTo kids (k + 1) = maskTo kids k := by
          show maskTo kids k + (if (kids k).isNo = true then 0 else 2 ^ k) = _
          rw [hno]; rfl
        have e2 : digsTo kids (k + 1) = digsTo kids k := by rw [digsTo_s, hno]; simp [Tre.isNo]
        refine ⟨by (repeat (first | with_reducible exact offM_refl _ _ | refine offM_updc rfl ?_ | refine offM_upd rfl ?_ | refine offM_updo rfl ?_ | refine offM_updo_none ?_ | refine offM_head rfl rfl ?_)), ⟨k + 1, u, ?_, by omega, by rw [e2]; exact hO.keep hO34.keepAll (fun _ _ => trivial), hin, hkw.trans hO34.keepAll⟩, ?_⟩
        · show [Value.int .u64 (maskTo kids k : Nat), u, Value.int .u64 (IntKind.u64.wrap (2 * ((2 ^ k : Nat) : Int))), Value.int .u8 (IntKind.u8.wrap (((k : Nat) : Int) + 1))] = _
          rw [hbit, hinc, em]
        · show 16 - (IntKind.u8.wrap (((k : Nat) : Int) + 1)).toNat < 16 - ((k : Nat) : Int).toNat
          rw [hinc]; omega
    · refine W_exit ?_
      refine W_seq ?_
      refine W_region ?_
      obtain rfl : k = 16 := by omega
      have hm := maskTo_lt kids 16
      have hm10 := encN_len10 (v := maskTo kids 16) (by omega)
      have hdl := digsTo_len kids 16
      have hzz := hkw30.size
      refine o_mvt rfl ?_
      refine o_mvt rfl ?_
      refine op_call rfl rfl rfl (ref01_Number w32 v30 (encN 1 ++ encB beg) (maskTo kids 16) (by omega) (hO30.keep hkw (fun _ _ => trivial)) (by rw [List.length_append]; omega)) ?_; rintro v44 w44 ⟨hO44, hk44, hin44⟩
      refine o_mvt rfl ?_
      refine o_appS (v := v44) rfl rfl (OwnB.by_ (hO.keep hk44 (fun z hz e => by have h := hin z hz; have := hlt30 z e.symm; omega))) rfl ti_u8 rfl rfl hO44 (all_c8 _) (by unfold maxLen; rw [List.length_append, List.length_append]; omega) (by rw [List.length_append, List.length_append]; omega) rfl ?_; intro v45 w45 hown45 hk45 hb45
      have hO45 : OwnB w45 5 v45 (nodeB (.branch beg kids)) := by rw [nodeB_br]; exact OwnB.app (ys := digsTo kids 16) hown45
      have hzk := hkw.size
      have hi44 : InB (fun z => w.heap.size ≤ z) v44 := hin44.mono fun z hz => by
        rcases hz with h | h
        · exact hi30 z h
        · omega
      have hkw44 : Keep All w w44 := (hkw30.trans hkw).own hk44 (fun z hz _ => hi30 z hz)
      refine o_ast rfl ?_
      refine ops_nil ?_
      refine W_ret ?_
      refine ret1 v45 rfl ?_ ?_; rfl
      refine ⟨hO45, fun z hz => ?_, hkw44.own hk45 (fun z hz _ => hi44 z hz)⟩
      rcases hb45 z hz with h | h
      · exact hi44 z h
      · have := hkw44.size; omega
theorem rf8_Node : ∀ (T : Tre), T ≠ .no → NodeOk T := by
  intro T
  induction T with
  | no => intro h; exact absurd rfl h
  | leaf b v => intro h; exact rf8_Node1 _ h (fun _ _ e => by cases e)
  | branch b k ih => intro h; exact rf8_Node1 _ h (fun b' k' e i hi => by cases e; exact ih i hi)
end Go.Proofs.YtpiidddccmohdaaDoor.B
/-! The document's tries: the nodes on the way to a key. -/
namespace Go.Proofs.YtpiidddccmohdaaDoor.B
open Go
set_option linter.unusedVariables false
set_option maxHeartbeats 2000000
set_option maxRecDepth 100000
attribute [local irreducible] W OpsW OpsQ retP
theorem AtI.stop {a r : List UInt8} {T : Tre} {l : List It} {y0 : It} {to : Nat} {key : Dig} (h : AtI a T l) (hy : y0 ∈ l) (hs : ShP l a.length to) (hk : nibs key.val = a ++ r)
    (hc : l.length = 1 ∨ ¬ ((nibs y0.1.val).drop a.length).take (to - a.length) = ((nibs key.val).drop a.length).take (to - a.length)) : wayT T r = [(T, r)] := by
  have hb := h.beg hy
  cases T with
  | no => rw [h.no] at hy; cases hy
  | leaf b v => rfl
  | branch b k =>
    have h2 := h.two
    obtain rfl := h.shared hs
    have hc := hc.resolve_left (by omega)
    rw [Nat.add_sub_cancel_left] at hc
    have hb : ((nibs y0.1.val).drop a.length).take b.length = b := hb
    rw [hb, hk, List.drop_left' rfl] at hc
    refine wayT_stop (Nat.lt_of_not_le fun hge => hc ?_)
    obtain ⟨t, rfl⟩ := comm_ge (beg := b) (r := r) (by omega)
    rw [List.take_left' rfl]
theorem AtI.go {a r : List UInt8} {T : Tre} {l : List It} {y0 : It} {to : Nat} {key : Dig} (h : AtI a T l) (hy : y0 ∈ l) (hs : ShP l a.length to) (hk : nibs key.val = a ++ r)
    (hc : ¬ (l.length = 1 ∨ ¬ ((nibs y0.1.val).drop a.length).take (to - a.length) = ((nibs key.val).drop a.length).take (to - a.length))) :
    ∃ b k y rs, T = .branch b k ∧ r = b ++ y :: rs ∧ to = a.length + b.length ∧ wayT T r = (T, r) :: wayT (k y.toNat) rs := by
  have hb := h.beg hy
  have hlen := congrArg List.length hk
  rw [nibs_len, key.2, List.length_append] at hlen
  cases T with
  | no => rw [h.no] at hy; cases hy
  | leaf b v => obtain ⟨x, rfl, _⟩ := h.leaf; exact absurd (Or.inl rfl) hc
  | branch b k =>
    have hto := h.shared hs
    have hbl := h.wf.1
    have hc : ((nibs y0.1.val).drop a.length).take (to - a.length) = ((nibs key.val).drop a.length).take (to - a.length) := Classical.byContradiction fun e => hc (.inr e)
    rw [hto, Nat.add_sub_cancel_left] at hc
    have hb : ((nibs y0.1.val).drop a.length).take b.length = b := hb
    rw [hb, hk, List.drop_left' rfl] at hc
    obtain ⟨t, ht⟩ : b <+: r := by rw [hc]; exact List.take_prefix _ _
    cases t with
    | nil => rw [List.append_nil] at ht; rw [← ht] at hlen; omega
    | cons y rs => subst ht; exact ⟨b, k, y, rs, rfl, rfl, hto, wayT_go⟩
theorem rf8_Prove (w : World) (v : Value) (T0 : Tre) (l : List It) (key : Dig) (hA0 : AtI [] T0 l) (hs0 : T0.short) (hv : ItIn w v l) (hl : l.length ≤ 2 ^ 20) : Ret Tryd.prog 15 [v, .agg (dgR key).toArray].toArray w fun r w' =>
    ∃ vs, Own w' 27 1 r vs.length vs ∧ RowsO w' w.heap.size vs (proveT T0 key) ∧ InB (fun z => w.heap.size ≤ z) r ∧ Keep All w w' := by
  obtain ⟨its0, hits1, hits2⟩ := hv
  obtain ⟨a0, c0, rfl, hc0, hcm0⟩ := hits1.form
  refine enter (fn := Tryd.f15) (n := 49) Tryd.func15 rfl rfl (by simp) ?_
  refine W_seq ?_
  refine W_region ?_
  refine o_box rfl rfl rfl ?_; intro w1 b1 e1 hB1 hk1 hs1
  have hB1 : Blk w1 b1 (dgR key) 23 := hB1
  refine o_asc rfl ?_
  refine ops_nil ?_
  refine W_seq ?_
  refine W_region ?_
  refine o_bs0 rfl rfl rfl ?_; intro w2 b2 e2 hB2 hk2 hs2
  refine o_ast rfl ?_
  refine ops_nil ?_
  refine W_seq ?_
  refine W_region ?_
  refine o_asc rfl ?_
  refine ops_nil ?_
  refine W_seq ?_
  refine W_block ?_
  refine W_loop [0, 5, 6] [0, 4, 5, 6, 7, 9, 10, 11, 12, 13, 14, 15, 16, 17, 18, 19, 20, 21, 22, 23, 24, 25, 26, 27, 28, 29, 30, 31, 32, 33, 34, 35, 36, 37, 38, 39, 40, 41, 42, 43, 44, 45, 46, 47] (fun vs w' => ∃ (T : Tre) (a r : List UInt8) (l' : List It) (its : List Iv) (vl u : Value) (us : List Value) (done : List (List UInt8)), vs = [vl, u, .int .i64 (a.length : Nat)] ∧ nibs key.val = a ++ r ∧ AtI a T l' ∧ T.short ∧ l'.length ≤ 2 ^ 20 ∧
      (∀ w'', Keep All w w'' → Keep (fun z => some z ≠ u.ownBlock) w' w'' → Sl w'' vl l'.length 33 (rows itR its)) ∧ Prs w its l' ∧ Own w' 27 1 u us.length us ∧ RowsO w' w1.heap.size us done ∧ InB (fun z => w1.heap.size ≤ z) u ∧ Keep All w1 w' ∧ us.length ≤ a.length ∧
      proveT T0 key = done ++ (wayT T r).map (fun x => nodeB x.1)) (fun vs _ => match vs with | [_, _, .int _ y] => 65 - y.toNat | _ => 0)
      ⟨T0, [], nibs key.val, l, its0, _, .slice (some ⟨b2, 0, none⟩) 0 0, [], [], rfl, rfl, hA0, hs0, hl, (fun w'' hk _ => Sl.k hits1 hk), hits2, Own.blk (n := 0) (sz := 1) hB2 rfl (Nat.zero_le _), trivial, (fun z hz => by have : b2 = z := Option.some.inj hz; omega), hk2, Nat.le_refl _, rfl⟩ ?_
  rintro J3 vs w3 ⟨T, a, r, l', its, vl, u, us, done, rfl, hkey, hA, hs, hl', hSl, hPr, hU, hR, hin, hkw, hul, hpv⟩ -
  have hkw3 : Keep All w w3 := hk1.trans hkw
  have hS3 := hSl w3 hkw3 (Keep.refl _)
  obtain ⟨al, cl, rfl, hcl0, hclm⟩ := hS3.form
  have hla := hA.la
  have hz1 := hk1.size
  refine W_seq ?_
  refine W_seq ?_
  refine W_region ?_
  refine o_mvt rfl ?_
  refine op_run (r_len rfl rfl rfl) rfl ?_
  refine op_run (r_gtr rfl rfl) rfl ?_
  refine ops_nil ?_
  refine W_cond_p rfl (fun h4 => ?_) (fun h4 => ?_)
  · refine W_skip ?_
    refine W_block ?_
    refine W_seq ?_
    refine W_region ?_
    refine o_mvt rfl ?_
    refine o_mvt rfl ?_
    refine o_mvt rfl ?_
    have hne : l' ≠ [] := fun e => by rw [e] at h4; simp at h4
    have hT : T ≠ .no := fun e => by rw [e] at hA; exact hne hA.no
    obtain ⟨y0, hy0⟩ : ∃ y, l'[0]? = some y := by cases l' with
      | nil => exact absurd rfl hne
      | cons x l => exact ⟨x, rfl⟩
    have hm0 := List.mem_of_getElem? hy0
    refine op_call rfl rfl rfl (rf8_Node T hT a l' w3 _ hA hs ⟨its, hS3, Prs.k hkw3 hPr⟩ hl') ?_; rintro v5 w5 ⟨hO5, hin5, hk5⟩
    have hone5 := hO5.one1
    refine o_bs1 (v := v5) rfl hone5 rfl rfl rfl rfl ?_; intro w6 b6 e6 hB6 hk6 hs6
    have hk36 := hk5.trans hk6
    have hO6 : OwnB w6 5 v5 (nodeB T) := hO5.keep hk6 (fun _ _ => trivial)
    refine o_appS (v := u) (news := [v5]) rfl rfl (Own.blk (n := 1) (sz := 1) hB6 rfl (by unfold maxLen; omega)).sl rfl ti_bssP rfl rfl (hU.keep hk36 (fun _ _ => trivial)) (by simp [hone5]) (by unfold maxLen; omega) (by omega) rfl ?_; intro v7 w7 hown7 hk7 hb7
    have hkw7 : Keep All w w7 := (hkw3.trans hk36).own hk7 (fun z hz _ => by have := hin z hz; omega)
    have hkA7 : Keep All w1 w7 := (hkw.trans hk36).own hk7 (fun z hz _ => hin z hz)
    have hk37 : Keep (fun z => some z ≠ u.ownBlock) w3 w7 := (hk36.mono fun _ _ _ => trivial).trans hk7
    have hS7 := hSl w7 hkw7 hk37
    have hIt7 : ItIn w7 (.slice al l'.length cl) l' := ⟨its, hS7, Prs.k hkw7 hPr⟩
    have hz36 := (hkw.trans hk36).size
    have hin7 : InB (fun z => w1.heap.size ≤ z) v7 := fun z hz => by
      rcases hb7 z hz with h | h
      · exact hin z h
      · omega
    have hR7 : RowsO w7 w1.heap.size (us ++ [v5]) (done ++ [nodeB T]) := RowsO.k hk7 (fun v b z ho _ hz => own_ne ho (hU.keep hk36 (fun _ _ => trivial)) ne_rows hz) (RowsO.snoc hO6 (hin5.mono fun z hz => by have hz : w3.heap.size ≤ z := hz; have := hkw.size; show w1.heap.size ≤ z; omega) (RowsO.k hk36 (fun _ _ _ _ _ _ => trivial) hR))
    have hU7 : Own w7 27 1 v7 (us ++ [v5]).length (us ++ [v5]) := by rw [List.length_append]; exact hown7
    have hB17 := hkA7.blk' hB1 trivial
    refine o_ast rfl ?_
    refine ops_nil ?_
    refine W_seq ?_
    refine W_region ?_
    refine o_mvt rfl ?_
    refine o_mvt rfl ?_
    refine op_call rfl rfl rfl (rf8_Shared w7 _ l' a.length hla hIt7 hne (by omega)) ?_; rintro v8 w8 ⟨⟨to, rfl, hto⟩, hk8⟩
    obtain ⟨b, off, c, vv, ev_, hby, hc⟩ := (hIt7.k hk8).at hy0
    cases ev_
    refine o_ast rfl ?_
    refine ops_nil ?_
    refine W_seq ?_
    refine W_cut [38] [21, 22, 23, 24, 25, 26, 27, 28, 29, 30, 31, 32, 33, 34, 35, 36, 37, 38] (fun vs w9 => vs = [.bool (decide (l'.length = 1 ∨ ¬ ((nibs y0.1.val).drop a.length).take (to - a.length) = ((nibs key.val).drop a.length).take (to - a.length)))] ∧ Keep All w8 w9) ?_ ?_
    · refine W_held (fun w' => Keep All w8 w') (by kernel_rfl) (Keep.drawn w8) (fun hS => ?_)
      refine any_mvt 0 rfl (by kernel_rfl) (by kernel_rfl) (by kernel_rfl) rfl hS ?_
      refine any_run 1 (fun w' hS' => (r_len rfl rfl rfl)) rfl (by kernel_rfl) (by kernel_rfl) (by kernel_rfl) rfl hS ?_
      refine any_run 2 (fun w' hS' => (r_eql rfl rfl)) rfl (by kernel_rfl) (by kernel_rfl) (by kernel_rfl) rfl hS ?_
      refine any_mvt 3 rfl (by kernel_rfl) (by kernel_rfl) (by kernel_rfl) rfl hS ?_
      refine a_split 24 false rfl (fun g11 => ?_) (fun g11 => ?_)
      · refine any_mvt 4 rfl (by kernel_rfl) (by kernel_rfl) (by kernel_rfl) (g_yes rfl rfl rfl g11) hS ?_
        refine any_run 5 (fun w' hS' => (r_idxS rfl rfl rfl rfl (by omega) (by omega))) rfl (by kernel_rfl) (by kernel_rfl) (by kernel_rfl) (g_yes rfl rfl rfl g11) hS ?_
        refine any_run 6 (fun w' hS' => (r_fieldAddr rfl rfl rfl rfl rfl)) rfl (by kernel_rfl) (by kernel_rfl) (by kernel_rfl) (g_yes rfl rfl rfl g11) hS ?_
        refine any_run 7 (fun w' hS' => (r_loadA (dgR y0.1) rfl rfl rfl (by first | rfl | (rw [binV_len]; rfl) | (rw [dgR_len]; rfl) | (rw [refR_len]; rfl) | (rw [secR_len]; rfl) | (rw [List.length_map, tagF_len]; rfl) | (rw [dgR_len]; rfl)) ((fun j u hj => hS'.cell (itR_dg hc j u (by simpa using hj)) trivial)))) rfl (by kernel_rfl) (by kernel_rfl) (by kernel_rfl) (g_yes rfl rfl rfl g11) hS ?_
        refine any_mvt 8 rfl (by kernel_rfl) (by kernel_rfl) (by kernel_rfl) (g_yes rfl rfl rfl g11) hS ?_
        refine any_mvt 9 rfl (by kernel_rfl) (by kernel_rfl) (by kernel_rfl) (g_yes rfl rfl rfl g11) hS ?_
        refine any_run 11 (fun w' hS' => (r_loadA (dgR key) rfl rfl rfl (by first | rfl | (rw [binV_len]; rfl) | (rw [dgR_len]; rfl) | (rw [refR_len]; rfl) | (rw [secR_len]; rfl) | (rw [List.length_map, tagF_len]; rfl) | (rw [dgR_len]; rfl)) (((hk8.trans hS').blk' hB17 trivial).all))) rfl (by kernel_rfl) (by kernel_rfl) (by kernel_rfl) (g_yes rfl rfl rfl g11) hS ?_
        refine any_mvt 12 rfl (by kernel_rfl) (by kernel_rfl) (by kernel_rfl) (g_yes rfl rfl rfl g11) hS ?_
        refine any_mvt 13 rfl (by kernel_rfl) (by kernel_rfl) (by kernel_rfl) (g_yes rfl rfl rfl g11) hS ?_
        refine any_one 10 (by kernel_rfl) (one_of rfl ?_)
        refine op_call rfl rfl (g_yes rfl rfl rfl g11) (rf8_rest _ y0.1 a.length to hto.1 hto.2.1) ?_; rintro v15 w15 ⟨hO15, hin15, hk15⟩
        refine ops_nil ⟨hS.trans hk15, fun hS => ?_⟩
        refine any_one 14 (by kernel_rfl) (one_of rfl ?_)
        refine op_call rfl rfl (g_yes rfl rfl rfl g11) (rf8_rest w15 key a.length to hto.1 hto.2.1) ?_; rintro v17 w17 ⟨hO17, hin17, hk17⟩
        refine ops_nil ⟨hS.trans hk17, fun hS => ?_⟩
        refine any_one 15 (by kernel_rfl) (one_of rfl ?_)
        refine op_call rfl rfl (g_yes rfl rfl rfl g11) (ref01_Same w17 v15 v17 _ _ (OwnB.by_ (hO15.keep hk17 (fun _ _ => trivial))) (OwnB.by_ hO17)) ?_; rintro v19 w19 ⟨rfl, hk19⟩
        refine ops_nil ⟨hS.trans hk19, fun hS => ?_⟩
        refine any_run 16 (fun w' hS' => (r_not rfl)) rfl (by kernel_rfl) (by kernel_rfl) (by kernel_rfl) (g_yes rfl rfl rfl g11) hS ?_
        refine any_run 17 (fun w' hS' => (r_pickF rfl g11)) rfl (by kernel_rfl) (by kernel_rfl) (by kernel_rfl) rfl hS ?_
        refine any_done (by kernel_rfl) ?_
        exact ⟨by (repeat (first | with_reducible exact offM_refl _ _ | refine offM_updc rfl ?_ | refine offM_upd rfl ?_ | refine offM_updo rfl ?_ | refine offM_updo_none ?_ | refine offM_head rfl rfl ?_)), congrArg (fun b => [Value.bool b]) (by simp [show ¬ l'.length = 1 from (by simp at g11; omega)]), hS⟩
      · refine any_skip 4 rfl (by kernel_rfl) (by kernel_rfl) (by kernel_rfl) (g_no rfl rfl rfl g11) hS ?_
        refine any_skip 5 rfl (by kernel_rfl) (by kernel_rfl) (by kernel_rfl) (g_no rfl rfl rfl g11) hS ?_
        refine any_skip 6 rfl (by kernel_rfl) (by kernel_rfl) (by kernel_rfl) (g_no rfl rfl rfl g11) hS ?_
        refine any_skip 7 rfl (by kernel_rfl) (by kernel_rfl) (by kernel_rfl) (g_no rfl rfl rfl g11) hS ?_
        refine any_skip 8 rfl (by kernel_rfl) (by kernel_rfl) (by kernel_rfl) (g_no rfl rfl rfl g11) hS ?_
        refine any_skip 9 rfl (by kernel_rfl) (by kernel_rfl) (by kernel_rfl) (g_no rfl rfl rfl g11) hS ?_
        refine any_skip 11 rfl (by kernel_rfl) (by kernel_rfl) (by kernel_rfl) (g_no rfl rfl rfl g11) hS ?_
        refine any_skip 12 rfl (by kernel_rfl) (by kernel_rfl) (by kernel_rfl) (g_no rfl rfl rfl g11) hS ?_
        refine any_skip 13 rfl (by kernel_rfl) (by kernel_rfl) (by kernel_rfl) (g_no rfl rfl rfl g11) hS ?_
        refine any_one 10 (by kernel_rfl) (one_of rfl ?_)
        refine op_skip (g_no rfl rfl rfl g11) ?_
        refine ops_nil ⟨hS, fun hS => ?_⟩
        refine any_one 14 (by kernel_rfl) (one_of rfl ?_)
        refine op_skip (g_no rfl rfl rfl g11) ?_
        refine ops_nil ⟨hS, fun hS => ?_⟩
        refine any_one 15 (by kernel_rfl) (one_of rfl ?_)
        refine op_skip (g_no rfl rfl rfl g11) ?_
        refine ops_nil ⟨hS, fun hS => ?_⟩
        refine any_skip 16 rfl (by kernel_rfl) (by kernel_rfl) (by kernel_rfl) (g_no rfl rfl rfl g11) hS ?_
        refine any_run 17 (fun w' hS' => (r_pickT rfl g11)) rfl (by kernel_rfl) (by kernel_rfl) (by kernel_rfl) rfl hS ?_
        refine any_done (by kernel_rfl) ?_
        exact ⟨by (repeat (first | with_reducible exact offM_refl _ _ | refine offM_updc rfl ?_ | refine offM_upd rfl ?_ | refine offM_updo rfl ?_ | refine offM_updo_none ?_ | refine offM_head rfl rfl ?_)), congrArg (fun b => [Value.bool b]) (by simp [show l'.length = 1 from (by simp at g11; omega)]), hS⟩
    · rintro J26 vs w26 ⟨rfl, hk26⟩ -
      refine W_cond_p rfl (fun h27 => ?_) (fun h27 => ?_)
      · refine W_seq ?_
        refine W_region ?_
        have hk726 := hk8.trans hk26
        refine o_mvt rfl ?_
        refine o_ast rfl ?_
        refine ops_nil ?_
        refine W_ret ?_
        refine ret1 v7 rfl ?_ ?_; rfl
        refine ⟨us ++ [v5], hU7.keep hk726 (fun _ _ => trivial), ?_, hin7.mono fun z hz => by have hz : w1.heap.size ≤ z := hz; show w.heap.size ≤ z; omega, hkw7.trans hk726⟩
        rw [hpv, hA.stop hm0 hto hkey h27]
        exact RowsO.mono (by omega) (RowsO.k hk726 (fun _ _ _ _ _ _ => trivial) hR7)
      · refine W_skip ?_
        refine W_seq ?_
        refine W_region ?_
        obtain ⟨beg, kids, y, rs, rfl, rfl, rfl, hway⟩ := hA.go hm0 hto hkey h27
        have hk726 := hk8.trans hk26
        have hbl := hA.wf.1
        have hinc := inc64' (a.length + beg.length) (by omega)
        refine o_mvt rfl ?_
        refine o_mvt rfl ?_
        refine op_run (r_loadA (dgR key) rfl rfl rfl (by first | rfl | (rw [binV_len]; rfl) | (rw [dgR_len]; rfl) | (rw [refR_len]; rfl) | (rw [secR_len]; rfl) | (rw [List.length_map, tagF_len]; rfl) | (rw [dgR_len]; rfl)) ((hk726.blk' hB17 trivial).all)) rfl ?_
        refine o_mvt rfl ?_
        refine op_call rfl rfl rfl (rf08_Nibble w26 key (a.length + beg.length) y (by rw [hkey]; exact at_mid)) ?_; rintro v30 w30 ⟨rfl, hk30⟩
        have hk730 := hk726.trans hk30
        refine op_call rfl rfl rfl (rf8_partP w w30 (.slice (some ⟨b, off, none⟩) l'.length cl) its l' (a.length + beg.length) y (by omega) (Sl.k hS7 hk730) hPr (hkw7.trans hk730) hl') ?_; rintro v31 w31 ⟨its31, hP1, hP2, hP3, hP4⟩
        refine o_ast rfl ?_
        refine ops_nil ?_
        refine W_region ?_
        refine o_mvt rfl ?_
        refine op_run (r_add rfl rfl) rfl ?_
        refine o_ast rfl ?_
        refine ops_nil ?_
        have hkl : ((a ++ beg) ++ [y]).length = a.length + beg.length + 1 := by rw [List.length_append, List.length_append]; rfl
        have hk731 := hk730.trans hP4
        have hpl := partI_len l' (a.length + beg.length) y
        refine ⟨by (repeat (first | with_reducible exact offM_refl _ _ | refine offM_updc rfl ?_ | refine offM_upd rfl ?_ | refine offM_updo rfl ?_ | refine offM_updo_none ?_ | refine offM_head rfl rfl ?_)), ⟨kids y.toNat, (a ++ beg) ++ [y], rs, partI l' (a.length + beg.length) y, its31, v31, v7, us ++ [v5], done ++ [nodeB (.branch beg kids)], ?_, by rw [hkey]; simp, hA.kid y, hs.2 _, by omega, ?_, hP2, hU7.keep hk731 (fun _ _ => trivial), RowsO.k hk731 (fun _ _ _ _ _ _ => trivial) hR7, hin7, hkA7.trans hk731, by rw [hkl, List.length_append]; simp only [List.length_singleton]; omega, ?_⟩, ?_⟩
        · rw [hkl]; exact congrArg (fun z : Int => [v31, v7, Value.int .i64 z]) hinc
        · intro w'' _ hk
          exact (hP1.keep hk (fun z hz => own_ne hP1 (hU7.keep hk731 (fun _ _ => trivial)) (by decide) hz)).sl
        · rw [hpv, hway, List.map_cons, List.append_assoc]; rfl
        · show 65 - (IntKind.i64.wrap (((a.length + beg.length : Nat) : Int) + 1)).toNat < 65 - ((a.length : Nat) : Int).toNat
          rw [hinc]; omega
  · refine W_exit ?_
    refine W_seq ?_
    refine W_region ?_
    refine o_mvt rfl ?_
    refine o_ast rfl ?_
    refine ops_nil ?_
    refine W_ret ?_
    refine ret1 u rfl ?_ ?_; rfl
    have hnil : l' = [] := List.eq_nil_of_length_eq_zero (by omega)
    have hno : T = .no := Classical.byContradiction fun e => hA.some_ e hnil
    rw [hno] at hpv
    have hpv : proveT T0 key = done := by rw [hpv]; exact List.append_nil _
    rw [hpv]
    exact ⟨us, hU, RowsO.mono (by omega) hR, hin.mono fun z hz => by have hz : w1.heap.size ≤ z := hz; show w.heap.size ≤ z; omega, hkw3⟩
end Go.Proofs.YtpiidddccmohdaaDoor.B
/-! Tries: two that aren't one have unlike roots, or two of their nodes clash; items that rise. -/
namespace Go.Proofs.YtpiidddccmohdaaDoor.B
open Go
set_option linter.unusedVariables false
set_option maxHeartbeats 2000000
set_option maxRecDepth 100000
attribute [local irreducible] W OpsW OpsQ retP
theorem toU8_inj {x y : Nat} (hx : x < 256) (hy : y < 256) (h : x.toUInt8 = y.toUInt8) : x = y := by
  have := congrArg UInt8.toNat h
  rwa [toU8_lt hx, toU8_lt hy] at this
theorem encN_inj0 : ∀ (n v u : Nat) (r s : List UInt8), v ≤ n → encN v ++ r = encN u ++ s → v = u ∧ r = s := by
  intro n
  induction n with
  | zero =>
    intro v u r s hv h
    rw [encN_last (show v < 128 by omega)] at h
    by_cases hu : u < 128
    · rw [encN_last hu] at h
      injection h with h1 h2
      exact ⟨toU8_inj (by omega) (by omega) h1, h2⟩
    · rw [encN_more (by omega)] at h
      injection h with h1 h2
      have := toU8_inj (by omega) (by omega) h1
      omega
  | succ n ih =>
    intro v u r s hv h
    by_cases hv8 : v < 128
    · rw [encN_last hv8] at h
      by_cases hu : u < 128
      · rw [encN_last hu] at h
        injection h with h1 h2
        exact ⟨toU8_inj (by omega) (by omega) h1, h2⟩
      · rw [encN_more (by omega)] at h
        injection h with h1 h2
        have := toU8_inj (by omega) (by omega) h1
        omega
    · rw [encN_more (show 128 ≤ v by omega)] at h
      by_cases hu : u < 128
      · rw [encN_last hu] at h
        injection h with h1 h2
        have := toU8_inj (by omega) (by omega) h1
        omega
      · rw [encN_more (show 128 ≤ u by omega)] at h
        injection h with h1 h2
        have := toU8_inj (by omega) (by omega) h1
        obtain ⟨h3, h4⟩ := ih (v / 128) (u / 128) r s (by omega) h2
        exact ⟨by omega, h4⟩
theorem encN_inj {v u : Nat} {r s : List UInt8} (h : encN v ++ r = encN u ++ s) : v = u ∧ r = s := encN_inj0 v v u r s (Nat.le_refl _) h
theorem encB_inj {b c r s : List UInt8} (h : encB b ++ r = encB c ++ s) : b = c ∧ r = s := by
  unfold encB at h
  rw [List.append_assoc, List.append_assoc] at h
  obtain ⟨h1, h2⟩ := encN_inj h
  exact List.append_inj h2 h1
theorem maskTo_inj {K J : Nat → Tre} : ∀ n, maskTo K n = maskTo J n → ∀ i, i < n → (K i).isNo = (J i).isNo
  | 0, _, i, hi => by omega
  | n + 1, h, i, hi => by
    have hK := maskTo_lt K n
    have hJ := maskTo_lt J n
    have h : maskTo K n + (if (K n).isNo = true then 0 else 2 ^ n) = maskTo J n + (if (J n).isNo = true then 0 else 2 ^ n) := h
    have key : (K n).isNo = (J n).isNo ∧ maskTo K n = maskTo J n := by
      generalize 2 ^ n = p at *
      cases h1 : (K n).isNo <;> cases h2 : (J n).isNo <;> rw [h1, h2] at h <;> simp at h ⊢ <;> omega
    by_cases e : i = n
    · rw [e]; exact key.1
    · exact maskTo_inj n key.2 i (by omega)
theorem digsTo_inj {K J : Nat → Tre} : ∀ n, (∀ i, i < n → (K i).isNo = (J i).isNo) → digsTo K n = digsTo J n → ∀ i, i < n → K i ≠ .no → tagD 4 [nodeB (K i)] = tagD 4 [nodeB (J i)]
  | 0, _, _, i, hi, _ => by omega
  | n + 1, hm, h, i, hi, hn => by
    rw [digsTo_s, digsTo_s, ← hm n (by omega)] at h
    by_cases hno : (K n).isNo = true
    · rw [if_pos hno, if_pos hno, List.append_nil, List.append_nil] at h
      by_cases e : i = n
      · rw [e] at hn; exact absurd (Tre.isNo_iff.1 hno) hn
      · exact digsTo_inj n (fun j hj => hm j (by omega)) h i (by omega) hn
    · rw [if_neg hno, if_neg hno] at h
      obtain ⟨h1, h2⟩ := List.append_inj' h (by rw [(tagD 4 [nodeB (K n)]).2, (tagD 4 [nodeB (J n)]).2])
      by_cases e : i = n
      · rw [e]; exact Subtype.ext h2
      · exact digsTo_inj n (fun j hj => hm j (by omega)) h1 i (by omega) hn
theorem nodeB_ll {b v c u : List UInt8} (h : nodeB (.leaf b v) = nodeB (.leaf c u)) : b = c ∧ v = u := by
  rw [nodeB, nodeB, List.append_assoc, List.append_assoc] at h
  obtain ⟨_, h⟩ := encN_inj h
  obtain ⟨e1, h⟩ := encB_inj h
  have h : encB v ++ [] = encB u ++ [] := by rw [h]
  exact ⟨e1, (encB_inj h).1⟩
theorem nodeB_lb {b v c : List UInt8} {k : Nat → Tre} (h : nodeB (.leaf b v) = nodeB (.branch c k)) : False := by
  rw [nodeB, nodeB_br, List.append_assoc, List.append_assoc, List.append_assoc] at h
  have := (encN_inj h).1
  omega
theorem nodeB_bb {b c : List UInt8} {k j : Nat → Tre} (h : nodeB (.branch b k) = nodeB (.branch c j)) :
    b = c ∧ (∀ i, i < 16 → (k i).isNo = (j i).isNo) ∧ ∀ i, i < 16 → k i ≠ .no → tagD 4 [nodeB (k i)] = tagD 4 [nodeB (j i)] := by
  rw [nodeB_br, nodeB_br, List.append_assoc, List.append_assoc, List.append_assoc, List.append_assoc] at h
  obtain ⟨_, h⟩ := encN_inj h
  obtain ⟨e1, h⟩ := encB_inj h
  obtain ⟨e2, h⟩ := encN_inj h
  have hm := maskTo_inj 16 e2
  exact ⟨e1, hm, digsTo_inj 16 hm h⟩
def wayB (T : Tre) (r : List UInt8) : List (List UInt8) := (wayT T r).map fun x => nodeB x.1
theorem wayB_0 {T : Tre} {r x : List UInt8} (h : (wayB T r)[0]? = some x) : x = nodeB T ∧ T ≠ .no := by
  by_cases hT : T = .no
  · subst hT; cases h
  · obtain ⟨t, ht⟩ := wayT_head r hT
    unfold wayB at h
    rw [ht] at h
    exact ⟨(Option.some.inj h).symm, hT⟩
theorem wayB_leaf {b v r : List UInt8} {k : Nat} : (wayB (.leaf b v) r)[k + 1]? = none := rfl
theorem wayB_br {b r x : List UInt8} {kd : Nat → Tre} {k : Nat} (h : (wayB (.branch b kd) r)[k + 1]? = some x) : ¬ comm b r < b.length ∧ (wayB (kd (r.getD b.length 0).toNat) (r.drop (b.length + 1)))[k]? = some x := by
  unfold wayB at h
  rw [wayT] at h
  by_cases hc : comm b r < b.length
  · rw [if_pos hc] at h; cases h
  · rw [if_neg hc] at h; exact ⟨hc, h⟩
theorem wayB_br' {b r : List UInt8} {kd : Nat → Tre} {k : Nat} (hc : ¬ comm b r < b.length) : (wayB (.branch b kd) r)[k + 1]? = (wayB (kd (r.getD b.length 0).toNat) (r.drop (b.length + 1)))[k]? := by
  unfold wayB
  rw [wayT, if_neg hc]; rfl
theorem wayB_some {T : Tre} {r x : List UInt8} {k : Nat} (h : (wayB T r)[k]? = some x) : T ≠ .no := fun e => by subst e; cases h
/-- The first two nodes on the way to a key that aren't one have one digest, where the roots are one. -/
theorem way_first : ∀ (T S : Tre) (r : List UInt8) (L L' k : Nat) (x y : List UInt8), T.wf L → S.wf L' → tagD 4 [nodeB T] = tagD 4 [nodeB S] →
    (wayB T r)[k]? = some x → (wayB S r)[k]? = some y → (∀ j : Nat, j < k → (wayB T r)[j]? = (wayB S r)[j]?) → tagD 4 [x] = tagD 4 [y] := by
  intro T
  induction T with
  | no => intro S r L L' k x y _ _ _ h; cases h
  | leaf b v =>
    intro S r L L' k x y _ _ hd hx hy _
    cases k with
    | zero => rw [(wayB_0 hx).1, (wayB_0 hy).1]; exact hd
    | succ k => cases hx
  | branch b kd ih =>
    intro S r L L' k x y hw hw' hd hx hy hj
    cases k with
    | zero => rw [(wayB_0 hx).1, (wayB_0 hy).1]; exact hd
    | succ k =>
      have h0 := hj 0 (by omega)
      cases S with
      | no => cases hy
      | leaf c u => cases hy
      | branch c jd =>
        have e0 : nodeB (.branch b kd) = nodeB (.branch c jd) := Option.some.inj h0
        obtain ⟨rfl, hm, hdg⟩ := nodeB_bb e0
        obtain ⟨hc, hx'⟩ := wayB_br hx
        obtain ⟨_, hy'⟩ := wayB_br hy
        have hne := wayB_some hx'
        have h16 : (r.getD b.length 0).toNat < 16 := Nat.lt_of_not_le fun hh => hne (hw.2.2.2.1 _ hh)
        refine ih _ (jd (r.getD b.length 0).toNat) _ _ _ k x y (hw.2.2.1 _) (hw'.2.2.1 _) (hdg _ h16 hne) hx' hy' fun j hjk => ?_
        have := hj (j + 1) (by omega)
        rwa [wayB_br' hc, wayB_br' hc] at this
/-- Where the nodes on the way to each key of both are one, aa_ far aa_ both go, the tries are. -/
theorem same_all : ∀ (T S : Tre) (L : Nat), T.wf L → S.wf L → T ≠ .no → S ≠ .no →
    (∀ r, r.length = L → nib16 r → (T.get r ≠ none ∨ S.get r ≠ none) → ∀ (k : Nat) (x y : List UInt8), (wayB T r)[k]? = some x → (wayB S r)[k]? = some y → x = y) → T = S := by
  intro T
  induction T with
  | no => intro S L _ _ h; exact absurd rfl h
  | leaf b v =>
    intro S L hw hw' hT hS h
    have h0 := h b hw.1 hw.2 (.inl (by rw [show (Tre.leaf b v).get b = some v from if_pos rfl]; exact fun e => by cases e)) 0 (nodeB (.leaf b v)) (nodeB S) rfl (by
      obtain ⟨t, ht⟩ := wayT_head b hS
      unfold wayB; rw [ht]; rfl)
    cases S with
    | no => exact absurd rfl hS
    | leaf c u => obtain ⟨rfl, rfl⟩ := nodeB_ll h0; rfl
    | branch c j => exact (nodeB_lb h0).elim
  | branch b kd ih =>
    intro S L hw hw' hT hS h
    obtain ⟨r0, v0, hr0, hn0, hg0⟩ := Tre.has _ L hw hT
    have h0 := h r0 hr0 hn0 (.inl (by rw [hg0]; exact fun e => by cases e)) 0 (nodeB (.branch b kd)) (nodeB S) (by
      obtain ⟨t, ht⟩ := wayT_head r0 hT
      unfold wayB; rw [ht]; rfl) (by
      obtain ⟨t, ht⟩ := wayT_head r0 hS
      unfold wayB; rw [ht]; rfl)
    cases S with
    | no => exact absurd rfl hS
    | leaf c u => exact (nodeB_lb h0.symm).elim
    | branch c jd =>
      obtain ⟨rfl, hm, _⟩ := nodeB_bb h0
      have hk : kd = jd := by
        funext i
        by_cases hi : 16 ≤ i
        · rw [hw.2.2.2.1 i hi, hw'.2.2.2.1 i hi]
        · have hi16 : i < 16 := by omega
          have hmi := hm i hi16
          by_cases hno : kd i = .no
          · rw [hno] at hmi ⊢
            exact (Tre.isNo_iff.1 hmi.symm).symm
          · have hno' : jd i ≠ .no := fun e => hno (by rw [e] at hmi; exact Tre.isNo_iff.1 hmi)
            have hbl := hw.1
            refine ih i (jd i) (L - b.length - 1) (hw.2.2.1 i) (hw'.2.2.1 i) hno hno' fun r hr hn hg k x y hx hy => ?_
            have hbr : ∀ (z : Nat → Tre) (k : Nat), (wayB (.branch b z) (b ++ i.toUInt8 :: r))[k + 1]? = (wayB (z i) r)[k]? := fun z k => by
              unfold wayB
              rw [wayT_go, u8_of hi16]; rfl
            refine h (b ++ i.toUInt8 :: r) (by rw [List.length_append, List.length_cons]; omega) (fun z hz => ?_) ?_ (k + 1) x y (by rw [hbr]; exact hx) (by rw [hbr]; exact hy)
            · rcases List.mem_append.1 hz with hz | hz
              · exact hw.2.1 z hz
              · rcases List.mem_cons.1 hz with rfl | hz
                · rw [u8_of hi16]; exact hi16
                · exact hn z hz
            · rw [Tre.get_br, Tre.get_br, u8_of hi16]; exact hg
      rw [hk]
/-! ### Items that rise -/
theorem lessB_trans : ∀ {a b c : List UInt8}, lessB a b = true → lessB b c = true → lessB a c = true
  | x :: a, y :: b, z :: c, h1, h2 => by
    unfold lessB at h1 h2 ⊢
    by_cases e1 : x = y
    · subst e1
      rw [if_pos rfl] at h1
      by_cases e2 : x = z
      · subst e2
        rw [if_pos rfl] at h2 ⊢
        exact lessB_trans h1 h2
      · rw [if_neg e2] at h2 ⊢
        exact h2
    · rw [if_neg e1] at h1
      by_cases e2 : y = z
      · subst e2
        rw [if_neg e1]; exact h1
      · rw [if_neg e2] at h2
        have h1 := of_decide_eq_true h1
        have h2 := of_decide_eq_true h2
        rw [if_neg (fun e => by subst e; omega)]
        exact decide_eq_true (by omega)
  | [], _, _, h, _ => by unfold lessB at h; cases h
  | _ :: _, [], _, h, _ => by unfold lessB at h; cases h
  | _ :: _, _ :: _, [], _, h => by unfold lessB at h; cases h
theorem lessB_total : ∀ {a b : List UInt8}, a.length = b.length → a ≠ b → lessB a b = false → lessB b a = true
  | [], [], _, h, _ => absurd rfl h
  | x :: a, y :: b, hl, hne, h => by
    unfold lessB at h ⊢
    by_cases e : x = y
    · subst e
      rw [if_pos rfl] at h ⊢
      exact lessB_total (by simpa using hl) (fun e => hne (by rw [e])) h
    · rw [if_neg e] at h
      rw [if_neg (fun e2 => e e2.symm)]
      have h := of_decide_eq_false h
      have : x.toNat ≠ y.toNat := fun e2 => e (UInt8.toNat_inj.1 e2)
      exact decide_eq_true (by omega)
  | [], _ :: _, h, _, _ => by cases h
  | _ :: _, [], h, _, _ => by cases h
def Rise (l : List It) : Prop := l.Pairwise fun x y => lessB x.1.val y.1.val = true
theorem putGo_true (key : Dig) (val : List UInt8) : ∀ l : List It, putGo key val true l = dropI l key
  | [] => rfl
  | x :: l => by
    have ih := putGo_true key val l
    unfold putGo
    rw [show (true || !lessB x.1.val key.val) = true from rfl, ih]
    unfold dropI
    rw [List.filter_cons]
    by_cases e : x.1 = key
    · simp [e]
    · simp [e]
theorem dropI_rise {l : List It} (h : Rise l) (key : Dig) : Rise (dropI l key) := List.Pairwise.sublist List.filter_sublist h
theorem putGo_rise (key : Dig) (val : List UInt8) : ∀ l : List It, Rise l → Rise (putGo key val false l)
  | [], _ => by unfold putGo; exact List.pairwise_singleton _ _
  | x :: l, h => by
    obtain ⟨h1, h2⟩ := List.pairwise_cons.1 h
    unfold putGo
    by_cases hl : lessB x.1.val key.val = true
    · have hne : x.1 ≠ key := fun e => by rw [e, lessB_self] at hl; cases hl
      rw [hl, if_pos hne]
      simp only [Bool.not_true, Bool.and_false, Bool.false_eq_true, if_false, List.nil_append, Bool.or_false, List.singleton_append]
      refine List.pairwise_cons.2 ⟨fun y hy => ?_, putGo_rise key val l h2⟩
      rcases putGo_mem _ _ _ _ _ hy with rfl | hy
      · exact hl
      · exact h1 y hy
    · have hl : lessB x.1.val key.val = false := by simpa using hl
      rw [hl]
      simp only [Bool.not_false, Bool.and_true, if_true, Bool.or_true]
      rw [putGo_true]
      by_cases e : x.1 = key
      · rw [if_neg (fun h => h e)]
        refine List.pairwise_cons.2 ⟨fun y hy => ?_, dropI_rise h2 key⟩
        have := h1 y (List.mem_filter.1 hy).1
        rw [e] at this; exact this
      · rw [if_pos e]
        have hlt : lessB key.val x.1.val = true := lessB_total (by rw [x.1.2, key.2]) (fun h => e (Subtype.ext h)) hl
        refine List.pairwise_cons.2 ⟨fun y hy => ?_, List.pairwise_cons.2 ⟨fun y hy => h1 y (List.mem_filter.1 hy).1, dropI_rise h2 key⟩⟩
        rcases List.mem_cons.1 hy with rfl | hy
        · exact hlt
        · exact lessB_trans hlt (h1 y (List.mem_filter.1 hy).1)
theorem play_rise : ∀ (cs : List Cl) (s : Tre × List It), Rise s.2 → Rise (cs.foldl stepC s).2
  | [], _, h => h
  | c :: cs, s, h => play_rise cs _ (by
    unfold stepC; split
    · exact putGo_rise _ _ _ h
    · exact dropI_rise h _)
theorem look_rise {x : It} {l : List It} (h : Rise (x :: l)) : lookI l x.1 = none := by
  cases e : lookI l x.1 with
  | none => rfl
  | some v =>
    have := (List.pairwise_cons.1 h).1 _ (look_mem e)
    rw [lessB_self] at this; cases this
/-- Rows that rise, and in which the same is found, are one. -/
theorem rise_ext : ∀ {l m : List It}, Rise l → Rise m → (∀ k, lookI l k = lookI m k) → l = m
  | [], [], _, _, _ => rfl
  | x :: l, [], _, _, h => by have := h x.1; unfold lookI at this; rw [if_pos rfl] at this; cases this
  | [], y :: m, _, _, h => by have := h y.1; unfold lookI at this; rw [if_pos rfl] at this; cases this
  | x :: l, y :: m, hl, hm, h => by
    have hx := h x.1
    have hy := h y.1
    have e1 : lookI (x :: l) x.1 = some x.2 := by unfold lookI; exact if_pos rfl
    have e2 : lookI (y :: m) y.1 = some y.2 := by unfold lookI; exact if_pos rfl
    by_cases e : x.1 = y.1
    · have exy : x = y := by
        rw [e1, e, e2] at hx
        exact Prod.ext e (Option.some.inj hx)
      subst exy
      rw [rise_ext (List.pairwise_cons.1 hl).2 (List.pairwise_cons.1 hm).2 fun k => by
        by_cases ek : x.1 = k
        · subst ek; rw [look_rise hl, look_rise hm]
        · have := h k
          unfold lookI at this
          rwa [if_neg ek, if_neg ek] at this]
    · rw [e1] at hx
      rw [e2] at hy
      have m1 := look_mem hx.symm
      have m2 := look_mem hy
      have a1 := (List.pairwise_cons.1 hm).1 (x.1, x.2) ((List.mem_cons.1 m1).resolve_left fun h => e (by rw [← h]))
      have a2 := (List.pairwise_cons.1 hl).1 (y.1, y.2) ((List.mem_cons.1 m2).resolve_left fun h => e (by rw [← h]))
      have := lessB_trans a1 a2
      rw [lessB_self] at this; cases this
end Go.Proofs.YtpiidddccmohdaaDoor.B
