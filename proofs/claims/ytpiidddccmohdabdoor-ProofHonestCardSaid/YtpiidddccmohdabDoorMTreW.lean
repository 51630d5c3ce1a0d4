/-
  Texts merged (mtpl.py): TreW1 TreW2 TreW3.
-/
import Derived.Test.YtpiidddccmohdabDoorTre2
import Derived.Test.YtpiidddccmohdabDoorNibs
import Derived.Test.YtpiidddccmohdabDoorRowsK
import Derived.Test.YtpiidddccmohdabDoorGate2
import Derived.Test.YtpiidddccmohdabDoorCat
/-! trie: nodes in memory; nibbles, common, with. -/
namespace Go.Proofs.YtpiidddccmohdabDoor.B
open Go
set_option linter.unusedVariables false
set_option maxHeartbeats 2000000
set_option maxRecDepth 100000
attribute [local irreducible] W OpsW OpsQ retP
/-- A trie in memory. -/
def NodeIn (w : World) : Tre → Value → Prop
  | .no, v => v = .pointer none
  | .leaf beg val, v => ∃ b vb vv, v = .pointer (some ⟨b, 0, none⟩) ∧ Blk w b [vb, vv, .pointer none] 69 ∧ By w vb beg ∧ By w vv val
  | .branch beg kids, v => ∃ b vb vv bk ps, v = .pointer (some ⟨b, 0, none⟩) ∧ Blk w b [vb, vv, .pointer (some ⟨bk, 0, none⟩)] 69 ∧ By w vb beg ∧ one vv = true ∧ Blk w bk ps 71 ∧ ps.length = 16 ∧ ∀ (i : Nat) (p : Value), ps[i]? = some p → NodeIn w (kids i) p
theorem NodeIn.ptr {w : World} {T : Tre} {v : Value} (h : NodeIn w T v) : ∃ a, v = .pointer a ∧ (a = none ↔ T = .no) := by
  cases T with
  | no => exact ⟨none, h, by simp⟩
  | leaf b u => obtain ⟨b, _, _, e, _⟩ := h; exact ⟨_, e, by simp⟩
  | branch b k => obtain ⟨b, _, _, _, _, e, _⟩ := h; exact ⟨_, e, by simp⟩
theorem NodeIn.one1 {w : World} {T : Tre} {v : Value} (h : NodeIn w T v) : one v = true := by
  obtain ⟨a, rfl, _⟩ := h.ptr; rfl
theorem NodeIn.k {w w' : World} (hk : Keep All w w') : ∀ {T : Tre} {v : Value}, NodeIn w T v → NodeIn w' T v := by
  intro T
  induction T with
  | no => intro v h; exact h
  | leaf b u => rintro v ⟨b, vb, vv, e, h1, h2, h3⟩; exact ⟨b, vb, vv, e, hk.blk' h1 trivial, Sl.k h2 hk, Sl.k h3 hk⟩
  | branch b k ih =>
    rintro v ⟨b, vb, vv, bk, ps, e, h1, h2, h3, h4, h5, h6⟩
    exact ⟨b, vb, vv, bk, ps, e, hk.blk' h1 trivial, Sl.k h2 hk, h3, hk.blk' h4 trivial, h5, fun i p hp => ih i (h6 i p hp)⟩
theorem nodes_one {w : World} {kids : Nat → Tre} {ps : List Value} (h : ∀ (i : Nat) (p : Value), ps[i]? = some p → NodeIn w (kids i) p) : ps.all one = true := List.all_eq_true.2 fun x hx => by
  obtain ⟨i, hi, he⟩ := List.mem_iff_getElem.1 hx
  exact (h i x (by rw [List.getElem?_eq_getElem hi, he])).one1
/-- What stands in a node. -/
theorem NodeIn.open {w : World} {T : Tre} {v : Value} (h : NodeIn w T v) (hn : T ≠ .no) : ∃ b vb vv pk, v = .pointer (some ⟨b, 0, none⟩) ∧ Blk w b [vb, vv, .pointer pk] 69 ∧ By w vb (begT T) ∧ one vv = true ∧
    ((pk = none ∧ ∃ beg val, T = .leaf beg val ∧ By w vv val) ∨ ∃ beg kids bk ps, T = .branch beg kids ∧ pk = some ⟨bk, 0, none⟩ ∧ Blk w bk ps 71 ∧ ps.length = 16 ∧ ∀ (i : Nat) (p : Value), ps[i]? = some p → NodeIn w (kids i) p) := by
  cases T with
  | no => exact absurd rfl hn
  | leaf beg val =>
    obtain ⟨b, vb, vv, e, h1, h2, h3⟩ := h
    obtain ⟨a, c, ev_, _, _⟩ := h3.form
    exact ⟨b, vb, vv, none, e, h1, h2, by rw [ev_]; rfl, .inl ⟨rfl, beg, val, rfl, h3⟩⟩
  | branch beg kids =>
    obtain ⟨b, vb, vv, bk, ps, e, h1, h2, h3, h4, h5, h6⟩ := h
    exact ⟨b, vb, vv, _, e, h1, h2, h3, .inr ⟨beg, kids, bk, ps, rfl, rfl, h4, h5, h6⟩⟩
theorem NodeIn.re {w : World} {T : Tre} {b : Nat} {vb vv : Value} {pk : Option Addr} (hT : T ≠ .no) (h2 : By w vb (begT T)) (h3 : one vv = true)
    (h4 : (pk = none ∧ ∃ beg val, T = .leaf beg val ∧ By w vv val) ∨ ∃ beg kids bk ps, T = .branch beg kids ∧ pk = some ⟨bk, 0, none⟩ ∧ Blk w bk ps 71 ∧ ps.length = 16 ∧ ∀ (i : Nat) (p : Value), ps[i]? = some p → NodeIn w (kids i) p)
    {bs : List UInt8} {vb' : Value} (hb : By w vb' bs) (hB : Blk w b [vb', vv, .pointer pk] 69) : NodeIn w (reB T bs) (.pointer (some ⟨b, 0, none⟩)) := by
  rcases h4 with ⟨rfl, beg, val, rfl, hv⟩ | ⟨beg, kids, bk, ps, rfl, rfl, h5, h6, h7⟩
  · exact ⟨b, vb', vv, rfl, hB, hb, hv⟩
  · exact ⟨b, vb', vv, bk, ps, rfl, hB, hb, h3, h5, h6, h7⟩
theorem comm_eq : ∀ (k : Nat) (a b : List UInt8), a.take k = b.take k → k ≤ a.length → k ≤ b.length → (k = a.length ∨ k = b.length ∨ a[k]? ≠ b[k]?) → comm a b = k
  | 0, a, b, _, _, _, h => by
    cases a with
    | nil => unfold comm; rfl
    | cons x a =>
      cases b with
      | nil => unfold comm; rfl
      | cons y b =>
        unfold comm
        rcases h with h | h | h
        · simp at h
        · simp at h
        · rw [if_neg (fun e => h (by rw [e]; rfl))]
  | k + 1, a, b, ht, ha, hb, h => by
    cases a with
    | nil => simp at ha
    | cons x a =>
      cases b with
      | nil => simp at hb
      | cons y b =>
        rw [List.take_succ_cons, List.take_succ_cons] at ht
        injection ht with h1 h2
        subst h1
        unfold comm
        rw [if_pos rfl, comm_eq k a b h2 (by simpa using ha) (by simpa using hb) (by simpa using h)]
theorem tr_nibbles (w : World) (key : Dig) : Ret Tryd.prog 17 [.agg (dgR key).toArray].toArray w fun r w' => OwnB w' 5 r (nibs key.val) ∧ InB (fun z => w.heap.size ≤ z) r ∧ Keep All w w' := by
  refine enter (fn := Tryd.f17) (n := 18) Tryd.func17 rfl rfl (by simp) ?_
  refine W_seq ?_
  refine W_region ?_
  refine o_box rfl rfl rfl ?_; intro w1 b1 e1 hB1 hk1 hs1
  have hB1 : Blk w1 b1 (dgR key) 24 := hB1
  refine o_asc rfl ?_
  refine ops_nil ?_
  refine W_seq ?_
  refine W_seq ?_
  refine W_region ?_
  refine op_run (r_loadA (dgR key) rfl rfl rfl (by first | rfl | (rw [binV_len]; rfl) | (rw [dgR_len]; rfl) | (rw [refR_len]; rfl) | (rw [secR_len]; rfl) | (rw [List.length_map, tagF_len]; rfl) | rfl) (hB1.all)) rfl ?_
  refine o_mvc rfl ?_
  refine ops_nil ?_
  refine W_block ?_
  refine W_loop [2, 6] [2, 4, 6, 7, 8, 9, 10, 11, 12, 13, 14, 15, 16] (fun vs w' => ∃ (i : Nat) (u : Value), vs = [u, .int .i64 i] ∧ i ≤ 32 ∧ OwnB w' 5 u (nibs (key.val.take i)) ∧ InB (fun z => w1.heap.size ≤ z) u ∧ Keep All w1 w') (fun vs _ => match vs with | [_, .int _ y] => 32 - y.toNat | _ => 0) ⟨0, _, rfl, Nat.zero_le _, own_nil _ _ _, InB.nil, Keep.refl _⟩ ?_
  rintro J3 vs w3 ⟨i, u, rfl, hi, hO, hin, hk3⟩ -
  refine W_seq ?_
  refine W_region ?_
  refine op_run (r_lss rfl rfl) rfl ?_
  refine ops_nil ?_
  refine W_seq ?_
  refine W_cond_p rfl (fun h4 => ?_) (fun h4 => ?_)
  · refine W_skip ?_
    refine W_seq ?_
    refine W_block ?_
    refine W_seq ?_
    refine W_region ?_
    have hil : i < key.val.length := by rw [key.2]; omega
    obtain ⟨x, hx⟩ : ∃ x, key.val[i]? = some x := ⟨_, List.getElem?_eq_getElem hil⟩
    have htk : key.val.take (i + 1) = key.val.take i ++ [x] := by rw [List.take_succ_eq_append_getElem hil, (List.getElem?_eq_some_iff.1 hx).2]
    have hinc := inc64' i (by omega)
    have hnl := nibs_len (key.val.take i)
    rw [List.length_take, key.2, Nat.min_eq_left (by omega)] at hnl
    refine op_run (r_index1 (v := c8 x) rfl rfl rfl rfl rfl rfl (by omega) (by omega) (by rw [Int.toNat_natCast]; unfold dgR; rw [List.getElem?_map, hx]; rfl)) rfl ?_
    refine o_ast rfl ?_
    refine ops_nil ?_
    refine W_region ?_
    refine o_mvt rfl ?_
    refine o_mvt rfl ?_
    refine op_run ((r_shr rfl rfl (by decide)).val (congrArg (Value.int .u8) (show ((x.toNat : Nat) : Int).fdiv (2 ^ (min (4 : Int).toNat IntKind.u8.bits)) = (((hiN x).toNat : Nat) : Int) from by rw [Int.fdiv_eq_ediv_of_nonneg _ (by decide), hiN_nat]; rfl))) rfl ?_
    refine o_mvt rfl ?_
    refine op_run ((r_and rfl rfl).val (congrArg (Value.int .u8) (show bitw .and .u8 ((x.toNat : Nat) : Int) 15 = (((loN x).toNat : Nat) : Int) from by rw [show (15 : Int) = ((15 : Nat) : Int) from rfl, bitw_and rfl _ _ x.toNat_lt (by decide), loN_nat, show 15 = 2 ^ 4 - 1 from rfl, Nat.and_two_pow_sub_one_eq_mod]))) rfl ?_
    refine o_bsL (([hiN x, loN x].map c8)) rfl rfl rfl rfl rfl rfl rfl rfl rfl ?_; intro w6 b6 e6 hB6 hk6 hs6
    have hS6 : Sl w6 (.slice (some ⟨b6, 0, none⟩) 2 2) 2 1 ([hiN x, loN x].map c8) := (Own.blk (n := 2) (sz := 1) hB6 rfl (by unfold maxLen; omega)).sl
    have hz3 := hk3.size
    refine o_appS (v := u) rfl rfl hS6 rfl ti_u8 rfl rfl (hO.keep hk6 (fun _ _ => trivial)) (all_c8 _) (by unfold maxLen; omega) (by omega) rfl ?_; intro v7 w7 hown7 hk7 hb7
    have hO7 : OwnB w7 5 v7 (nibs (key.val.take (i + 1))) := by rw [htk, nibs_snoc]; exact OwnB.app (ys := [hiN x, loN x]) hown7
    refine o_ast rfl ?_
    refine ops_nil ?_
    refine W_region ?_
    refine op_run (r_add rfl rfl) rfl ?_
    refine o_mvt rfl ?_
    refine ops_nil ?_
    refine ⟨by (repeat (first | with_reducible exact offM_refl _ _ | refine offM_updc rfl ?_ | refine offM_upd rfl ?_ | refine offM_updo rfl ?_ | refine offM_updo_none ?_ | refine offM_head rfl rfl ?_)), ⟨i + 1, v7, congrArg (fun z : Int => [v7, Value.int .i64 z]) hinc, by omega, hO7, fun z hz => ?_, (hk3.trans hk6).own hk7 (fun z hz _ => hin z hz)⟩, ?_⟩
    · rcases hb7 z hz with h | h
      · exact hin z h
      · have := hk6.size; omega
    · show 32 - (IntKind.i64.wrap ((i : Int) + 1)).toNat < 32 - (i : Int).toNat
      rw [hinc]; omega
  · refine W_exit ?_
    refine W_seq ?_
    refine W_region ?_
    refine o_mvt rfl ?_
    refine o_ast rfl ?_
    refine ops_nil ?_
    refine W_ret ?_
    have hi32 : i = 32 := by omega
    subst hi32
    rw [show key.val.take 32 = key.val from List.take_of_length_le (by rw [key.2]; exact Nat.le_refl _)] at hO
    refine ret1 u rfl ?_ ?_; rfl
    exact ⟨hO, hin.mono fun z h => by have := hk1.size; omega, hk1.trans hk3⟩
theorem tr_common (w : World) (va vb : Value) (a b : List UInt8) (ha : By w va a) (hb : By w vb b) : Ret Tryd.prog 29 [va, vb].toArray w fun r w' => r = .int .i64 (comm a b : Nat) ∧ Keep All w w' := by
  obtain ⟨a0, c0, rfl, hc0, hcm0⟩ := ha.form
  obtain ⟨b0, d0, rfl, hd0, hdm0⟩ := hb.form
  refine enter (fn := Tryd.f29) (n := 28) Tryd.func29 rfl rfl (by simp) ?_
  refine W_seq ?_
  refine W_region ?_
  refine o_asc rfl ?_
  refine ops_nil ?_
  refine W_seq ?_
  refine W_region ?_
  refine o_mvt rfl ?_
  refine op_run (r_len rfl rfl rfl) rfl ?_
  refine o_mvt rfl ?_
  refine op_run (r_len rfl rfl rfl) rfl ?_
  refine op_run ((r_min rfl rfl).val (congrArg (Value.int .i64) (show (if (b.length : Int) < (a.length : Int) then (b.length : Int) else (a.length : Int)) = ((min a.length b.length : Nat) : Int) from by split <;> omega))) rfl ?_
  refine o_ast rfl ?_
  refine ops_nil ?_
  refine W_seq ?_
  refine W_seq ?_
  refine W_region ?_
  refine o_mvt rfl ?_
  refine o_mvc rfl ?_
  refine ops_nil ?_
  refine W_block ?_
  refine W_loop [13] [4, 6, 13, 14, 15, 16, 17, 18, 19, 20, 21, 22, 23, 24, 25, 26] (fun vs w' => ∃ k : Nat, vs = [.int .i64 k] ∧ k ≤ min a.length b.length ∧ a.take k = b.take k ∧ Keep All w w') (fun vs _ => match vs with | [.int _ y] => min a.length b.length - y.toNat | _ => 0) ⟨0, rfl, Nat.zero_le _, by simp, Keep.refl _⟩ ?_
  rintro J1 vs w1 ⟨k, rfl, hk, htk, hk1⟩ -
  refine W_seq ?_
  refine W_region ?_
  refine op_run (r_lss rfl rfl) rfl ?_
  refine ops_nil ?_
  refine W_seq ?_
  refine W_cond_p rfl (fun h2 => ?_) (fun h2 => ?_)
  · refine W_skip ?_
    refine W_seq ?_
    refine W_block ?_
    refine W_seq ?_
    refine W_region ?_
    refine o_mvt rfl ?_
    refine o_ast rfl ?_
    refine ops_nil ?_
    refine W_seq ?_
    have hka : k < a.length := by omega
    have hkb : k < b.length := by omega
    obtain ⟨x, hx⟩ : ∃ x, a[k]? = some x := ⟨_, List.getElem?_eq_getElem hka⟩
    obtain ⟨y, hy⟩ : ∃ y, b[k]? = some y := ⟨_, List.getElem?_eq_getElem hkb⟩
    obtain ⟨bp, op, cp, ep, _, _, hcx⟩ := (Sl.k ha hk1).at (by omega)
    cases ep
    obtain ⟨bq, oq, cq, eq_, _, _, hcy⟩ := (Sl.k hb hk1).at (by omega)
    cases eq_
    refine W_quiet (Keep All w1) (by kernel_rfl) (by kernel_rfl) (Keep.drawn _) ?_
    refine q_mvt rfl ?_
    refine q_mvt rfl ?_
    refine q_run (fun _ _ => r_idxS1 rfl rfl rfl rfl (by omega) (by omega)) rfl ?_
    refine q_run (fun _ hk => r_load (v := c8 x) rfl rfl rfl (hk.cell (by rw [Int.toNat_natCast]; exact hcx k _ (by rw [List.getElem?_map, hx]; rfl)) trivial)) rfl ?_
    refine q_mvt rfl ?_
    refine q_mvt rfl ?_
    refine q_run (fun _ _ => r_idxS1 rfl rfl rfl rfl (by omega) (by omega)) rfl ?_
    refine q_run (fun _ hk => r_load (v := c8 y) rfl rfl rfl (hk.cell (by rw [Int.toNat_natCast]; exact hcy k _ (by rw [List.getElem?_map, hy]; rfl)) trivial)) rfl ?_
    refine q_run (fun _ _ => (r_neq rfl rfl)) rfl ?_
    refine q_nil ?_; intro w8 hk8
    refine W_cond_p rfl (fun h9 => ?_) (fun h9 => ?_)
    · refine W_seq ?_
      refine W_region ?_
      refine o_mvt rfl ?_
      refine o_ast rfl ?_
      refine ops_nil ?_
      refine W_ret ?_
      refine ret1 (.int .i64 k) rfl ?_ ?_; rfl
      have hne : x ≠ y := fun e => h9 (by rw [e])
      exact ⟨by rw [comm_eq k a b htk (by omega) (by omega) (.inr (.inr (by rw [hx, hy]; exact fun h => hne (Option.some.inj h))))], hk1.trans hk8⟩
    · refine W_skip ?_
      refine W_region ?_
      refine op_run (r_add rfl rfl) rfl ?_
      refine o_mvt rfl ?_
      refine ops_nil ?_
      have hxy : x = y := UInt8.toNat_inj.1 (by have := Decidable.not_not.1 h9; omega)
      have hinc := inc64' k (by unfold maxLen at hcm0; omega)
      refine ⟨by (repeat (first | with_reducible exact offM_refl _ _ | refine offM_updc rfl ?_ | refine offM_upd rfl ?_ | refine offM_updo rfl ?_ | refine offM_updo_none ?_ | refine offM_head rfl rfl ?_)), ⟨k + 1, congrArg (fun z : Int => [Value.int .i64 z]) hinc, by omega, ?_, hk1.trans hk8⟩, ?_⟩
      · rw [List.take_succ_eq_append_getElem hka, List.take_succ_eq_append_getElem hkb, htk, (List.getElem?_eq_some_iff.1 hx).2, (List.getElem?_eq_some_iff.1 hy).2, hxy]
      · show min a.length b.length - (IntKind.i64.wrap ((k : Int) + 1)).toNat < min a.length b.length - (k : Int).toNat
        rw [hinc]; omega
  · refine W_exit ?_
    refine W_seq ?_
    refine W_region ?_
    refine o_mvt rfl ?_
    refine o_ast rfl ?_
    refine ops_nil ?_
    refine W_ret ?_
    refine ret1 (.int .i64 (min a.length b.length : Nat)) rfl ?_ ?_; rfl
    have hke : k = min a.length b.length := by omega
    exact ⟨by rw [comm_eq k a b htk (by omega) (by omega) (by omega), hke], hk1⟩
theorem tr_with (w : World) (v vk : Value) (beg : List UInt8) (kids : Nat → Tre) (at_ : UInt8) (hat : at_.toNat < 16) (K : Tre) (hv : NodeIn w (.branch beg kids) v) (hK : NodeIn w K vk) :
    Ret Tryd.prog 30 [v, .int .u8 at_.toNat, vk].toArray w fun r w' => NodeIn w' (.branch beg fun i => if i = at_.toNat then K else kids i) r ∧ Keep All w w' := by
  obtain ⟨b, vb, vv, bk, ps, rfl, h1, h2, h3, h4, h5, h6⟩ := hv
  obtain ⟨ak, rfl, _⟩ := hK.ptr
  obtain ⟨ab, cb, rfl, _, _⟩ := h2.form
  refine enter (fn := Tryd.f30) (n := 23) Tryd.func30 rfl rfl (by simp) ?_
  refine W_seq ?_
  refine W_region ?_
  refine o_asc rfl ?_
  refine ops_nil ?_
  refine W_seq ?_
  refine W_region ?_
  refine o_mvt rfl ?_
  refine op_run (r_nilCheck rfl) rfl ?_
  refine op_run (r_fieldAddr rfl rfl rfl rfl rfl) rfl ?_
  refine op_run (r_load rfl rfl rfl (h1.cell rfl)) rfl ?_
  refine op_run (r_nilCheck rfl) rfl ?_
  refine op_run (r_loadA (ps) rfl rfl rfl (by first | rfl | (rw [binV_len]; rfl) | (rw [dgR_len]; rfl) | (rw [refR_len]; rfl) | (rw [secR_len]; rfl) | (rw [List.length_map, tagF_len]; rfl) | (rw [h5]; rfl)) (h4.all)) rfl ?_
  refine o_alloc rfl rfl rfl ?_; intro w3 b3 e3 hB3 hk3 hs3
  refine o_storeA (cs := ps) rfl rfl (by first | rfl | exact binV_one _ | exact dgR_one _ | exact refR_one _ | exact secR_one _ | exact all_c8 _ | exact nodes_one h6) (by first | rfl | (rw [binV_len]; rfl) | (rw [dgR_len]; rfl) | (rw [refR_len]; rfl) | (rw [secR_len]; rfl) | (rw [List.length_map, tagF_len]; rfl) | (rw [h5]; rfl)) hB3 (by (rw [h5]; exact Nat.le_refl _)) rfl ?_; intro w4 hB4 hk4 hs4
  have hB4 : Blk w4 b3 ps 71 := by
    have h := hB4
    rwa [splice_all (by rw [h5]; rfl)] at h
  have hk04 : Keep All w w4 := hk3.new hk4 (by omega)
  refine ops_nil ?_
  refine W_seq ?_
  refine W_region ?_
  refine o_mvt rfl ?_
  refine o_mvt rfl ?_
  refine op_run (r_idxA1 rfl rfl rfl rfl (by omega) (by omega)) rfl ?_
  refine o_store (v := .pointer ak) rfl rfl rfl rfl hB4 (by (rw [h5, Int.toNat_natCast]; omega)) rfl ?_; intro w6 hB6 hk6 hs6
  have hB6 : Blk w6 b3 (ps.set at_.toNat (.pointer ak)) 71 := by
    have h := hB6
    rwa [Int.toNat_natCast, Nat.zero_add] at h
  have hk06 : Keep All w w6 := hk04.new hk6 (by omega)
  refine ops_nil ?_
  refine W_seq ?_
  refine W_region ?_
  refine o_mvt rfl ?_
  refine op_run (r_nilCheck rfl) rfl ?_
  refine op_run (r_fieldAddr rfl rfl rfl rfl rfl) rfl ?_
  refine op_run (r_load rfl rfl rfl ((hk06.blk' h1 trivial).cell rfl)) rfl ?_
  refine op_run (r_build ([.slice ab beg.length cb, .slice none 0 0, .pointer (some ⟨b3, 0, none⟩)]) (_) ([(0, .slice ab beg.length cb), (2, .pointer (some ⟨b3, 0, none⟩))]) rfl rfl rfl rfl rfl (rfl)) rfl ?_
  refine o_box (cs := [.slice ab beg.length cb, .slice none 0 0, .pointer (some ⟨b3, 0, none⟩)]) rfl rfl rfl ?_; intro w9 b9 e9 hB9 hk9 hs9
  refine o_ast rfl ?_
  refine ops_nil ?_
  refine W_ret ?_
  refine ret1 (.pointer (some ⟨b9, 0, none⟩)) rfl ?_ ?_; rfl
  have hk09 := hk06.trans hk9
  refine ⟨⟨b9, _, _, b3, _, rfl, hB9, Sl.k h2 hk09, rfl, hk9.blk' hB6 trivial, by rw [List.length_set, h5], fun i p hp => ?_⟩, hk09⟩
  by_cases e : i = at_.toNat
  · subst e
    rw [List.getElem?_set_self (by rw [h5]; exact hat)] at hp
    injection hp with hp; subst hp
    show NodeIn w9 (if at_.toNat = at_.toNat then K else _) _
    rw [if_pos rfl]; exact hK.k hk09
  · rw [List.getElem?_set_ne (fun h => e h.symm)] at hp
    show NodeIn w9 (if i = at_.toNat then K else kids i) _
    rw [if_neg e]; exact (h6 i p hp).k hk09
end Go.Proofs.YtpiidddccmohdabDoor.B
/-! trie: put. -/
namespace Go.Proofs.YtpiidddccmohdabDoor.B
open Go
set_option linter.unusedVariables false
set_option maxHeartbeats 2000000
set_option maxRecDepth 100000
attribute [local irreducible] W OpsW OpsQ retP
theorem Sl.one1 {w : World} {v : Value} {n sz : Nat} {cs : List Value} (h : Sl w v n sz cs) : one v = true := by obtain ⟨_, _, rfl, _⟩ := h.form; rfl
theorem By.dropS {w : World} {a : Option Addr} {n c k : Nat} {xs : List UInt8} (h : By w (.slice a n c) xs) (hk : k ≤ n) : By w (subSl a 1 k n c) (xs.drop k) := by
  obtain ⟨a', c', e, h1, h2⟩ := h.form
  injection e with e1 e2 e3; subst e1; subst e2; subst e3
  have := Sl.sub (l := k) (h := xs.length) (m := c) h hk (Nat.le_refl _) h1 (Nat.le_refl _)
  rw [Nat.mul_one, Nat.mul_one, List.take_of_length_le (by simp), ← List.map_drop] at this
  unfold By
  rw [List.length_drop]; exact this
theorem By.takeS {w : World} {a : Option Addr} {n c k : Nat} {xs : List UInt8} (h : By w (.slice a n c) xs) (hk : k ≤ n) : By w (subSl a 1 0 k c) (xs.take k) := by
  obtain ⟨a', c', e, h1, h2⟩ := h.form
  injection e with e1 e2 e3; subst e1; subst e2; subst e3
  have := Sl.sub (l := 0) (h := k) (m := c) h (Nat.zero_le _) hk (by omega) (Nat.le_refl _)
  rw [List.drop_zero, Nat.sub_zero, ← List.map_take, Nat.mul_one] at this
  unfold By
  rw [List.length_take, Nat.min_eq_left hk]; exact this
theorem putT_split {T : Tre} {rest val : List UInt8} (hT : T ≠ .no) (h : comm (begT T) rest < (begT T).length) : putT T rest val = splitT T rest val (comm (begT T) rest) := by
  cases T with
  | no => exact absurd rfl hT
  | leaf b v => rw [putT]; exact if_pos h
  | branch b k => rw [putT]; exact if_pos h
theorem wf_beg {T : Tre} {L : Nat} (h : T.wf L) : (begT T).length ≤ L ∧ nib16 (begT T) := by
  cases T with
  | no => exact ⟨Nat.zero_le _, fun x h => by cases h⟩
  | leaf b v => exact ⟨by rw [show (begT (.leaf b v)).length = L from h.1]; exact Nat.le_refl _, h.2⟩
  | branch b k => exact ⟨Nat.le_of_lt h.1, h.2.1⟩
def PutIH (L : Nat) : Prop := ∀ (w : World) (T : Tre) (v vr vv : Value) (rest val : List UInt8), L ≤ 64 → T.wf L → rest.length = L → nib16 rest → NodeIn w T v → By w vr rest → By w vv val →
  Ret Tryd.prog 16 [v, vr, vv].toArray w fun r w' => NodeIn w' (putT T rest val) r ∧ Keep All w w'
theorem tr_put1 (L : Nat) (IH : ∀ L', L' < L → PutIH L') : PutIH L := by
  intro w T v vr vv rest val hL64 hwf hrl hrn hv hr hval
  obtain ⟨a, rfl, han⟩ := hv.ptr
  obtain ⟨a0, c0, rfl, hc0, hcm0⟩ := hr.form
  obtain ⟨a1, c1, rfl, hc1, hcm1⟩ := hval.form
  refine enter (fn := Tryd.f16) (n := 117) Tryd.func16 rfl rfl (by simp) ?_
  refine W_seq ?_
  refine W_region ?_
  refine o_asc rfl ?_
  refine ops_nil ?_
  refine W_seq ?_
  refine W_seq ?_
  refine W_region ?_
  refine o_mvt rfl ?_
  refine op_run (r_isNilP rfl rfl) rfl ?_
  refine ops_nil ?_
  refine W_cond rfl (fun h1 => ?_) (fun h1 => ?_)
  · refine W_seq ?_
    refine W_region ?_
    refine o_mvt rfl ?_
    refine o_mvt rfl ?_
    have hTn : T = .no := han.1 (by cases a with
      | none => rfl
      | some x => cases h1)
    subst hTn
    refine op_run (r_build ([.slice a0 rest.length c0, .slice a1 val.length c1, .pointer none]) (_) ([(0, .slice a0 rest.length c0), (1, .slice a1 val.length c1)]) rfl rfl rfl rfl rfl (rfl)) rfl ?_
    refine o_box (cs := [.slice a0 rest.length c0, .slice a1 val.length c1, .pointer none]) rfl rfl rfl ?_; intro w3 b3 e3 hB3 hk3 hs3
    refine o_ast rfl ?_
    refine ops_nil ?_
    refine W_ret ?_
    refine ret1 (.pointer (some ⟨b3, 0, none⟩)) rfl ?_ ?_; rfl
    exact ⟨⟨b3, _, _, rfl, hB3, Sl.k hr hk3, Sl.k hval hk3⟩, hk3⟩
  · refine W_skip ?_
    refine W_seq ?_
    refine W_region ?_
    have hT : T ≠ .no := fun e => by
      have := han.2 e
      subst this; cases h1
    obtain ⟨b, vb, vvn, pk, ev_, hB, hb, hvn, hcase⟩ := hv.open hT
    cases ev_
    obtain ⟨ab, cb, rfl, hcb0, hcbm⟩ := hb.form
    have hbl := wf_beg hwf
    have hcl := comm_le (begT T) rest
    have hinc := inc64' (comm (begT T) rest) (by omega)
    refine o_mvt rfl ?_
    refine op_run (r_nilCheck rfl) rfl ?_
    refine op_run (r_fieldAddr rfl rfl rfl rfl rfl) rfl ?_
    refine op_run (r_load rfl rfl rfl (hB.cell rfl)) rfl ?_
    refine o_mvt rfl ?_
    refine op_call rfl rfl rfl (tr_common w _ _ (begT T) rest hb hr) ?_; rintro v6 w6 ⟨rfl, hk6⟩
    refine o_ast rfl ?_
    refine ops_nil ?_
    refine W_seq ?_
    refine W_block ?_
    refine W_seq ?_
    refine W_region ?_
    refine o_mvt rfl ?_
    refine o_mvt rfl ?_
    refine op_run (r_nilCheck rfl) rfl ?_
    refine op_run (r_fieldAddr rfl rfl rfl rfl rfl) rfl ?_
    refine op_run (r_load rfl rfl rfl ((hk6.blk' hB trivial).cell rfl)) rfl ?_
    refine op_run (r_len rfl rfl rfl) rfl ?_
    refine op_run (r_lss rfl rfl) rfl ?_
    refine o_ast rfl ?_
    refine ops_nil ?_
    refine W_cond_p rfl (fun h8 => ?_) (fun h8 => ?_)
    · refine W_seq ?_
      refine W_region ?_
      refine o_mvt rfl ?_
      refine o_mvt rfl ?_
      have hlt : comm (begT T) rest < (begT T).length := by omega
      obtain ⟨p, x, y, bs, rs, hbt, rfl, hxy, hpl⟩ := splits hlt (by omega)
      have hx16 : x.toNat < 16 := hbl.2 x (by rw [hbt]; exact List.mem_append.2 (.inr (List.mem_cons_self ..)))
      have hy16 : y.toNat < 16 := hrn y (List.mem_append.2 (.inr (List.mem_cons_self ..)))
      obtain ⟨aT, cT, cT2, hsub⟩ : ∃ aT cT cT2, subSl a0 1 0 (comm (begT T) (p ++ y :: rs)) c0 = .slice aT cT cT2 := by
        obtain ⟨x1, x2, e, _⟩ := (By.takeS hr hcl.2).form; exact ⟨_, _, _, e⟩
      have hBT : By w (.slice aT cT cT2) p := by
        have := By.takeS hr hcl.2
        rw [hsub] at this
        rwa [show (p ++ y :: rs).take (comm (begT T) (p ++ y :: rs)) = p from by rw [← hpl]; exact List.take_left] at this
      refine op_run (r_sliceS_hi rfl rfl rfl rfl (by omega) (by omega)) rfl ?_
      refine op_run (r_buildA ((List.replicate 16 (.pointer none))) (_) ([]) rfl rfl rfl rfl rfl (rfl)) rfl ?_
      refine o_box rfl rfl rfl ?_; intro w11 b11 e11 hB11 hk11 hs11
      refine op_run (r_build ([.slice aT cT cT2, .slice none 0 0, .pointer (some ⟨b11, 0, none⟩)]) (_) ([(0, subSl a0 1 0 (comm (begT T) (p ++ y :: rs)) c0), (2, .pointer (some ⟨b11, 0, none⟩))]) rfl rfl rfl rfl rfl ((by rw [hsub]; rfl))) rfl ?_
      refine o_box (cs := [.slice aT cT cT2, .slice none 0 0, .pointer (some ⟨b11, 0, none⟩)]) rfl rfl rfl ?_; intro w13 b13 e13 hB13 hk13 hs13
      have hB11 : Blk w11 b11 (List.replicate 16 (.pointer none)) 71 := hB11
      have hB13 : Blk w13 b13 [.slice aT cT cT2, .slice none 0 0, .pointer (some ⟨b11, 0, none⟩)] 69 := hB13
      have hk013 : Keep All w w13 := (hk6.trans hk11).trans hk13
      have hz6 := hk6.size
      have hne : b13 ≠ b11 := by omega
      obtain ⟨bp, op, cp, ep, _, _, hcx⟩ := hb.at (by rw [hbt, List.length_append, List.length_cons]; omega)
      cases ep
      obtain ⟨bq, oq, cq, eq_, _, _, hcy⟩ := hr.at (by rw [List.length_append, List.length_cons]; omega)
      cases eq_
      have hgx : ((begT T).map c8)[comm (begT T) (p ++ y :: rs)]? = some (c8 x) := by rw [← hpl, hbt, List.getElem?_map, List.getElem?_append_right (Nat.le_refl _), Nat.sub_self]; rfl
      have hgy : ((p ++ y :: rs).map c8)[comm (begT T) (p ++ y :: rs)]? = some (c8 y) := by rw [← hpl, List.getElem?_map, List.getElem?_append_right (Nat.le_refl _), Nat.sub_self]; rfl
      have hd1 := By.dropS (k := comm (begT T) (p ++ y :: rs) + 1) hb (by omega)
      have hd2 := By.dropS (k := comm (begT T) (p ++ y :: rs) + 1) hr (by omega)
      obtain ⟨aX, cX, eX, _⟩ := hd1.form
      obtain ⟨aY, cY, eY, _⟩ := hd2.form
      rw [eX] at hd1
      rw [eY] at hd2
      obtain ⟨nX, hnX⟩ : ∃ nX, nX = ((begT T).drop (comm (begT T) (p ++ y :: rs) + 1)).length := ⟨_, rfl⟩
      obtain ⟨nY, hnY⟩ : ∃ nY, nY = ((p ++ y :: rs).drop (comm (begT T) (p ++ y :: rs) + 1)).length := ⟨_, rfl⟩
      rw [← hnX] at eX
      rw [← hnY] at eY
      refine o_ast rfl ?_
      refine ops_nil ?_
      refine W_seq ?_
      refine W_held (fun w' => Keep All w w' ∧ Blk w' b13 [.slice aT cT cT2, .slice none 0 0, .pointer (some ⟨b11, 0, none⟩)] 69) (by kernel_rfl) (⟨hk013.trans (Keep.drawn w13), (Keep.drawn w13).blk' hB13 trivial⟩) (fun hS => ?_)
      refine any_mvt 0 rfl (by kernel_rfl) (by kernel_rfl) (by kernel_rfl) rfl hS ?_
      refine any_run 1 (fun w' hS' => (r_nilCheck rfl)) rfl (by kernel_rfl) (by kernel_rfl) (by kernel_rfl) rfl hS ?_
      refine any_run 2 (fun w' hS' => (r_fieldAddr rfl rfl rfl rfl rfl)) rfl (by kernel_rfl) (by kernel_rfl) (by kernel_rfl) rfl hS ?_
      refine any_run 3 (fun w' hS' => (r_load rfl rfl rfl ((hS'.2.cell rfl)))) rfl (by kernel_rfl) (by kernel_rfl) (by kernel_rfl) rfl hS ?_
      refine any_mvt 4 rfl (by kernel_rfl) (by kernel_rfl) (by kernel_rfl) rfl hS ?_
      refine any_run 5 (fun w' hS' => (r_nilCheck rfl)) rfl (by kernel_rfl) (by kernel_rfl) (by kernel_rfl) rfl hS ?_
      refine any_run 6 (fun w' hS' => (r_fieldAddr rfl rfl rfl rfl rfl)) rfl (by kernel_rfl) (by kernel_rfl) (by kernel_rfl) rfl hS ?_
      refine any_run 7 (fun w' hS' => (r_load rfl rfl rfl (((hS'.1.blk' hB trivial).cell rfl)))) rfl (by kernel_rfl) (by kernel_rfl) (by kernel_rfl) rfl hS ?_
      refine any_mvt 8 rfl (by kernel_rfl) (by kernel_rfl) (by kernel_rfl) rfl hS ?_
      refine any_run 9 (fun w' hS' => (r_idxS1 rfl rfl rfl rfl (by omega) (by omega))) rfl (by kernel_rfl) (by kernel_rfl) (by kernel_rfl) rfl hS ?_
      refine any_run 10 (fun w' hS' => (r_load (v := c8 x) rfl rfl rfl (hS'.1.cell (by rw [Int.toNat_natCast]; exact hcx _ _ hgx) trivial))) rfl (by kernel_rfl) (by kernel_rfl) (by kernel_rfl) rfl hS ?_
      refine any_mvt 11 rfl (by kernel_rfl) (by kernel_rfl) (by kernel_rfl) rfl hS ?_
      refine any_run 12 (fun w' hS' => (r_nilCheck rfl)) rfl (by kernel_rfl) (by kernel_rfl) (by kernel_rfl) rfl hS ?_
      refine any_run 13 (fun w' hS' => (r_fieldAddr rfl rfl rfl rfl rfl)) rfl (by kernel_rfl) (by kernel_rfl) (by kernel_rfl) rfl hS ?_
      refine any_run 14 (fun w' hS' => (r_load rfl rfl rfl (((hS'.1.blk' hB trivial).cell rfl)))) rfl (by kernel_rfl) (by kernel_rfl) (by kernel_rfl) rfl hS ?_
      refine any_mvt 15 rfl (by kernel_rfl) (by kernel_rfl) (by kernel_rfl) rfl hS ?_
      refine any_run 16 (fun w' hS' => ((r_add rfl rfl).val (congrArg (Value.int .i64) hinc))) rfl (by kernel_rfl) (by kernel_rfl) (by kernel_rfl) rfl hS ?_
      refine any_run 17 (fun w' hS' => (r_sliceS_lo rfl rfl rfl rfl (by omega) (by omega))) rfl (by kernel_rfl) (by kernel_rfl) (by kernel_rfl) rfl hS ?_
      refine any_mvt 18 rfl (by kernel_rfl) (by kernel_rfl) (by kernel_rfl) rfl hS ?_
      refine any_run 19 (fun w' hS' => (r_nilCheck rfl)) rfl (by kernel_rfl) (by kernel_rfl) (by kernel_rfl) rfl hS ?_
      refine any_run 20 (fun w' hS' => (r_fieldAddr rfl rfl rfl rfl rfl)) rfl (by kernel_rfl) (by kernel_rfl) (by kernel_rfl) rfl hS ?_
      refine any_run 21 (fun w' hS' => (r_load rfl rfl rfl (((hS'.1.blk' hB trivial).cell rfl)))) rfl (by kernel_rfl) (by kernel_rfl) (by kernel_rfl) rfl hS ?_
      refine any_mvt 22 rfl (by kernel_rfl) (by kernel_rfl) (by kernel_rfl) rfl hS ?_
      refine any_run 23 (fun w' hS' => (r_nilCheck rfl)) rfl (by kernel_rfl) (by kernel_rfl) (by kernel_rfl) rfl hS ?_
      refine any_run 24 (fun w' hS' => (r_fieldAddr rfl rfl rfl rfl rfl)) rfl (by kernel_rfl) (by kernel_rfl) (by kernel_rfl) rfl hS ?_
      refine any_run 25 (fun w' hS' => (r_load rfl rfl rfl (((hS'.1.blk' hB trivial).cell rfl)))) rfl (by kernel_rfl) (by kernel_rfl) (by kernel_rfl) rfl hS ?_
      refine any_run 26 (fun w' hS' => (r_build ([.slice aX nX cX, vvn, .pointer pk]) (_) ([(0, subSl (some ⟨bp, op, none⟩) 1 (comm (begT T) (p ++ y :: rs) + 1) (begT T).length cb), (1, vvn), (2, .pointer pk)]) rfl rfl rfl rfl rfl ((by rw [eX]; clear hB hcase hv; cases vvn <;> (try rfl); all_goals cases hvn)))) rfl (by kernel_rfl) (by kernel_rfl) (by kernel_rfl) rfl hS ?_
      refine any_run 28 (fun w' hS' => (r_nilCheck rfl)) rfl (by kernel_rfl) (by kernel_rfl) (by kernel_rfl) rfl hS ?_
      refine any_one 27 (by kernel_rfl) (one_of rfl ?_)
      refine o_box (cs := [.slice aX nX cX, vvn, .pointer pk]) rfl rfl rfl ?_; intro w24 b24 e24 hB24 hk24 hs24
      have hne24 : b24 ≠ b11 := by have e : b24 = w13.heap.size := e24; omega
      refine ops_nil ⟨⟨hS.1.trans hk24, hk24.blk' hS.2 trivial⟩, fun hS => ?_⟩
      refine any_run 29 (fun w' hS' => (r_idxA1 rfl rfl rfl rfl (by omega) (by omega))) rfl (by kernel_rfl) (by kernel_rfl) (by kernel_rfl) rfl hS ?_
      refine any_one 30 (by kernel_rfl) (one_of rfl ?_)
      refine o_store (v := (.pointer (some ⟨b24, 0, none⟩))) rfl rfl rfl rfl (hk24.blk' ((Keep.drawn w13).blk' (hk13.blk' hB11 trivial) trivial) trivial) (by (rw [List.length_replicate, Int.toNat_natCast]; omega)) rfl ?_; intro w27 hB27 hk27 hs27
      refine ops_nil ⟨⟨hS.1.new hk27 (by omega), hk27.blk' hS.2 hne⟩, fun hS => ?_⟩
      refine any_done (by kernel_rfl) ?_
      refine W_seq ?_
      refine W_held (fun w' => Keep All w w' ∧ Blk w' b13 [.slice aT cT cT2, .slice none 0 0, .pointer (some ⟨b11, 0, none⟩)] 69) (by kernel_rfl) (⟨hS.1.trans (Keep.drawn w27), (Keep.drawn w27).blk' hS.2 trivial⟩) (fun hS => ?_)
      refine any_mvt 0 rfl (by kernel_rfl) (by kernel_rfl) (by kernel_rfl) rfl hS ?_
      refine any_run 1 (fun w' hS' => (r_nilCheck rfl)) rfl (by kernel_rfl) (by kernel_rfl) (by kernel_rfl) rfl hS ?_
      refine any_run 2 (fun w' hS' => (r_fieldAddr rfl rfl rfl rfl rfl)) rfl (by kernel_rfl) (by kernel_rfl) (by kernel_rfl) rfl hS ?_
      refine any_run 3 (fun w' hS' => (r_load rfl rfl rfl ((hS'.2.cell rfl)))) rfl (by kernel_rfl) (by kernel_rfl) (by kernel_rfl) rfl hS ?_
      refine any_mvt 4 rfl (by kernel_rfl) (by kernel_rfl) (by kernel_rfl) rfl hS ?_
      refine any_mvt 5 rfl (by kernel_rfl) (by kernel_rfl) (by kernel_rfl) rfl hS ?_
      refine any_run 6 (fun w' hS' => (r_idxS1 rfl rfl rfl rfl (by omega) (by omega))) rfl (by kernel_rfl) (by kernel_rfl) (by kernel_rfl) rfl hS ?_
      refine any_run 7 (fun w' hS' => (r_load (v := c8 y) rfl rfl rfl (hS'.1.cell (by rw [Int.toNat_natCast]; exact hcy _ _ hgy) trivial))) rfl (by kernel_rfl) (by kernel_rfl) (by kernel_rfl) rfl hS ?_
      refine any_mvt 8 rfl (by kernel_rfl) (by kernel_rfl) (by kernel_rfl) rfl hS ?_
      refine any_mvt 9 rfl (by kernel_rfl) (by kernel_rfl) (by kernel_rfl) rfl hS ?_
      refine any_run 10 (fun w' hS' => ((r_add rfl rfl).val (congrArg (Value.int .i64) hinc))) rfl (by kernel_rfl) (by kernel_rfl) (by kernel_rfl) rfl hS ?_
      refine any_run 11 (fun w' hS' => (r_sliceS_lo rfl rfl rfl rfl (by omega) (by omega))) rfl (by kernel_rfl) (by kernel_rfl) (by kernel_rfl) rfl hS ?_
      refine any_mvt 12 rfl (by kernel_rfl) (by kernel_rfl) (by kernel_rfl) rfl hS ?_
      refine any_run 13 (fun w' hS' => (r_build ([.slice aY nY cY, .slice a1 val.length c1, .pointer none]) (_) ([(0, subSl (some ⟨bq, oq, none⟩) 1 (comm (begT T) (p ++ y :: rs) + 1) (p ++ y :: rs).length c0), (1, .slice a1 val.length c1)]) rfl rfl rfl rfl rfl ((by rw [eY]; rfl)))) rfl (by kernel_rfl) (by kernel_rfl) (by kernel_rfl) rfl hS ?_
      refine any_run 15 (fun w' hS' => (r_nilCheck rfl)) rfl (by kernel_rfl) (by kernel_rfl) (by kernel_rfl) rfl hS ?_
      refine any_one 14 (by kernel_rfl) (one_of rfl ?_)
      refine o_box (cs := [.slice aY nY cY, .slice a1 val.length c1, .pointer none]) rfl rfl rfl ?_; intro w35 b35 e35 hB35 hk35 hs35
      have hne35 : b35 ≠ b11 := by have e : b35 = w27.heap.size := e35; have e2 : b24 = w13.heap.size := e24; omega
      refine ops_nil ⟨⟨hS.1.trans hk35, hk35.blk' hS.2 trivial⟩, fun hS => ?_⟩
      refine any_run 16 (fun w' hS' => (r_idxA1 rfl rfl rfl rfl (by omega) (by omega))) rfl (by kernel_rfl) (by kernel_rfl) (by kernel_rfl) rfl hS ?_
      refine any_one 17 (by kernel_rfl) (one_of rfl ?_)
      refine o_store (v := (.pointer (some ⟨b35, 0, none⟩))) rfl rfl rfl rfl (hk35.blk' ((Keep.drawn w27).blk' hB27 trivial) trivial) (by (rw [List.length_set, List.length_replicate, Int.toNat_natCast]; omega)) rfl ?_; intro w38 hB38 hk38 hs38
      refine ops_nil ⟨⟨hS.1.new hk38 (by omega), hk38.blk' hS.2 hne⟩, fun hS => ?_⟩
      refine any_done (by kernel_rfl) ?_
      refine W_seq ?_
      refine W_region ?_
      refine o_mvt rfl ?_
      refine o_ast rfl ?_
      refine ops_nil ?_
      refine W_ret ?_
      refine ret1 (.pointer (some ⟨b13, 0, none⟩)) rfl ?_ ?_; rfl
      refine ⟨?_, hS.1⟩
      have hdx : (begT T).drop (comm (begT T) (p ++ y :: rs) + 1) = bs := by rw [← hpl, hbt, drop_mid]
      have hdy : (p ++ y :: rs).drop (comm (begT T) (p ++ y :: rs) + 1) = rs := by rw [← hpl, drop_mid]
      rw [hdx] at hd1 hnX
      rw [hdy] at hd2 hnY
      rw [← hnX] at hd1
      have hX : By w (.slice aX nX cX) bs := by have h := hd1; rw [hnX] at h ⊢; exact h
      have hY : By w (.slice aY nY cY) rs := by have h := hd2; rw [hnY]; exact h
      have hB24' : Blk w38 b24 [.slice aX nX cX, vvn, .pointer pk] 69 := hk38.blk' (hk35.blk' ((Keep.drawn w27).blk' (hk27.blk' hB24 hne24) trivial) trivial) hne24
      have hB35' : Blk w38 b35 [.slice aY nY cY, .slice a1 val.length c1, .pointer none] 69 := hk38.blk' hB35 hne35
      have hcase' : (pk = none ∧ ∃ beg val, T = .leaf beg val ∧ By w38 vvn val) ∨ ∃ beg kids bk ps, T = .branch beg kids ∧ pk = some ⟨bk, 0, none⟩ ∧ Blk w38 bk ps 71 ∧ ps.length = 16 ∧ ∀ (i : Nat) (p : Value), ps[i]? = some p → NodeIn w38 (kids i) p := by
        rcases hcase with ⟨e, beg, v0, e2, h⟩ | ⟨beg, kids, bk, ps, e1, e2, h1, h2, h3⟩
        · exact .inl ⟨e, beg, v0, e2, Sl.k h hS.1⟩
        · exact .inr ⟨beg, kids, bk, ps, e1, e2, hS.1.blk' h1 trivial, h2, fun i p hp => (h3 i p hp).k hS.1⟩
      have hXN : NodeIn w38 (reB T bs) (.pointer (some ⟨b24, 0, none⟩)) := NodeIn.re hT (Sl.k hb hS.1) hvn hcase' (Sl.k hX hS.1) hB24'
      have hYN : NodeIn w38 (.leaf rs val) (.pointer (some ⟨b35, 0, none⟩)) := ⟨b35, _, _, rfl, hB35', Sl.k hY hS.1, Sl.k hval hS.1⟩
      rw [putT_split hT hlt, ← hpl, splitT_eq hbt]
      refine ⟨b13, _, _, b11, _, rfl, hS.2, Sl.k hBT hS.1, rfl, hB38, by simp, fun i q hq => ?_⟩
      rw [Nat.zero_add, Nat.zero_add, Int.toNat_natCast, Int.toNat_natCast] at hq
      show NodeIn w38 (if i = y.toNat then .leaf rs val else if i = x.toNat then reB T bs else .no) q
      by_cases hiy : i = y.toNat
      · subst hiy
        rw [List.getElem?_set_self (by simpa using hy16)] at hq
        injection hq with hq; subst hq
        rw [if_pos rfl]; exact hYN
      · rw [List.getElem?_set_ne (fun h => hiy h.symm)] at hq
        rw [if_neg hiy]
        by_cases hix : i = x.toNat
        · subst hix
          rw [List.getElem?_set_self (by simpa using hx16)] at hq
          injection hq with hq; subst hq
          rw [if_pos rfl]; exact hXN
        · rw [List.getElem?_set_ne (fun h => hix h.symm)] at hq
          rw [if_neg hix]
          exact List.eq_of_mem_replicate (List.mem_of_getElem? hq)
    · refine W_seq ?_
      refine W_region ?_
      refine o_mvt rfl ?_
      refine op_run (r_nilCheck rfl) rfl ?_
      refine op_run (r_fieldAddr rfl rfl rfl rfl rfl) rfl ?_
      refine op_run (r_load rfl rfl rfl ((hk6.blk' hB trivial).cell rfl)) rfl ?_
      refine op_run (r_isNilP rfl rfl) rfl ?_
      refine o_ast rfl ?_
      refine ops_nil ?_
      refine W_cond rfl (fun h42 => ?_) (fun h42 => ?_)
      · refine W_seq ?_
        refine W_region ?_
        refine o_mvt rfl ?_
        refine o_mvt rfl ?_
        have hpk : pk = none := by
          cases pk with
          | none => rfl
          | some x => cases h42
        subst hpk
        obtain ⟨beg, v0, rfl⟩ : ∃ beg v0, T = .leaf beg v0 := by
          rcases hcase with ⟨_, beg, v0, e, _⟩ | ⟨_, _, _, _, _, e, _⟩
          · exact ⟨_, _, e⟩
          · cases e
        refine op_run (r_build ([.slice a0 rest.length c0, .slice a1 val.length c1, .pointer none]) (_) ([(0, .slice a0 rest.length c0), (1, .slice a1 val.length c1)]) rfl rfl rfl rfl rfl (rfl)) rfl ?_
        refine o_box (cs := [.slice a0 rest.length c0, .slice a1 val.length c1, .pointer none]) rfl rfl rfl ?_; intro w44 b44 e44 hB44 hk44 hs44
        refine o_ast rfl ?_
        refine ops_nil ?_
        refine W_ret ?_
        refine ret1 (.pointer (some ⟨b44, 0, none⟩)) rfl ?_ ?_; rfl
        have hkk := hk6.trans hk44
        refine ⟨?_, hkk⟩
        rw [putT, if_neg (show ¬ comm beg rest < beg.length from fun h => h8 (by exact_mod_cast h))]
        exact ⟨b44, _, _, rfl, hB44, Sl.k hr hkk, Sl.k hval hkk⟩
      · refine W_skip ?_
        refine W_seq ?_
        obtain ⟨beg, kids, bk, ps, rfl, rfl, hBk, hps, hkids⟩ : ∃ beg kids bk ps, T = .branch beg kids ∧ pk = some ⟨bk, 0, none⟩ ∧ Blk w bk ps 71 ∧ ps.length = 16 ∧ ∀ (i : Nat) (p : Value), ps[i]? = some p → NodeIn w (kids i) p := by
          rcases hcase with ⟨rfl, _⟩ | h
          · cases h42
          · exact h
        have hce : comm beg rest = beg.length := by
          have h8 : ¬ ((comm beg rest : Int) < (beg.length : Int)) := h8
          have := hcl.1
          have : comm beg rest ≤ beg.length := this
          omega
        obtain ⟨rr, hrr⟩ := comm_full hce
        subst hrr
        obtain ⟨y, rs, rfl⟩ : ∃ y rs, rr = y :: rs := by
          cases rr with
          | nil => rw [List.append_nil] at hrl; have := hwf.1; omega
          | cons y rs => exact ⟨y, rs, rfl⟩
        have hy16 : y.toNat < 16 := hrn y (List.mem_append.2 (.inr (List.mem_cons_self ..)))
        obtain ⟨q, hq⟩ : ∃ q, ps[y.toNat]? = some q := ⟨_, List.getElem?_eq_getElem (by omega)⟩
        have hNq := hkids _ _ hq
        obtain ⟨bq, oq, cq, eq_, _, _, hcy⟩ := hr.at (by rw [List.length_append, List.length_cons]; omega)
        cases eq_
        have hgy : ((beg ++ y :: rs).map c8)[comm beg (beg ++ y :: rs)]? = some (c8 y) := by rw [hce, List.getElem?_map, List.getElem?_append_right (Nat.le_refl _), Nat.sub_self]; rfl
        have hcl2 : comm beg (beg ++ y :: rs) < (beg ++ y :: rs).length := by rw [hce, List.length_append, List.length_cons]; omega
        have hcl3 : comm (begT (Tre.branch beg kids)) (beg ++ y :: rs) < (beg ++ y :: rs).length := hcl2
        have hd2 := By.dropS (k := comm beg (beg ++ y :: rs) + 1) hr (by omega)
        have hdr : (beg ++ y :: rs).drop (comm beg (beg ++ y :: rs) + 1) = rs := by rw [hce]; exact drop_mid
        rw [hdr] at hd2
        refine W_held (fun w' => Keep All w w') (by kernel_rfl) (hk6.trans (Keep.drawn w6)) (fun hS => ?_)
        refine any_mvt 0 rfl (by kernel_rfl) (by kernel_rfl) (by kernel_rfl) rfl hS ?_
        refine any_mvt 1 rfl (by kernel_rfl) (by kernel_rfl) (by kernel_rfl) rfl hS ?_
        refine any_mvt 2 rfl (by kernel_rfl) (by kernel_rfl) (by kernel_rfl) rfl hS ?_
        refine any_run 3 (fun w' hS' => (r_idxS1 rfl rfl rfl rfl (by omega) (by omega))) rfl (by kernel_rfl) (by kernel_rfl) (by kernel_rfl) rfl hS ?_
        refine any_run 4 (fun w' hS' => (r_load (v := c8 y) rfl rfl rfl (hS'.cell (by rw [Int.toNat_natCast]; exact hcy _ _ hgy) trivial))) rfl (by kernel_rfl) (by kernel_rfl) (by kernel_rfl) rfl hS ?_
        refine any_mvt 5 rfl (by kernel_rfl) (by kernel_rfl) (by kernel_rfl) rfl hS ?_
        refine any_run 6 (fun w' hS' => (r_nilCheck rfl)) rfl (by kernel_rfl) (by kernel_rfl) (by kernel_rfl) rfl hS ?_
        refine any_run 7 (fun w' hS' => (r_fieldAddr rfl rfl rfl rfl rfl)) rfl (by kernel_rfl) (by kernel_rfl) (by kernel_rfl) rfl hS ?_
        refine any_run 8 (fun w' hS' => (r_load rfl rfl rfl (((hS'.blk' hB trivial).cell rfl)))) rfl (by kernel_rfl) (by kernel_rfl) (by kernel_rfl) rfl hS ?_
        refine any_mvt 9 rfl (by kernel_rfl) (by kernel_rfl) (by kernel_rfl) rfl hS ?_
        refine any_mvt 10 rfl (by kernel_rfl) (by kernel_rfl) (by kernel_rfl) rfl hS ?_
        refine any_run 11 (fun w' hS' => (r_idxS1 rfl rfl rfl rfl (by omega) (by omega))) rfl (by kernel_rfl) (by kernel_rfl) (by kernel_rfl) rfl hS ?_
        refine any_run 12 (fun w' hS' => (r_load (v := c8 y) rfl rfl rfl (hS'.cell (by rw [Int.toNat_natCast]; exact hcy _ _ hgy) trivial))) rfl (by kernel_rfl) (by kernel_rfl) (by kernel_rfl) rfl hS ?_
        refine any_run 13 (fun w' hS' => (r_nilCheck rfl)) rfl (by kernel_rfl) (by kernel_rfl) (by kernel_rfl) rfl hS ?_
        refine any_run 14 (fun w' hS' => (r_idxA1 rfl rfl rfl rfl (by omega) (by omega))) rfl (by kernel_rfl) (by kernel_rfl) (by kernel_rfl) rfl hS ?_
        refine any_run 15 (fun w' hS' => (r_load (v := q) rfl rfl rfl ((hS'.blk' hBk trivial).cell (by rw [Int.toNat_natCast, Nat.zero_add]; exact hq)))) rfl (by kernel_rfl) (by kernel_rfl) (by kernel_rfl) rfl hS ?_
        refine any_mvt 16 rfl (by kernel_rfl) (by kernel_rfl) (by kernel_rfl) rfl hS ?_
        refine any_mvt 17 rfl (by kernel_rfl) (by kernel_rfl) (by kernel_rfl) rfl hS ?_
        refine any_run 18 (fun w' hS' => ((r_add rfl rfl).val (congrArg (Value.int .i64) hinc))) rfl (by kernel_rfl) (by kernel_rfl) (by kernel_rfl) rfl hS ?_
        refine any_run 19 (fun w' hS' => (r_sliceS_lo rfl rfl rfl rfl (by omega) (by omega))) rfl (by kernel_rfl) (by kernel_rfl) (by kernel_rfl) rfl hS ?_
        refine any_mvt 20 rfl (by kernel_rfl) (by kernel_rfl) (by kernel_rfl) rfl hS ?_
        refine any_one 21 (by kernel_rfl) (one_of rfl ?_)
        refine op_call rfl rfl rfl (IH (L - beg.length - 1) (by have := hwf.1; omega) _ (kids y.toNat) q _ _ rs val (by omega) (hwf.2.2.1 _) (by rw [List.length_append, List.length_cons] at hrl; omega) (fun z hz => hrn z (List.mem_append.2 (.inr (List.mem_cons_of_mem _ hz)))) (hNq.k hS) (Sl.k hd2 hS) (Sl.k hval hS)) ?_; rintro v55 w55 ⟨hN55, hk55⟩
        refine ops_nil ⟨hS.trans hk55, fun hS => ?_⟩
        refine any_one 22 (by kernel_rfl) (one_of rfl ?_)
        refine op_call rfl rfl rfl (tr_with w55 _ _ beg kids y hy16 _ (hv.k hS) hN55) ?_; rintro v57 w57 ⟨hN57, hk57⟩
        refine ops_nil ⟨hS.trans hk57, fun hS => ?_⟩
        refine any_ast 23 rfl (by kernel_rfl) (by kernel_rfl) (by kernel_rfl) rfl hS ?_
        refine any_done (by kernel_rfl) ?_
        refine W_ret ?_
        refine ret1 v57 rfl ?_ ?_; rfl
        refine ⟨?_, hS⟩
        rw [putT, if_neg (show ¬ comm beg (beg ++ y :: rs) < beg.length by omega), getD_mid, drop_mid]
        have e : (fun i => if i = y.toNat then putT (kids i) rs val else kids i) = fun i => if i = y.toNat then putT (kids y.toNat) rs val else kids i := by
          funext i; split
          · rename_i h; rw [h]
          · rfl
        rw [e]; exact hN57
theorem tr_put (L : Nat) : PutIH L := by
  induction L using Nat.strongRecOn with
  | ind L ih => exact tr_put1 L ih
end Go.Proofs.YtpiidddccmohdabDoor.B
/-! trie: whole, drop, New, Put. -/
namespace Go.Proofs.YtpiidddccmohdabDoor.B
open Go
set_option linter.unusedVariables false
set_option maxHeartbeats 2000000
set_option maxRecDepth 100000
attribute [local irreducible] W OpsW OpsQ retP
def onesTo (K : Nat → Tre) (k : Nat) : List Nat := (List.range k).filter fun i => !(K i).isNo
theorem onesTo_no {K : Nat → Tre} {k : Nat} (h : K k = .no) : onesTo K (k + 1) = onesTo K k := by
  unfold onesTo; rw [List.range_succ, List.filter_append, List.filter_cons, h]; simp [Tre.isNo]
theorem onesTo_is {K : Nat → Tre} {k : Nat} (h : K k ≠ .no) : onesTo K (k + 1) = onesTo K k ++ [k] := by
  unfold onesTo; rw [List.range_succ, List.filter_append, List.filter_cons, Tre.notNo.2 h]; simp
theorem onesTo_pre {K : Nat → Tre} {k : Nat} (h : k ≤ 16) : onesTo K k <+: ones K := by
  obtain ⟨j, hj⟩ : ∃ j, 16 = k + j := ⟨16 - k, by omega⟩
  unfold ones onesTo
  rw [hj, List.range_add, List.filter_append]; exact List.prefix_append _ _
theorem wholeT_two {beg : List UInt8} {K : Nat → Tre} {l k : Nat} (hk : k < 16) (h : onesTo K (k + 1) = [l, k]) : wholeT beg K = .branch beg K := by
  obtain ⟨t, ht⟩ := onesTo_pre (K := K) (k := k + 1) (by omega)
  unfold wholeT
  rw [← ht, h]; rfl
theorem wholeT_one {beg : List UInt8} {K : Nat → Tre} {l : Nat} (h : onesTo K 16 = [l]) : wholeT beg K = reB (K l) ((beg ++ [l.toUInt8]) ++ begT (K l)) := by
  unfold wholeT
  rw [show ones K = onesTo K 16 from rfl, h]
theorem tr_whole (w : World) (v : Value) (beg : List UInt8) (K : Nat → Tre) (hbl : beg.length ≤ 64) (hkl : ∀ i, (begT (K i)).length ≤ 64) (hsome : ∃ i, i < 16 ∧ K i ≠ .no) (hv : NodeIn w (.branch beg K) v) :
    Ret Tryd.prog 48 [v].toArray w fun r w' => NodeIn w' (wholeT beg K) r ∧ Keep All w w' := by
  have hv0 := hv
  obtain ⟨b, vb, vv, bk, ps, rfl, h1_, h2_, h3_, h4_, h5_, h6_⟩ := hv
  obtain ⟨ab, cb, rfl, hcb, hcbm⟩ := h2_.form
  refine enter (fn := Tryd.f48) (n := 57) Tryd.func48 rfl rfl (by simp) ?_
  refine W_seq ?_
  refine W_region ?_
  refine o_asc rfl ?_
  refine ops_nil ?_
  refine W_seq ?_
  refine W_region ?_
  refine o_asc rfl ?_
  refine ops_nil ?_
  refine W_seq ?_
  refine W_seq ?_
  refine W_region ?_
  refine o_mvt rfl ?_
  refine op_run (r_nilCheck rfl) rfl ?_
  refine op_run (r_fieldAddr rfl rfl rfl rfl rfl) rfl ?_
  refine op_run (r_load rfl rfl rfl (h1_.cell rfl)) rfl ?_
  refine o_mvc rfl ?_
  refine ops_nil ?_
  refine W_block ?_
  refine W_loop [3, 11] [2, 3, 4, 5, 11, 12, 13, 14, 15, 16, 17, 18, 19, 20, 21, 22, 23, 24, 25] (fun vs w' => ∃ (k : Nat) (last : Int), vs = [.int .i64 last, .int .i64 k] ∧ k ≤ 16 ∧ ((onesTo K k = [] ∧ last = -1) ∨ ∃ l : Nat, onesTo K k = [l] ∧ last = l ∧ l < 16 ∧ K l ≠ .no) ∧ Keep All w w') (fun vs _ => match vs with | [_, .int _ y] => 16 - y.toNat | _ => 0) ⟨0, -1, rfl, Nat.zero_le _, .inl ⟨rfl, rfl⟩, Keep.refl _⟩ ?_
  rintro J2 vs w2 ⟨k, last, rfl, hk, hlast, hk2⟩ -
  refine W_seq ?_
  refine W_region ?_
  refine op_run (r_lss rfl rfl) rfl ?_
  refine ops_nil ?_
  refine W_seq ?_
  refine W_cond_p rfl (fun h3 => ?_) (fun h3 => ?_)
  · refine W_skip ?_
    refine W_seq ?_
    refine W_block ?_
    refine W_seq ?_
    have hk16 : k < 16 := by omega
    obtain ⟨q, hq⟩ : ∃ q, ps[k]? = some q := ⟨_, List.getElem?_eq_getElem (by omega)⟩
    have hNq := h6_ _ _ hq
    obtain ⟨aq, rfl, haq⟩ := hNq.ptr
    have hinc := inc64' k (by omega)
    refine W_quiet (Keep All w2) (by kernel_rfl) (by kernel_rfl) (Keep.drawn _) ?_
    refine q_mvt rfl ?_
    refine q_run (fun _ _ => (r_nilCheck rfl)) rfl ?_
    refine q_run (fun _ _ => r_idxA1 rfl rfl rfl rfl (by omega) (by omega)) rfl ?_
    refine q_run (fun _ hk => r_load (v := .pointer aq) rfl rfl rfl (hk.cell ((hk2.blk' h4_ trivial).cell (by rw [Int.toNat_natCast, Nat.zero_add]; exact hq)) trivial)) rfl ?_
    refine q_ast rfl ?_
    refine q_ast rfl ?_
    refine q_nil ?_; intro w7 hk7
    refine W_block ?_
    refine W_seq ?_
    refine W_region ?_
    refine o_mvt rfl ?_
    refine op_run (r_isNilP rfl rfl) rfl ?_
    refine o_ast rfl ?_
    refine ops_nil ?_
    refine W_cond rfl (fun h8 => ?_) (fun h8 => ?_)
    · refine W_skip ?_
      refine W_region ?_
      refine op_run (r_add rfl rfl) rfl ?_
      refine o_mvt rfl ?_
      refine ops_nil ?_
      have hno : K k = .no := haq.1 (by cases aq with
        | none => rfl
        | some x => cases h8)
      refine ⟨by (repeat (first | with_reducible exact offM_refl _ _ | refine offM_updc rfl ?_ | refine offM_upd rfl ?_ | refine offM_updo rfl ?_ | refine offM_updo_none ?_ | refine offM_head rfl rfl ?_)), ⟨k + 1, last, congrArg (fun z : Int => [Value.int .i64 last, Value.int .i64 z]) hinc, by omega, by rw [onesTo_no hno]; exact hlast, hk2.trans hk7⟩, ?_⟩
      show 16 - (IntKind.i64.wrap ((k : Int) + 1)).toNat < 16 - (k : Int).toNat
      rw [hinc]; omega
    · refine W_seq ?_
      refine W_region ?_
      have hnn : K k ≠ .no := fun e => by
        have := haq.2 e
        subst this; cases h8
      refine o_mvt rfl ?_
      refine op_run (r_geq rfl rfl) rfl ?_
      refine o_ast rfl ?_
      refine ops_nil ?_
      refine W_cond_p rfl (fun h10 => ?_) (fun h10 => ?_)
      · refine W_seq ?_
        refine W_region ?_
        refine o_mvt rfl ?_
        refine o_ast rfl ?_
        refine ops_nil ?_
        refine W_ret ?_
        refine ret1 (.pointer (some ⟨b, 0, none⟩)) rfl ?_ ?_; rfl
        obtain ⟨l, hl, _⟩ : ∃ l : Nat, onesTo K k = [l] ∧ last = l := by
          rcases hlast with ⟨_, e⟩ | ⟨l, e1, e2, _⟩
          · omega
          · exact ⟨l, e1, e2⟩
        rw [wholeT_two hk16 (show onesTo K (k + 1) = [l, k] from by rw [onesTo_is hnn, hl]; rfl)]
        exact ⟨hv0.k (hk2.trans hk7), hk2.trans hk7⟩
      · refine W_region ?_
        refine o_mvt rfl ?_
        refine o_ast rfl ?_
        refine ops_nil ?_
        refine W_region ?_
        refine op_run (r_add rfl rfl) rfl ?_
        refine o_mvt rfl ?_
        refine ops_nil ?_
        have hl0 : onesTo K k = [] := by
          rcases hlast with ⟨e, _⟩ | ⟨l, _, e2, _⟩
          · exact e
          · omega
        refine ⟨by (repeat (first | with_reducible exact offM_refl _ _ | refine offM_updc rfl ?_ | refine offM_upd rfl ?_ | refine offM_updo rfl ?_ | refine offM_updo_none ?_ | refine offM_head rfl rfl ?_)), ⟨k + 1, k, congrArg (fun z : Int => [Value.int .i64 k, Value.int .i64 z]) hinc, by omega, .inr ⟨k, by rw [onesTo_is hnn, hl0]; rfl, rfl, hk16, hnn⟩, hk2.trans hk7⟩, ?_⟩
        show 16 - (IntKind.i64.wrap ((k : Int) + 1)).toNat < 16 - (k : Int).toNat
        rw [hinc]; omega
  · refine W_exit ?_
    refine W_seq ?_
    refine W_region ?_
    refine o_mvt rfl ?_
    refine op_run (r_nilCheck rfl) rfl ?_
    refine op_run (r_fieldAddr rfl rfl rfl rfl rfl) rfl ?_
    obtain rfl : k = 16 := by omega
    obtain ⟨l, hl, rfl, hl16, hln⟩ : ∃ l : Nat, onesTo K 16 = [l] ∧ last = l ∧ l < 16 ∧ K l ≠ .no := by
      rcases hlast with ⟨e, _⟩ | h
      · obtain ⟨i, hi, hin⟩ := hsome
        have := mem_ones.2 ⟨hi, hin⟩
        rw [show ones K = onesTo K 16 from rfl, e] at this; cases this
      · exact h
    obtain ⟨q, hq⟩ : ∃ q, ps[l]? = some q := ⟨_, List.getElem?_eq_getElem (by omega)⟩
    obtain ⟨bq, vqb, vqv, pk, rfl, hBq, hbq, hvq, hcase⟩ := (h6_ _ _ hq).open hln
    obtain ⟨aqb, cqb, rfl, _, _⟩ := hbq.form
    refine op_run (r_load rfl rfl rfl ((hk2.blk' h1_ trivial).cell rfl)) rfl ?_
    refine o_mvt rfl ?_
    refine op_run (r_nilCheck rfl) rfl ?_
    refine op_run (r_idxA1 rfl rfl rfl rfl (by omega) (by omega)) rfl ?_
    refine op_run (r_load (v := .pointer (some ⟨bq, 0, none⟩)) rfl rfl rfl ((hk2.blk' h4_ trivial).cell (by rw [Int.toNat_natCast, Nat.zero_add]; exact hq))) rfl ?_
    refine o_ast rfl ?_
    refine ops_nil ?_
    refine W_seq ?_
    refine W_held (fun w' => Keep All w w') (by kernel_rfl) (hk2.trans (Keep.drawn w2)) (fun hS => ?_)
    refine any_mvt 0 rfl (by kernel_rfl) (by kernel_rfl) (by kernel_rfl) rfl hS ?_
    refine any_run 1 (fun w' hS' => (r_nilCheck rfl)) rfl (by kernel_rfl) (by kernel_rfl) (by kernel_rfl) rfl hS ?_
    refine any_run 2 (fun w' hS' => (r_fieldAddr rfl rfl rfl rfl rfl)) rfl (by kernel_rfl) (by kernel_rfl) (by kernel_rfl) rfl hS ?_
    refine any_run 3 (fun w' hS' => (r_load rfl rfl rfl (((hS'.blk' h1_ trivial).cell rfl)))) rfl (by kernel_rfl) (by kernel_rfl) (by kernel_rfl) rfl hS ?_
    refine any_mvt 4 rfl (by kernel_rfl) (by kernel_rfl) (by kernel_rfl) rfl hS ?_
    refine any_run 5 (fun w' hS' => ((r_conv rfl rfl rfl).val (congrArg (Value.int .u8) (show IntKind.u8.wrap (l : Int) = ((l.toUInt8.toNat : Nat) : Int) from by rw [u8_of hl16]; exact (show IntKind.u8.wrap (l : Int) = (l : Int) % 256 from rfl).trans (by omega))))) rfl (by kernel_rfl) (by kernel_rfl) (by kernel_rfl) rfl hS ?_
    refine any_mvt 7 rfl (by kernel_rfl) (by kernel_rfl) (by kernel_rfl) rfl hS ?_
    refine any_run 8 (fun w' hS' => (r_nilCheck rfl)) rfl (by kernel_rfl) (by kernel_rfl) (by kernel_rfl) rfl hS ?_
    refine any_run 9 (fun w' hS' => (r_fieldAddr rfl rfl rfl rfl rfl)) rfl (by kernel_rfl) (by kernel_rfl) (by kernel_rfl) rfl hS ?_
    refine any_run 10 (fun w' hS' => (r_load rfl rfl rfl (((hS'.blk' hBq trivial).cell rfl)))) rfl (by kernel_rfl) (by kernel_rfl) (by kernel_rfl) rfl hS ?_
    refine any_mvt 13 rfl (by kernel_rfl) (by kernel_rfl) (by kernel_rfl) rfl hS ?_
    refine any_run 14 (fun w' hS' => (r_nilCheck rfl)) rfl (by kernel_rfl) (by kernel_rfl) (by kernel_rfl) rfl hS ?_
    refine any_run 15 (fun w' hS' => (r_fieldAddr rfl rfl rfl rfl rfl)) rfl (by kernel_rfl) (by kernel_rfl) (by kernel_rfl) rfl hS ?_
    refine any_run 16 (fun w' hS' => (r_load rfl rfl rfl (((hS'.blk' hBq trivial).cell rfl)))) rfl (by kernel_rfl) (by kernel_rfl) (by kernel_rfl) rfl hS ?_
    refine any_mvt 17 rfl (by kernel_rfl) (by kernel_rfl) (by kernel_rfl) rfl hS ?_
    refine any_run 18 (fun w' hS' => (r_nilCheck rfl)) rfl (by kernel_rfl) (by kernel_rfl) (by kernel_rfl) rfl hS ?_
    refine any_run 19 (fun w' hS' => (r_fieldAddr rfl rfl rfl rfl rfl)) rfl (by kernel_rfl) (by kernel_rfl) (by kernel_rfl) rfl hS ?_
    refine any_run 20 (fun w' hS' => (r_load rfl rfl rfl (((hS'.blk' hBq trivial).cell rfl)))) rfl (by kernel_rfl) (by kernel_rfl) (by kernel_rfl) rfl hS ?_
    refine any_one 6 (by kernel_rfl) (one_of rfl ?_)
    refine o_bs1 (v := (c8 l.toUInt8)) rfl rfl rfl rfl rfl rfl ?_; intro w21 b21 e21 hB21 hk21 hs21
    refine ops_nil ⟨hS.trans hk21, fun hS => ?_⟩
    refine any_one 11 (by kernel_rfl) (one_of rfl ?_)
    refine o_bsL ([.slice ab beg.length cb, .slice (some ⟨b21, 0, none⟩) 1 1, .slice aqb (begT (K l)).length cqb]) rfl rfl rfl rfl rfl rfl rfl rfl rfl ?_; intro w23 b23 e23 hB23 hk23 hs23
    have hS23 : Sl w23 (.slice (some ⟨b23, 0, none⟩) 3 3) 3 1 [.slice ab beg.length cb, .slice (some ⟨b21, 0, none⟩) 1 1, .slice aqb (begT (K l)).length cqb] := (Own.blk (n := 3) (sz := 1) hB23 rfl (by unfold maxLen; omega)).sl
    have hS21 : By w23 (.slice (some ⟨b21, 0, none⟩) 1 1) [l.toUInt8] := Sl.k (Own.blk (n := 1) (sz := 1) hB21 rfl (by unfold maxLen; omega)).sl hk23
    have hkl' := hkl l
    refine ops_nil ⟨hS.trans hk23, fun hS => ?_⟩
    have hgs25 : ∀ x ∈ [(Value.slice ab beg.length cb, beg), (Value.slice (some ⟨b21, 0, none⟩) 1 1, [l.toUInt8]), (Value.slice aqb (begT (K l)).length cqb, begT (K l))], By w23 x.1 x.2 := fun x hx => by
      rcases List.mem_cons.1 hx with rfl | hx
      · exact Sl.k h2_ hS
      · rcases List.mem_cons.1 hx with rfl | hx
        · exact hS21
        · rcases List.mem_cons.1 hx with rfl | hx
          · exact Sl.k hbq hS
          · cases hx
    refine any_one 12 (by kernel_rfl) (one_of rfl ?_)
    refine op_call rfl rfl rfl (sl_ConcatB w23 _ [(.slice ab beg.length cb, beg), (.slice (some ⟨b21, 0, none⟩) 1 1, [l.toUInt8]), (.slice aqb (begT (K l)).length cqb, begT (K l))] hS23 hgs25 (by simp; omega) (by simp)) ?_; rintro v25 w25 ⟨hO25, hin25, hk25⟩
    have hby25 : By w25 v25 ((beg ++ [l.toUInt8]) ++ begT (K l)) := by
      have h := OwnB.by_ hO25
      simpa using h
    obtain ⟨a25, c25, rfl, _, _⟩ := hby25.form
    refine ops_nil ⟨hS.trans hk25, fun hS => ?_⟩
    refine any_run 21 (fun w' hS' => (r_build ([.slice a25 ((beg ++ [l.toUInt8]) ++ begT (K l)).length c25, vqv, .pointer pk]) (_) ([(0, .slice a25 ((beg ++ [l.toUInt8]) ++ begT (K l)).length c25), (1, vqv), (2, .pointer pk)]) rfl rfl rfl rfl rfl ((by clear hBq hcase; cases vqv <;> (try rfl); all_goals cases hvq)))) rfl (by kernel_rfl) (by kernel_rfl) (by kernel_rfl) rfl hS ?_
    refine any_one 22 (by kernel_rfl) (one_of rfl ?_)
    refine o_box (cs := [.slice a25 ((beg ++ [l.toUInt8]) ++ begT (K l)).length c25, vqv, .pointer pk]) rfl rfl rfl ?_; intro w28 b28 e28 hB28 hk28 hs28
    refine ops_nil ⟨hS.trans hk28, fun hS => ?_⟩
    refine any_ast 23 rfl (by kernel_rfl) (by kernel_rfl) (by kernel_rfl) rfl hS ?_
    refine any_done (by kernel_rfl) ?_
    refine W_ret ?_
    refine ret1 (.pointer (some ⟨b28, 0, none⟩)) rfl ?_ ?_; rfl
    have hcase' : (pk = none ∧ ∃ beg val, K l = .leaf beg val ∧ By w28 vqv val) ∨ ∃ beg kids bk ps, K l = .branch beg kids ∧ pk = some ⟨bk, 0, none⟩ ∧ Blk w28 bk ps 71 ∧ ps.length = 16 ∧ ∀ (i : Nat) (p : Value), ps[i]? = some p → NodeIn w28 (kids i) p := by
      rcases hcase with ⟨e, beg, v0, e2, h⟩ | ⟨beg, kids, bk, ps, e1, e2, h1, h2, h3⟩
      · exact .inl ⟨e, beg, v0, e2, Sl.k h hS⟩
      · exact .inr ⟨beg, kids, bk, ps, e1, e2, hS.blk' h1 trivial, h2, fun i p hp => (h3 i p hp).k hS⟩
    rw [wholeT_one hl]
    exact ⟨NodeIn.re hln (Sl.k hbq hS) hvq hcase' (Sl.k hby25 hk28) hB28, hS⟩
def DropIH (L : Nat) : Prop := ∀ (w : World) (T : Tre) (v vr : Value) (rest val : List UInt8), L ≤ 64 → T.wf L → rest.length = L → T.get rest = some val → NodeIn w T v → By w vr rest →
  Ret Tryd.prog 28 [v, vr].toArray w fun r w' => NodeIn w' (dropT T rest) r ∧ Keep All w w'
theorem tr_drop1 (L : Nat) (IH : ∀ L', L' < L → DropIH L') : DropIH L := by
  intro w T v vr rest val hL64 hwf hrl hget hv hr
  have hT : T ≠ .no := fun e => by rw [e] at hget; cases hget
  obtain ⟨b, vb, vvn, pk, rfl, hB, hb, hvn, hcase⟩ := hv.open hT
  obtain ⟨ab, cb, rfl, hcb0, hcbm⟩ := hb.form
  obtain ⟨a0, c0, rfl, hc0, hcm0⟩ := hr.form
  refine enter (fn := Tryd.f28) (n := 39) Tryd.func28 rfl rfl (by simp) ?_
  refine W_seq ?_
  refine W_region ?_
  refine o_asc rfl ?_
  refine ops_nil ?_
  refine W_seq ?_
  refine W_seq ?_
  refine W_region ?_
  refine o_mvt rfl ?_
  refine op_run (r_nilCheck rfl) rfl ?_
  refine op_run (r_fieldAddr rfl rfl rfl rfl rfl) rfl ?_
  refine op_run (r_load rfl rfl rfl (hB.cell rfl)) rfl ?_
  refine op_run (r_isNilP rfl rfl) rfl ?_
  refine ops_nil ?_
  refine W_cond rfl (fun h2 => ?_) (fun h2 => ?_)
  · refine W_seq ?_
    refine W_region ?_
    refine o_asc rfl ?_
    refine ops_nil ?_
    refine W_ret ?_
    refine ret1 (.pointer none) rfl ?_ ?_; rfl
    obtain ⟨beg, v0, rfl⟩ : ∃ beg v0, T = .leaf beg v0 := by
      rcases hcase with ⟨_, beg, v0, e, _⟩ | ⟨_, _, _, _, _, e, _⟩
      · exact ⟨_, _, e⟩
      · subst e; cases h2
    exact ⟨rfl, Keep.refl _⟩
  · refine W_skip ?_
    refine W_seq ?_
    refine W_region ?_
    obtain ⟨beg, kids, bk, ps, rfl, rfl, hBk, hps, hkids⟩ : ∃ beg kids bk ps, T = .branch beg kids ∧ pk = some ⟨bk, 0, none⟩ ∧ Blk w bk ps 71 ∧ ps.length = 16 ∧ ∀ (i : Nat) (p : Value), ps[i]? = some p → NodeIn w (kids i) p := by
      rcases hcase with ⟨rfl, _⟩ | h
      · cases h2
      · exact h
    have hb : By w (.slice ab beg.length cb) beg := hb
    have hB : Blk w b [.slice ab beg.length cb, vvn, .pointer (some ⟨bk, 0, none⟩)] 69 := hB
    obtain ⟨y, rs, rfl, hg2⟩ := Tre.get_some hget
    have hbl := hwf.1
    have hy16 : y.toNat < 16 := Nat.lt_of_not_le fun h => by rw [hwf.2.2.2.1 _ h] at hg2; cases hg2
    obtain ⟨q, hq⟩ : ∃ q, ps[y.toNat]? = some q := ⟨_, List.getElem?_eq_getElem (by omega)⟩
    have hNq := hkids _ _ hq
    obtain ⟨bq, oq, cq, eq_, _, _, hcy⟩ := hr.at (by rw [List.length_append, List.length_cons]; omega)
    cases eq_
    have hgy : ((beg ++ y :: rs).map c8)[beg.length]? = some (c8 y) := by rw [List.getElem?_map, List.getElem?_append_right (Nat.le_refl _), Nat.sub_self]; rfl
    have hcl2 : beg.length < (beg ++ y :: rs).length := by rw [List.length_append, List.length_cons]; omega
    have hd2 := By.dropS (k := beg.length + 1) hr (by omega)
    rw [drop_mid] at hd2
    have hinc := inc64' beg.length (by omega)
    have hrs : rs.length = L - beg.length - 1 := by rw [List.length_append, List.length_cons] at hrl; omega
    refine o_mvt rfl ?_
    refine op_run (r_nilCheck rfl) rfl ?_
    refine op_run (r_fieldAddr rfl rfl rfl rfl rfl) rfl ?_
    refine op_run (r_load rfl rfl rfl (hB.cell rfl)) rfl ?_
    refine op_run (r_len rfl rfl rfl) rfl ?_
    refine o_ast rfl ?_
    refine ops_nil ?_
    refine W_seq ?_
    refine W_held (fun w' => Keep All w w') (by kernel_rfl) (Keep.drawn w) (fun hS => ?_)
    refine any_mvt 0 rfl (by kernel_rfl) (by kernel_rfl) (by kernel_rfl) rfl hS ?_
    refine any_mvt 1 rfl (by kernel_rfl) (by kernel_rfl) (by kernel_rfl) rfl hS ?_
    refine any_mvt 2 rfl (by kernel_rfl) (by kernel_rfl) (by kernel_rfl) rfl hS ?_
    refine any_run 3 (fun w' hS' => (r_idxS1 rfl rfl rfl rfl (by (show (0 : Int) ≤ (beg.length : Int); omega)) (by (show (beg.length : Int) < _; omega)))) rfl (by kernel_rfl) (by kernel_rfl) (by kernel_rfl) rfl hS ?_
    refine any_run 4 (fun w' hS' => (r_load (v := c8 y) rfl rfl rfl (hS'.cell (show w.cell? ⟨bq, oq + ((beg.length : Nat) : Int).toNat, none⟩ = _ from by rw [Int.toNat_natCast]; exact hcy _ _ hgy) trivial))) rfl (by kernel_rfl) (by kernel_rfl) (by kernel_rfl) rfl hS ?_
    refine any_mvt 5 rfl (by kernel_rfl) (by kernel_rfl) (by kernel_rfl) rfl hS ?_
    refine any_run 6 (fun w' hS' => (r_nilCheck rfl)) rfl (by kernel_rfl) (by kernel_rfl) (by kernel_rfl) rfl hS ?_
    refine any_run 7 (fun w' hS' => (r_fieldAddr rfl rfl rfl rfl rfl)) rfl (by kernel_rfl) (by kernel_rfl) (by kernel_rfl) rfl hS ?_
    refine any_run 8 (fun w' hS' => (r_load rfl rfl rfl (((hS'.blk' hB trivial).cell rfl)))) rfl (by kernel_rfl) (by kernel_rfl) (by kernel_rfl) rfl hS ?_
    refine any_mvt 9 rfl (by kernel_rfl) (by kernel_rfl) (by kernel_rfl) rfl hS ?_
    refine any_mvt 10 rfl (by kernel_rfl) (by kernel_rfl) (by kernel_rfl) rfl hS ?_
    refine any_run 11 (fun w' hS' => (r_idxS1 rfl rfl rfl rfl (by (show (0 : Int) ≤ (beg.length : Int); omega)) (by (show (beg.length : Int) < _; omega)))) rfl (by kernel_rfl) (by kernel_rfl) (by kernel_rfl) rfl hS ?_
    refine any_run 12 (fun w' hS' => (r_load (v := c8 y) rfl rfl rfl (hS'.cell (show w.cell? ⟨bq, oq + ((beg.length : Nat) : Int).toNat, none⟩ = _ from by rw [Int.toNat_natCast]; exact hcy _ _ hgy) trivial))) rfl (by kernel_rfl) (by kernel_rfl) (by kernel_rfl) rfl hS ?_
    refine any_run 13 (fun w' hS' => (r_nilCheck rfl)) rfl (by kernel_rfl) (by kernel_rfl) (by kernel_rfl) rfl hS ?_
    refine any_run 14 (fun w' hS' => (r_idxA1 rfl rfl rfl rfl (by omega) (by omega))) rfl (by kernel_rfl) (by kernel_rfl) (by kernel_rfl) rfl hS ?_
    refine any_run 15 (fun w' hS' => (r_load (v := q) rfl rfl rfl ((hS'.blk' hBk trivial).cell (by rw [Int.toNat_natCast, Nat.zero_add]; exact hq)))) rfl (by kernel_rfl) (by kernel_rfl) (by kernel_rfl) rfl hS ?_
    refine any_mvt 16 rfl (by kernel_rfl) (by kernel_rfl) (by kernel_rfl) rfl hS ?_
    refine any_mvt 17 rfl (by kernel_rfl) (by kernel_rfl) (by kernel_rfl) rfl hS ?_
    refine any_run 18 (fun w' hS' => ((r_add rfl rfl).val (congrArg (Value.int .i64) hinc))) rfl (by kernel_rfl) (by kernel_rfl) (by kernel_rfl) rfl hS ?_
    refine any_run 19 (fun w' hS' => (r_sliceS_lo rfl rfl rfl rfl (by omega) (by (show ((beg.length + 1 : Nat) : Int) ≤ _; omega)))) rfl (by kernel_rfl) (by kernel_rfl) (by kernel_rfl) rfl hS ?_
    refine any_one 20 (by kernel_rfl) (one_of rfl ?_)
    refine op_call rfl rfl rfl (IH (L - beg.length - 1) (by omega) _ (kids y.toNat) q _ rs val (by omega) (hwf.2.2.1 _) hrs hg2 (hNq.k hS) (Sl.k hd2 hS)) ?_; rintro v14 w14 ⟨hN14, hk14⟩
    obtain ⟨d1, d2⟩ := dropT_all (kids y.toNat) _ rs val (hwf.2.2.1 y.toNat) hrs hg2
    refine ops_nil ⟨hS.trans hk14, fun hS => ?_⟩
    refine any_one 21 (by kernel_rfl) (one_of rfl ?_)
    refine op_call rfl rfl rfl (tr_with w14 _ _ beg kids y hy16 _ (hv.k hS) hN14) ?_; rintro v16 w16 ⟨hN16, hk16⟩
    refine ops_nil ⟨hS.trans hk16, fun hS => ?_⟩
    have hb18 : ∀ i, (begT (if i = y.toNat then dropT (kids y.toNat) rs else kids i)).length ≤ 64 := fun i => by
      split
      · exact Nat.le_trans (wf_beg d1).1 (by omega)
      · exact Nat.le_trans (wf_beg (hwf.2.2.1 i)).1 (by omega)
    have hs18 : ∃ i, i < 16 ∧ (if i = y.toNat then dropT (kids y.toNat) rs else kids i) ≠ .no := by
      obtain ⟨i, j, hij, hi, hj⟩ := hwf.2.2.2.2
      have lt : ∀ i, kids i ≠ .no → i < 16 := fun i h => Nat.lt_of_not_le fun hh => h (hwf.2.2.2.1 i hh)
      by_cases e : i = y.toNat
      · exact ⟨j, lt j hj, by rw [if_neg (by omega)]; exact hj⟩
      · exact ⟨i, lt i hi, by rw [if_neg e]; exact hi⟩
    refine any_one 22 (by kernel_rfl) (one_of rfl ?_)
    refine op_call rfl rfl rfl (tr_whole w16 _ beg (fun i => if i = y.toNat then dropT (kids y.toNat) rs else kids i) (by omega) hb18 hs18 hN16) ?_; rintro v18 w18 ⟨hN18, hk18⟩
    refine ops_nil ⟨hS.trans hk18, fun hS => ?_⟩
    refine any_ast 23 rfl (by kernel_rfl) (by kernel_rfl) (by kernel_rfl) rfl hS ?_
    refine any_done (by kernel_rfl) ?_
    refine W_ret ?_
    refine ret1 v18 rfl ?_ ?_; rfl
    refine ⟨?_, hS⟩
    rw [dropT, getD_mid, drop_mid]
    have e : (fun i => if i = y.toNat then dropT (kids i) rs else kids i) = fun i => if i = y.toNat then dropT (kids y.toNat) rs else kids i := by
      funext i; split
      · rename_i h; rw [h]
      · rfl
    rw [e]; exact hN18
theorem tr_drop (L : Nat) : DropIH L := by
  induction L using Nat.strongRecOn with
  | ind L ih => exact tr_drop1 L ih
end Go.Proofs.YtpiidddccmohdabDoor.B
