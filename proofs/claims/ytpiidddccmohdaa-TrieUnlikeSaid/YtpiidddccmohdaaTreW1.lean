/-
  trie: nodes in memory; nibbles, common, with.
-/
import Derived.Test.YtpiidddccmohdaaTre2
import Derived.Test.YtpiidddccmohdaaNibs
import Derived.Test.YtpiidddccmohdaaRowsK
import Derived.Test.YtpiidddccmohdaaGate2
namespace Go.Proofs.Ytpiidddccmohdaa.B
open Go
set_option linter.unusedVariables false
set_option maxHeartbeats 2000000
set_option maxRecDepth 100000
attribute [local irreducible] W OpsW OpsQ retP
/-- A trie in memory. -/
def NodeIn (w : World) : Tre → Value → Prop
  | .no, v => v = .pointer none
  | .leaf beg val, v => ∃ b vb vv, v = .pointer (some ⟨b, 0, none⟩) ∧ Blk w b [vb, vv, .pointer none] 69 ∧ By w vb beg ∧ By w vv val
  | .branch beg kids, v => ∃ b vb vv bk ps, v = .pointer (some ⟨b, 0, none⟩) ∧ Blk w b [vb, vv, .pointer (some ⟨bk, 0, none⟩)] 69 ∧ By w vb beg ∧ one vv = true ∧ Blk w bk ps 88 ∧ ps.length = 16 ∧ ∀ (i : Nat) (p : Value), ps[i]? = some p → NodeIn w (kids i) p
theorem NodeIn.ptr {w : World} {T : Tre} {v : Value} (h : NodeIn w T v) : ∃ a, v = .pointer a ∧ (a = none ↔ T = .no) := by
  cases T with
  | no => exact ⟨none, h, by simp⟩
  | leaf b u => obtain ⟨b, _, _, e, _⟩ := h; exact ⟨_, e, by simp⟩
  | branch b k => obtain ⟨b, _, _, _, _, e, _⟩ := h; exact ⟨_, e, by simp⟩
theorem NodeIn.one1 {w : World} {T : Tre} {v : Value} (h : NodeIn w T v) : one v = true := by
  obtain ⟨a, rfl, _⟩ := h.ptr; rfl
theorem NodeIn.k {w w' : World} (hk : Keep All w w') : ∀ {T : Tre} {v : Value}, NodeIn w T v → NodeIn w' T v := by
  intro T
  induction T with
  | no => intro v h; exact h
  | leaf b u => rintro v ⟨b, vb, vv, e, h1, h2, h3⟩; exact ⟨b, vb, vv, e, hk.blk' h1 trivial, Sl.k h2 hk, Sl.k h3 hk⟩
  | branch b k ih =>
    rintro v ⟨b, vb, vv, bk, ps, e, h1, h2, h3, h4, h5, h6⟩
    exact ⟨b, vb, vv, bk, ps, e, hk.blk' h1 trivial, Sl.k h2 hk, h3, hk.blk' h4 trivial, h5, fun i p hp => ih i (h6 i p hp)⟩
theorem nodes_one {w : World} {kids : Nat → Tre} {ps : List Value} (h : ∀ (i : Nat) (p : Value), ps[i]? = some p → NodeIn w (kids i) p) : ps.all one = true := List.all_eq_true.2 fun x hx => by
  obtain ⟨i, hi, he⟩ := List.mem_iff_getElem.1 hx
  exact (h i x (by rw [List.getElem?_eq_getElem hi, he])).one1
/-- What stands in a node. -/
theorem NodeIn.open {w : World} {T : Tre} {v : Value} (h : NodeIn w T v) (hn : T ≠ .no) : ∃ b vb vv pk, v = .pointer (some ⟨b, 0, none⟩) ∧ Blk w b [vb, vv, .pointer pk] 69 ∧ By w vb (begT T) ∧ one vv = true ∧
    ((pk = none ∧ ∃ beg val, T = .leaf beg val ∧ By w vv val) ∨ ∃ beg kids bk ps, T = .branch beg kids ∧ pk = some ⟨bk, 0, none⟩ ∧ Blk w bk ps 88 ∧ ps.length = 16 ∧ ∀ (i : Nat) (p : Value), ps[i]? = some p → NodeIn w (kids i) p) := by
  cases T with
  | no => exact absurd rfl hn
  | leaf beg val =>
    obtain ⟨b, vb, vv, e, h1, h2, h3⟩ := h
    obtain ⟨a, c, ev_, _, _⟩ := h3.form
    exact ⟨b, vb, vv, none, e, h1, h2, by rw [ev_]; rfl, .inl ⟨rfl, beg, val, rfl, h3⟩⟩
  | branch beg kids =>
    obtain ⟨b, vb, vv, bk, ps, e, h1, h2, h3, h4, h5, h6⟩ := h
    exact ⟨b, vb, vv, _, e, h1, h2, h3, .inr ⟨beg, kids, bk, ps, rfl, rfl, h4, h5, h6⟩⟩
theorem NodeIn.re {w : World} {T : Tre} {b : Nat} {vb vv : Value} {pk : Option Addr} (hT : T ≠ .no) (h2 : By w vb (begT T)) (h3 : one vv = true)
    (h4 : (pk = none ∧ ∃ beg val, T = .leaf beg val ∧ By w vv val) ∨ ∃ beg kids bk ps, T = .branch beg kids ∧ pk = some ⟨bk, 0, none⟩ ∧ Blk w bk ps 88 ∧ ps.length = 16 ∧ ∀ (i : Nat) (p : Value), ps[i]? = some p → NodeIn w (kids i) p)
    {bs : List UInt8} {vb' : Value} (hb : By w vb' bs) (hB : Blk w b [vb', vv, .pointer pk] 69) : NodeIn w (reB T bs) (.pointer (some ⟨b, 0, none⟩)) := by
  rcases h4 with ⟨rfl, beg, val, rfl, hv⟩ | ⟨beg, kids, bk, ps, rfl, rfl, h5, h6, h7⟩
  · exact ⟨b, vb', vv, rfl, hB, hb, hv⟩
  · exact ⟨b, vb', vv, bk, ps, rfl, hB, hb, h3, h5, h6, h7⟩
theorem comm_eq : ∀ (k : Nat) (a b : List UInt8), a.take k = b.take k → k ≤ a.length → k ≤ b.length → (k = a.length ∨ k = b.length ∨ a[k]? ≠ b[k]?) → comm a b = k
  | 0, a, b, _, _, _, h => by
    cases a with
    | nil => unfold comm; rfl
    | cons x a =>
      cases b with
      | nil => unfold comm; rfl
      | cons y b =>
        unfold comm
        rcases h with h | h | h
        · simp at h
        · simp at h
        · rw [if_neg (fun e => h (by rw [e]; rfl))]
  | k + 1, a, b, ht, ha, hb, h => by
    cases a with
    | nil => simp at ha
    | cons x a =>
      cases b with
      | nil => simp at hb
      | cons y b =>
        rw [List.take_succ_cons, List.take_succ_cons] at ht
        injection ht with h1 h2
        subst h1
        unfold comm
        rw [if_pos rfl, comm_eq k a b h2 (by simpa using ha) (by simpa using hb) (by simpa using h)]
theorem tr_nibbles (w : World) (key : Dig) : Ret Try.prog 37 [.agg (dgR key).toArray].toArray w fun r w' => OwnB w' 5 r (nibs key.val) ∧ InB (fun z => w.heap.size ≤ z) r ∧ Keep All w w' := by
  refine enter (fn := Try.f37) (n := 18) Try.func37 rfl rfl (by simp) ?_
  refine W_seq ?_
  refine W_region ?_
  refine o_box rfl rfl rfl ?_; intro w1 b1 e1 hB1 hk1 hs1
  have hB1 : Blk w1 b1 (dgR key) 30 := hB1
  refine o_asc rfl ?_
  refine ops_nil ?_
  refine W_seq ?_
  refine W_seq ?_
  refine W_region ?_
  refine op_run (r_loadA (dgR key) rfl rfl rfl (by first | rfl | (rw [binV_len]; rfl) | (rw [dgR_len]; rfl) | (rw [refR_len]; rfl) | (rw [secR_len]; rfl) | (rw [List.length_map, tagF_len]; rfl) | rfl) (hB1.all)) rfl ?_
  refine o_mvc rfl ?_
  refine ops_nil ?_
  refine W_block ?_
  refine W_loop [2, 6] [2, 4, 6, 7, 8, 9, 10, 11, 12, 13, 14, 15, 16] (fun vs w' => ∃ (i : Nat) (u : Value), vs = [u, .int .i64 i] ∧ i ≤ 32 ∧ OwnB w' 5 u (nibs (key.val.take i)) ∧ InB (fun z => w1.heap.size ≤ z) u ∧ Keep All w1 w') (fun vs _ => match vs with | [_, .int _ y] => 32 - y.toNat | _ => 0) ⟨0, _, rfl, Nat.zero_le _, own_nil _ _ _, InB.nil, Keep.refl _⟩ ?_
  rintro J3 vs w3 ⟨i, u, rfl, hi, hO, hin, hk3⟩ -
  refine W_seq ?_
  refine W_region ?_
  refine op_run (r_lss rfl rfl) rfl ?_
  refine ops_nil ?_
  refine W_seq ?_
  refine W_cond_p rfl (fun h4 => ?_) (fun h4 => ?_)
  · refine W_skip ?_
    refine W_seq ?_
    refine W_block ?_
    refine W_seq ?_
    refine W_region ?_
    have hil : i < key.val.length := by rw [key.2]; omega
    obtain ⟨x, hx⟩ : ∃ x, key.val[i]? = some x := ⟨_, List.getElem?_eq_getElem hil⟩
    have htk : key.val.take (i + 1) = key.val.take i ++ [x] := by rw [List.take_succ_eq_append_getElem hil, (List.getElem?_eq_some_iff.1 hx).2]
    have hinc := inc64' i (by omega)
    have hnl := nibs_len (key.val.take i)
    rw [List.length_take, key.2, Nat.min_eq_left (by omega)] at hnl
    refine op_run (r_index1 (v := c8 x) rfl rfl rfl rfl rfl rfl (by omega) (by omega) (by rw [Int.toNat_natCast]; unfold dgR; rw [List.getElem?_map, hx]; rfl)) rfl ?_
    refine o_ast rfl ?_
    refine ops_nil ?_
    refine W_region ?_
    refine o_mvt rfl ?_
    refine o_mvt rfl ?_
    refine op_run ((r_shr rfl rfl (by decide)).val (congrArg (Value.int .u8) (show ((x.toNat : Nat) : Int).fdiv (2 ^ (min (4 : Int).toNat IntKind.u8.bits)) = (((hiN x).toNat : Nat) : Int) from by rw [Int.fdiv_eq_ediv_of_nonneg _ (by decide), hiN_nat]; rfl))) rfl ?_
    refine o_mvt rfl ?_
    refine op_run ((r_and rfl rfl).val (congrArg (Value.int .u8) (show bitw .and .u8 ((x.toNat : Nat) : Int) 15 = (((loN x).toNat : Nat) : Int) from by rw [show (15 : Int) = ((15 : Nat) : Int) from rfl, bitw_and rfl _ _ x.toNat_lt (by decide), loN_nat, show 15 = 2 ^ 4 - 1 from rfl, Nat.and_two_pow_sub_one_eq_mod]))) rfl ?_
    refine o_bsL (([hiN x, loN x].map c8)) rfl rfl rfl rfl rfl rfl rfl rfl rfl ?_; intro w6 b6 e6 hB6 hk6 hs6
    have hS6 : Sl w6 (.slice (some ⟨b6, 0, none⟩) 2 2) 2 1 ([hiN x, loN x].map c8) := (Own.blk (n := 2) (sz := 1) hB6 rfl (by unfold maxLen; omega)).sl
    have hz3 := hk3.size
    refine o_appS (v := u) rfl rfl hS6 rfl ti_u8 rfl rfl (hO.keep hk6 (fun _ _ => trivial)) (all_c8 _) (by unfold maxLen; omega) (by omega) rfl ?_; intro v7 w7 hown7 hk7 hb7
    have hO7 : OwnB w7 5 v7 (nibs (key.val.take (i + 1))) := by rw [htk, nibs_snoc]; exact OwnB.app (ys := [hiN x, loN x]) hown7
    refine o_ast rfl ?_
    refine ops_nil ?_
    refine W_region ?_
    refine op_run (r_add rfl rfl) rfl ?_
    refine o_mvt rfl ?_
    refine ops_nil ?_
    refine ⟨by (repeat (first | with_reducible exact offM_refl _ _ | refine offM_updc rfl ?_ | refine offM_upd rfl ?_ | refine offM_updo rfl ?_ | refine offM_updo_none ?_ | refine offM_head rfl rfl ?_)), ⟨i + 1, v7, congrArg (fun z : Int => [v7, Value.int .i64 z]) hinc, by omega, hO7, fun z hz => ?_, (hk3.trans hk6).own hk7 (fun z hz _ => hin z hz)⟩, ?_⟩
    · rcases hb7 z hz with h | h
      · exact hin z h
      · have := hk6.size; omega
    · show 32 - (IntKind.i64.wrap ((i : Int) + 1)).toNat < 32 - (i : Int).toNat
      rw [hinc]; omega
  · refine W_exit ?_
    refine W_seq ?_
    refine W_region ?_
    refine o_mvt rfl ?_
    refine o_ast rfl ?_
    refine ops_nil ?_
    refine W_ret ?_
    have hi32 : i = 32 := by omega
    subst hi32
    rw [show key.val.take 32 = key.val from List.take_of_length_le (by rw [key.2]; exact Nat.le_refl _)] at hO
    refine ret1 u rfl ?_ ?_; rfl
    exact ⟨hO, hin.mono fun z h => by have := hk1.size; omega, hk1.trans hk3⟩
theorem tr_common (w : World) (va vb : Value) (a b : List UInt8) (ha : By w va a) (hb : By w vb b) : Ret Try.prog 53 [va, vb].toArray w fun r w' => r = .int .i64 (comm a b : Nat) ∧ Keep All w w' := by
  obtain ⟨a0, c0, rfl, hc0, hcm0⟩ := ha.form
  obtain ⟨b0, d0, rfl, hd0, hdm0⟩ := hb.form
  refine enter (fn := Try.f53) (n := 28) Try.func53 rfl rfl (by simp) ?_
  refine W_seq ?_
  refine W_region ?_
  refine o_asc rfl ?_
  refine ops_nil ?_
  refine W_seq ?_
  refine W_region ?_
  refine o_mvt rfl ?_
  refine op_run (r_len rfl rfl rfl) rfl ?_
  refine o_mvt rfl ?_
  refine op_run (r_len rfl rfl rfl) rfl ?_
  refine op_run ((r_min rfl rfl).val (congrArg (Value.int .i64) (show (if (b.length : Int) < (a.length : Int) then (b.length : Int) else (a.length : Int)) = ((min a.length b.length : Nat) : Int) from by split <;> omega))) rfl ?_
  refine o_ast rfl ?_
  refine ops_nil ?_
  refine W_seq ?_
  refine W_seq ?_
  refine W_region ?_
  refine o_mvt rfl ?_
  refine o_mvc rfl ?_
  refine ops_nil ?_
  refine W_block ?_
  refine W_loop [13] [4, 6, 13, 14, 15, 16, 17, 18, 19, 20, 21, 22, 23, 24, 25, 26] (fun vs w' => ∃ k : Nat, vs = [.int .i64 k] ∧ k ≤ min a.length b.length ∧ a.take k = b.take k ∧ Keep All w w') (fun vs _ => match vs with | [.int _ y] => min a.length b.length - y.toNat | _ => 0) ⟨0, rfl, Nat.zero_le _, by simp, Keep.refl _⟩ ?_
  rintro J1 vs w1 ⟨k, rfl, hk, htk, hk1⟩ -
  refine W_seq ?_
  refine W_region ?_
  refine op_run (r_lss rfl rfl) rfl ?_
  refine ops_nil ?_
  refine W_seq ?_
  refine W_cond_p rfl (fun h2 => ?_) (fun h2 => ?_)
  · refine W_skip ?_
    refine W_seq ?_
    refine W_block ?_
    refine W_seq ?_
    refine W_region ?_
    refine o_mvt rfl ?_
    refine o_ast rfl ?_
    refine ops_nil ?_
    refine W_seq ?_
    have hka : k < a.length := by omega
    have hkb : k < b.length := by omega
    obtain ⟨x, hx⟩ : ∃ x, a[k]? = some x := ⟨_, List.getElem?_eq_getElem hka⟩
    obtain ⟨y, hy⟩ : ∃ y, b[k]? = some y := ⟨_, List.getElem?_eq_getElem hkb⟩
    obtain ⟨bp, op, cp, ep, _, _, hcx⟩ := (Sl.k ha hk1).at (by omega)
    cases ep
    obtain ⟨bq, oq, cq, eq_, _, _, hcy⟩ := (Sl.k hb hk1).at (by omega)
    cases eq_
    refine W_quiet (Keep All w1) (by kernel_rfl) (by kernel_rfl) (Keep.drawn _) ?_
    refine q_mvt rfl ?_
    refine q_mvt rfl ?_
    refine q_run (fun _ _ => r_idxS1 rfl rfl rfl rfl (by omega) (by omega)) rfl ?_
    refine q_run (fun _ hk => r_load (v := c8 x) rfl rfl rfl (hk.cell (by rw [Int.toNat_natCast]; exact hcx k _ (by rw [List.getElem?_map, hx]; rfl)) trivial)) rfl ?_
    refine q_mvt rfl ?_
    refine q_mvt rfl ?_
    refine q_run (fun _ _ => r_idxS1 rfl rfl rfl rfl (by omega) (by omega)) rfl ?_
    refine q_run (fun _ hk => r_load (v := c8 y) rfl rfl rfl (hk.cell (by rw [Int.toNat_natCast]; exact hcy k _ (by rw [List.getElem?_map, hy]; rfl)) trivial)) rfl ?_
    refine q_run (fun _ _ => (r_neq rfl rfl)) rfl ?_
    refine q_nil ?_; intro w8 hk8
    refine W_cond_p rfl (fun h9 => ?_) (fun h9 => ?_)
    · refine W_seq ?_
      refine W_region ?_
      refine o_mvt rfl ?_
      refine o_ast rfl ?_
      refine ops_nil ?_
      refine W_ret ?_
      refine ret1 (.int .i64 k) rfl ?_ ?_; rfl
      have hne : x ≠ y := fun e => h9 (by rw [e])
      exact ⟨by rw [comm_eq k a b htk (by omega) (by omega) (.inr (.inr (by rw [hx, hy]; exact fun h => hne (Option.some.inj h))))], hk1.trans hk8⟩
    · refine W_skip ?_
      refine W_region ?_
      refine op_run (r_add rfl rfl) rfl ?_
      refine o_mvt rfl ?_
      refine ops_nil ?_
      have hxy : x = y := UInt8.toNat_inj.1 (by have := Decidable.not_not.1 h9; omega)
      have hinc := inc64' k (by unfold maxLen at hcm0; omega)
      refine ⟨by (repeat (first | with_reducible exact offM_refl _ _ | refine offM_updc rfl ?_ | refine offM_upd rfl ?_ | refine offM_updo rfl ?_ | refine offM_updo_none ?_ | refine offM_head rfl rfl ?_)), ⟨k + 1, congrArg (fun z : Int => [Value.int .i64 z]) hinc, by omega, ?_, hk1.trans hk8⟩, ?_⟩
      · rw [List.take_succ_eq_append_getElem hka, List.take_succ_eq_append_getElem hkb, htk, (List.getElem?_eq_some_iff.1 hx).2, (List.getElem?_eq_some_iff.1 hy).2, hxy]
      · show min a.length b.length - (IntKind.i64.wrap ((k : Int) + 1)).toNat < min a.length b.length - (k : Int).toNat
        rw [hinc]; omega
  · refine W_exit ?_
    refine W_seq ?_
    refine W_region ?_
    refine o_mvt rfl ?_
    refine o_ast rfl ?_
    refine ops_nil ?_
    refine W_ret ?_
    refine ret1 (.int .i64 (min a.length b.length : Nat)) rfl ?_ ?_; rfl
    have hke : k = min a.length b.length := by omega
    exact ⟨by rw [comm_eq k a b htk (by omega) (by omega) (by omega), hke], hk1⟩
theorem tr_with (w : World) (v vk : Value) (beg : List UInt8) (kids : Nat → Tre) (at_ : UInt8) (hat : at_.toNat < 16) (K : Tre) (hv : NodeIn w (.branch beg kids) v) (hK : NodeIn w K vk) :
    Ret Try.prog 51 [v, .int .u8 at_.toNat, vk].toArray w fun r w' => NodeIn w' (.branch beg fun i => if i = at_.toNat then K else kids i) r ∧ Keep All w w' := by
  obtain ⟨b, vb, vv, bk, ps, rfl, h1, h2, h3, h4, h5, h6⟩ := hv
  obtain ⟨ak, rfl, _⟩ := hK.ptr
  obtain ⟨ab, cb, rfl, _, _⟩ := h2.form
  refine enter (fn := Try.f51) (n := 23) Try.func51 rfl rfl (by simp) ?_
  refine W_seq ?_
  refine W_region ?_
  refine o_asc rfl ?_
  refine ops_nil ?_
  refine W_seq ?_
  refine W_region ?_
  refine o_mvt rfl ?_
  refine op_run (r_nilCheck rfl) rfl ?_
  refine op_run (r_fieldAddr rfl rfl rfl rfl rfl) rfl ?_
  refine op_run (r_load rfl rfl rfl (h1.cell rfl)) rfl ?_
  refine op_run (r_nilCheck rfl) rfl ?_
  refine op_run (r_loadA (ps) rfl rfl rfl (by first | rfl | (rw [binV_len]; rfl) | (rw [dgR_len]; rfl) | (rw [refR_len]; rfl) | (rw [secR_len]; rfl) | (rw [List.length_map, tagF_len]; rfl) | (rw [h5]; rfl)) (h4.all)) rfl ?_
  refine o_alloc rfl rfl rfl ?_; intro w3 b3 e3 hB3 hk3 hs3
  refine o_storeA (cs := ps) rfl rfl (by first | rfl | exact binV_one _ | exact dgR_one _ | exact refR_one _ | exact secR_one _ | exact all_c8 _ | exact nodes_one h6) (by first | rfl | (rw [binV_len]; rfl) | (rw [dgR_len]; rfl) | (rw [refR_len]; rfl) | (rw [secR_len]; rfl) | (rw [List.length_map, tagF_len]; rfl) | (rw [h5]; rfl)) hB3 (by (rw [h5]; exact Nat.le_refl _)) rfl ?_; intro w4 hB4 hk4 hs4
  have hB4 : Blk w4 b3 ps 88 := by
    have h := hB4
    rwa [splice_all (by rw [h5]; rfl)] at h
  have hk04 : Keep All w w4 := hk3.new hk4 (by omega)
  refine ops_nil ?_
  refine W_seq ?_
  refine W_region ?_
  refine o_mvt rfl ?_
  refine o_mvt rfl ?_
  refine op_run (r_idxA1 rfl rfl rfl rfl (by omega) (by omega)) rfl ?_
  refine o_store (v := .pointer ak) rfl rfl rfl rfl hB4 (by (rw [h5, Int.toNat_natCast]; omega)) rfl ?_; intro w6 hB6 hk6 hs6
  have hB6 : Blk w6 b3 (ps.set at_.toNat (.pointer ak)) 88 := by
    have h := hB6
    rwa [Int.toNat_natCast, Nat.zero_add] at h
  have hk06 : Keep All w w6 := hk04.new hk6 (by omega)
  refine ops_nil ?_
  refine W_seq ?_
  refine W_region ?_
  refine o_mvt rfl ?_
  refine op_run (r_nilCheck rfl) rfl ?_
  refine op_run (r_fieldAddr rfl rfl rfl rfl rfl) rfl ?_
  refine op_run (r_load rfl rfl rfl ((hk06.blk' h1 trivial).cell rfl)) rfl ?_
  refine op_run (r_build ([.slice ab beg.length cb, .slice none 0 0, .pointer (some ⟨b3, 0, none⟩)]) (_) ([(0, .slice ab beg.length cb), (2, .pointer (some ⟨b3, 0, none⟩))]) rfl rfl rfl rfl rfl (rfl)) rfl ?_
  refine o_box (cs := [.slice ab beg.length cb, .slice none 0 0, .pointer (some ⟨b3, 0, none⟩)]) rfl rfl rfl ?_; intro w9 b9 e9 hB9 hk9 hs9
  refine o_ast rfl ?_
  refine ops_nil ?_
  refine W_ret ?_
  refine ret1 (.pointer (some ⟨b9, 0, none⟩)) rfl ?_ ?_; rfl
  have hk09 := hk06.trans hk9
  refine ⟨⟨b9, _, _, b3, _, rfl, hB9, Sl.k h2 hk09, rfl, hk9.blk' hB6 trivial, by rw [List.length_set, h5], fun i p hp => ?_⟩, hk09⟩
  by_cases e : i = at_.toNat
  · subst e
    rw [List.getElem?_set_self (by rw [h5]; exact hat)] at hp
    injection hp with hp; subst hp
    show NodeIn w9 (if at_.toNat = at_.toNat then K else _) _
    rw [if_pos rfl]; exact hK.k hk09
  · rw [List.getElem?_set_ne (fun h => e h.symm)] at hp
    show NodeIn w9 (if i = at_.toNat then K else kids i) _
    rw [if_neg e]; exact (h6 i p hp).k hk09
end Go.Proofs.Ytpiidddccmohdaa.B
