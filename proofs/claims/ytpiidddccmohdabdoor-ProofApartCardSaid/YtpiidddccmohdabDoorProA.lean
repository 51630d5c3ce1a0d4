/-
  ProofApart: the walk.
-/
import Derived.Test.YtpiidddccmohdabDoorProE
import Derived.Test.YtpiidddccmohdabDoorTreP
namespace Go.Proofs.YtpiidddccmohdabDoor.B
open Go
set_option linter.unusedVariables false
set_option maxHeartbeats 2000000
set_option maxRecDepth 100000
attribute [local irreducible] W OpsW OpsQ retP
attribute [local irreducible] numR kdR
theorem apart_more {T : Tre} (hw : T.wf 64) (hs : T.short) (key : Dig) (more : List UInt8) (hT : T ≠ .no) : chk (rootT T) key.val (proveT T key ++ [more]) = none := by
  unfold chk
  rw [prove_wayB, if_neg (by simp)]
  exact chk_more T 64 _ more _ hw hs hT (nibs_64 key)
theorem apart_some {key root : Dig} {more : List UInt8} (h : (chk root key.val [more]).isSome = true) : tagD 4 [more] = root := by
  unfold chk at h
  rw [if_neg (by simp)] at h
  by_cases hx : okN (nibs key.val).length (ndR ndM more) ∧ tagD 4 [more] = root
  · exact hx.2
  · rw [chkR_bad hx] at h; cases h
theorem apart_less {T : Tre} (hw : T.wf 64) (hs : T.short) (key : Dig) (hT : T ≠ .no) (hr : rootT T ≠ tagD 5 []) : chk (rootT T) key.val (proveT T key).dropLast = none := by
  unfold chk
  split
  · first | rfl | rw [if_neg hr]
  · exact chk_less T 64 _ _ hw hs hT (nibs_64 key)
theorem apart_tail {T : Tre} (key : Dig) (hr : rootT T ≠ tagD 5 []) (h1 : ∀ x, (proveT T key)[1]? = some x → tagD 4 [x] ≠ rootT T) : chk (rootT T) key.val ((proveT T key).drop 1) = none := by
  unfold chk
  split
  · first | rfl | rw [if_neg hr]
  · rename_i hne
    cases hp : (proveT T key).drop 1 with
    | nil => exact absurd hp hne
    | cons x l =>
      have hx : (proveT T key)[1]? = some x := by
        have : ((proveT T key).drop 1)[0]? = some x := by rw [hp]; rfl
        rwa [List.getElem?_drop] at this
      exact chkR_bad (fun h => h1 x hx h.2)
def apT (cs : List Cl) : Tre := cs.foldl (fun T c => if c.1 = 0 then putTT T c.2.1 c.2.2 else T) .no
theorem apT_s {cs : List Cl} {k : Nat} {c : Cl} (h : cs[k]? = some c) : apT (cs.take (k + 1)) = if c.1 = 0 then putTT (apT (cs.take k)) c.2.1 c.2.2 else apT (cs.take k) := by
  obtain ⟨h1, h2⟩ := List.getElem?_eq_some_iff.1 h
  unfold apT
  rw [List.take_succ_eq_append_getElem h1, h2, List.foldl_append]; rfl
theorem apT_ok : ∀ (cs : List Cl) (T : Tre), T.wf 64 → (∀ (k : Dig) (v : List UInt8), T.get (nibs k.val) = some v → v.length ≤ 200) → (∀ c ∈ cs, c.2.2.length ≤ 200) →
    (cs.foldl (fun T c => if c.1 = 0 then putTT T c.2.1 c.2.2 else T) T).wf 64 ∧ ∀ (k : Dig) (v : List UInt8), (cs.foldl (fun T c => if c.1 = 0 then putTT T c.2.1 c.2.2 else T) T).get (nibs k.val) = some v → v.length ≤ 200
  | [], T, hw, hg, _ => ⟨hw, hg⟩
  | c :: cs, T, hw, hg, hc => by
    refine apT_ok cs _ ?_ ?_ fun x hx => hc x (List.mem_cons_of_mem _ hx)
    · show Tre.wf (if c.1 = 0 then _ else _) _
      split
      · exact wf_putTT hw _ _
      · exact hw
    · intro k v h
      by_cases e : c.1 = 0
      · have h : (if c.1 = 0 then putTT T c.2.1 c.2.2 else T).get (nibs k.val) = some v := h
        rw [if_pos e, get_putTT hw] at h
        by_cases ek : k = c.2.1
        · rw [if_pos ek] at h; injection h with h; rw [← h]; exact hc c (List.mem_cons_self ..)
        · rw [if_neg ek] at h; exact hg k v h
      · have h : (if c.1 = 0 then putTT T c.2.1 c.2.2 else T).get (nibs k.val) = some v := h
        rw [if_neg e] at h; exact hg k v h
theorem short_get {T : Tre} (hw : T.wf 64) (h : ∀ (k : Dig) (v : List UInt8), T.get (nibs k.val) = some v → v.length ≤ 200) : T.short :=
  T.short_of 64 (Nat.le_refl _) hw fun r v hr hn hg => by
    obtain ⟨k, hk, rfl⟩ := nibs_surj 32 r (by omega) hn
    exact Nat.le_trans (h ⟨k, hk⟩ v hg) (by decide)
theorem RowsO.ones {w : World} {lo : Nat} : ∀ {vs : List Value} {bs : List (List UInt8)}, RowsO w lo vs bs → vs.all one = true
  | [], [], _ => rfl
  | v :: vs, b :: bs, h => by rw [List.all_cons, h.1.one1, RowsO.ones h.2.2]; rfl
  | [], _ :: _, h => h.elim
  | _ :: _, [], h => h.elim
theorem RowsV.snoc {w w' : World} {v v' : Value} {vs : List Value} {bs : List (List UInt8)} {u : Value} {b : List UInt8} (h : RowsV w v vs bs) (hk : Keep All w w') (hb : By w u b) (hO : Own w' 25 1 v' (0 + vs.length + 1) ([] ++ vs ++ [u])) : RowsV w' v' (vs ++ [u]) (bs ++ [b]) := by
  have hl := h.1
  refine ⟨by rw [List.length_append, List.length_append, hl]; rfl, ?_, fun i p x hp hx => ?_⟩
  · have h2 := hO.sl
    rw [Nat.zero_add, List.nil_append, hl] at h2
    rw [List.length_append]; exact h2
  · by_cases hi : i < vs.length
    · rw [List.getElem?_append_left hi] at hp
      rw [List.getElem?_append_left (by omega)] at hx
      exact Sl.k (h.2.2 i p x hp hx) hk
    · rw [List.getElem?_append_right (by omega)] at hp hx
      rw [← hl] at hx
      have hi0 : i - vs.length = 0 := by
        have := (List.getElem?_eq_some_iff.1 hp).1
        simp at this; omega
      rw [hi0] at hp hx
      have hp : u = p := Option.some.inj hp
      have hx : b = x := Option.some.inj hx
      subst hp; subst hx
      exact Sl.k hb hk
theorem RowsV.take {w : World} {a : Option Addr} {n c k : Nat} {vs : List Value} {bs : List (List UInt8)} (hn : n = bs.length) (h : RowsV w (.slice a n c) vs bs) (hk : k ≤ n) (hc : n ≤ c) : RowsV w (subSl a 1 0 k c) (vs.take k) (bs.take k) := by
  subst hn
  have hl := h.1
  refine ⟨by rw [List.length_take, List.length_take, hl], ?_, fun i p x hp hx => ?_⟩
  · have h2 := Sl.sub (l := 0) (h := k) (m := c) h.2.1 (Nat.zero_le _) hk (by omega) (Nat.le_refl _)
    rw [Nat.mul_one k, List.drop_zero, Nat.sub_zero] at h2
    rw [List.length_take, Nat.min_eq_left hk]; exact h2
  · by_cases hi : i < k
    · rw [List.getElem?_take_of_lt hi] at hp hx
      exact h.2.2 i p x hp hx
    · rw [List.getElem?_eq_none (by rw [List.length_take]; omega)] at hp; cases hp
theorem RowsV.drop1 {w : World} {a : Option Addr} {n c : Nat} {vs : List Value} {bs : List (List UInt8)} (hn : n = bs.length) (h : RowsV w (.slice a n c) vs bs) (h1 : 1 ≤ n) (hc : n ≤ c) : RowsV w (subSl a 1 1 n c) (vs.drop 1) (bs.drop 1) := by
  subst hn
  have hl := h.1
  refine ⟨by rw [List.length_drop, List.length_drop, hl], ?_, fun i p x hp hx => ?_⟩
  · have h2 := Sl.sub (l := 1) (h := bs.length) (m := c) h.2.1 h1 (Nat.le_refl _) hc (Nat.le_refl _)
    rw [Nat.mul_one, List.take_of_length_le (by omega)] at h2
    rw [List.length_drop]; exact h2
  · rw [List.getElem?_drop] at hp hx
    exact h.2.2 _ p x hp hx
theorem walk_ProofApart (w : World) (hTb : TabB w) (hne : ¬ Dig.zero = tagD 5 []) (v vm : Value) (cs : List Cl) (key : Dig) (more : List UInt8) (hv : ClsIn w v cs) (hm : By w vm more) :
    Ret Tryd.prog 3 [v, .agg (dgR key).toArray, vm].toArray w fun r w' => r = .bool true ∧ Keep All w w' := by
  obtain ⟨a0, c0, rfl, hc0, hcm0⟩ := SlR.form hv
  obtain ⟨am, cm, rfl, hcm, hcmm⟩ := hm.form
  refine enter (fn := Tryd.f3) (n := 128) Tryd.func3 rfl rfl (by simp) ?_
  refine W_seq ?_
  refine W_region ?_
  refine o_box rfl rfl rfl ?_; intro w1 b1 e1 hB1 hk1 hs1
  have hB1 : Blk w1 b1 (dgR key) 24 := hB1
  refine o_asc rfl ?_
  refine ops_nil ?_
  refine W_seq ?_
  refine W_seq ?_
  refine W_region ?_
  refine op_call rfl rfl rfl (speaks09 w1 (hTb.k hk1) hne) ?_; rintro v2 w2 ⟨rfl, hk2⟩
  refine op_run (r_not rfl) rfl ?_
  refine ops_nil ?_
  refine W_cond rfl (fun h3 => ?_) (fun h3 => ?_)
  · refine W_seq ?_
    refine W_region ?_
    refine o_asc rfl ?_
    refine ops_nil ?_
    refine W_ret ?_
    refine ret1 (.bool false) rfl ?_ ?_; rfl
    cases h3
  · refine W_skip ?_
    refine W_seq ?_
    refine W_cut [30] [24, 25, 26, 27, 28, 29, 30] (fun vs w5 => ∃ g : Bool, vs = [.bool g] ∧ (g = false → smallC cs ∧ more.length ≤ 300) ∧ Keep All w2 w5) ?_ ?_
    · refine W_region ?_
      refine o_mvt rfl ?_
      refine op_call rfl rfl rfl (lw_Great w2 _ cs (hv.k (hk1.trans hk2))) ?_; rintro v6 w6 ⟨⟨g, rfl, hg⟩, hk6⟩
      refine o_mvt rfl ?_
      refine g_split rfl rfl rfl (fun g7 => ?_) (fun g7 => ?_)
      · refine o_mvt (g_yes rfl rfl rfl g7) ?_
        refine op_run (r_len rfl rfl rfl) (g_yes rfl rfl rfl g7) ?_
        refine op_run (r_gtr rfl rfl) (g_yes rfl rfl rfl g7) ?_
        refine o_pkFt rfl g7 rfl ?_
        refine ops_nil ?_
        exact ⟨by (repeat (first | with_reducible exact offM_refl _ _ | refine offM_updc rfl ?_ | refine offM_upd rfl ?_ | refine offM_updo rfl ?_ | refine offM_updo_none ?_ | refine offM_head rfl rfl ?_)), _, rfl, fun h => ⟨hg g7, by have := of_decide_eq_false h; omega⟩, hk6⟩
      · refine op_skip (g_no rfl rfl rfl g7) ?_
        refine op_skip (g_no rfl rfl rfl g7) ?_
        refine op_skip (g_no rfl rfl rfl g7) ?_
        refine o_pkTc rfl g7 rfl ?_
        refine ops_nil ?_
        exact ⟨by (repeat (first | with_reducible exact offM_refl _ _ | refine offM_updc rfl ?_ | refine offM_upd rfl ?_ | refine offM_updo rfl ?_ | refine offM_updo_none ?_ | refine offM_head rfl rfl ?_)), true, rfl, (fun h => by cases h), hk6⟩
    · rintro J10 vs w10 ⟨g, rfl, hg, hk10⟩ -
      refine W_cond rfl (fun h11 => ?_) (fun h11 => ?_)
      · refine W_seq ?_
        refine W_region ?_
        refine o_asc rfl ?_
        refine ops_nil ?_
        refine W_ret ?_
        refine ret1 (.bool true) rfl ?_ ?_; rfl
        exact ⟨rfl, (hk1.trans hk2).trans hk10⟩
      · refine W_skip ?_
        refine W_seq ?_
        refine W_region ?_
        obtain ⟨hsm, hm300⟩ := hg h11
        have hk110 : Keep All w1 w10 := hk2.trans hk10
        have hms50 := hsm.1
        obtain ⟨X, hX⟩ : ∃ X, X = w10.heap.size := ⟨_, rfl⟩
        have hT0 := apT_ok cs .no trivial (fun k v h => by cases h) hsm.2
        obtain ⟨T, hT_⟩ : ∃ T, T = apT cs := ⟨_, rfl⟩
        have hw : T.wf 64 := by rw [hT_]; exact hT0.1
        have hs : T.short := by rw [hT_]; exact short_get hT0.1 hT0.2
        refine op_call rfl rfl rfl (tr_New w10) ?_; rintro v13 w13 ⟨rfl, hX13, hk13⟩
        rw [← hX] at hX13 ⊢
        have h1X : w1.heap.size ≤ X := by have := hk110.size; omega
        refine o_ast rfl ?_
        refine ops_nil ?_
        refine W_seq ?_
        refine W_seq ?_
        refine W_region ?_
        refine o_mvt rfl ?_
        refine op_run (r_len rfl rfl rfl) rfl ?_
        refine o_mvc rfl ?_
        refine ops_nil ?_
        refine W_block ?_
        refine W_loop [34] [9, 34, 35, 36, 37, 38, 39, 40, 41, 42, 43, 44, 45, 46, 47] (fun vs w' => ∃ k : Nat, vs = [.int .i64 k] ∧ k ≤ cs.length ∧ TrieIn w' X (apT (cs.take k)) ∧ Keep All w1 w') (fun vs _ => match vs with | [.int _ y] => cs.length - y.toNat | _ => 0) ⟨0, rfl, Nat.zero_le _, hX13, hk110.trans hk13⟩ ?_
        rintro J14 vs w14 ⟨k, rfl, hk, hX14, hk114⟩ -
        refine W_seq ?_
        refine W_region ?_
        refine op_run (r_lss rfl rfl) rfl ?_
        refine ops_nil ?_
        refine W_seq ?_
        refine W_cond_p rfl (fun h15 => ?_) (fun h15 => ?_)
        · refine W_skip ?_
          refine W_seq ?_
          refine W_block ?_
          refine W_seq ?_
          refine W_region ?_
          have hcl : k < cs.length := by omega
          obtain ⟨c, hc⟩ : ∃ c, cs[k]? = some c := ⟨_, List.getElem?_eq_getElem hcl⟩
          obtain ⟨b, off, cp, vv, ev_, hby, hcell⟩ := (hv.k (hk1.trans hk114)).at hc
          cases ev_
          obtain ⟨av, cv, rfl, _, _⟩ := hby.form
          have hinc := inc64' k (by omega)
          have hvl := hsm.2 c (List.mem_of_getElem? hc)
          refine op_run (r_idxS rfl rfl rfl rfl (by omega) (by omega)) rfl ?_
          refine op_run (r_loadA (callR c.1 c.2.1 (.slice av c.2.2.length cv)) rfl rfl rfl (by first | rfl | (rw [binV_len]; rfl) | (rw [dgR_len]; rfl) | (rw [refR_len]; rfl) | (rw [secR_len]; rfl) | (rw [List.length_map, tagF_len]; rfl) | (rw [callR_len]; rfl) | (rw [dgR_len]; rfl)) ((fun j u hj => by rw [Int.toNat_natCast]; exact hcell j u hj))) rfl ?_
          refine o_alloc rfl rfl rfl ?_; intro w18 b18 e18 hB18 hk18 hs18
          refine o_storeA (cs := callR c.1 c.2.1 (.slice av c.2.2.length cv)) rfl rfl (by first | rfl | exact binV_one _ | exact dgR_one _ | exact refR_one _ | exact secR_one _ | exact all_c8 _ | first | exact callR_one (Sl.oneI hby) | exact okC_dgR _) (by first | rfl | (rw [binV_len]; rfl) | (rw [dgR_len]; rfl) | (rw [refR_len]; rfl) | (rw [secR_len]; rfl) | (rw [List.length_map, tagF_len]; rfl) | (rw [callR_len]; rfl) | (rw [dgR_len]; rfl)) hB18 (by exact Nat.le_of_eq (by simp [callR_len])) rfl ?_; intro w19 hB19 hk19 hs19
          have hB19 : Blk w19 b18 (callR c.1 c.2.1 (.slice av c.2.2.length cv)) 31 := by
            have h := hB19
            rwa [splice_all (by simp [callR_len])] at h
          have hk1419 : Keep All w14 w19 := hk18.new hk19 (by omega)
          refine ops_nil ?_
          refine W_seq ?_
          refine W_region ?_
          refine op_run (r_fieldAddr rfl rfl rfl rfl rfl) rfl ?_
          refine op_run (r_load rfl rfl rfl (hB19.cell callR_what)) rfl ?_
          refine op_run (r_eql rfl rfl) rfl ?_
          refine ops_nil ?_
          refine W_cond_p rfl (fun h21 => ?_) (fun h21 => ?_)
          · refine W_region ?_
            refine o_mvt rfl ?_
            refine op_run (r_fieldAddr rfl rfl rfl rfl rfl) rfl ?_
            refine op_run (r_loadA (dgR c.2.1) rfl rfl rfl (by first | rfl | (rw [binV_len]; rfl) | (rw [dgR_len]; rfl) | (rw [refR_len]; rfl) | (rw [secR_len]; rfl) | (rw [List.length_map, tagF_len]; rfl) | (rw [callR_len]; rfl) | (rw [dgR_len]; rfl)) (hB19.key)) rfl ?_
            refine op_run (r_fieldAddr rfl rfl rfl rfl rfl) rfl ?_
            refine op_run (r_load rfl rfl rfl (hB19.cell callR_val)) rfl ?_
            refine op_call rfl rfl rfl (tr_Put w19 X (apT (cs.take k)) c.2.1 _ c.2.2 (hX14.k hk1419) (Sl.k hby hk1419) (by omega)) ?_; rintro v24 w24 ⟨hX24, hk24⟩
            refine ops_nil ?_
            refine W_region ?_
            refine op_run (r_add rfl rfl) rfl ?_
            refine o_mvt rfl ?_
            refine ops_nil ?_
            refine ⟨by (repeat (first | with_reducible exact offM_refl _ _ | refine offM_updc rfl ?_ | refine offM_upd rfl ?_ | refine offM_updo rfl ?_ | refine offM_updo_none ?_ | refine offM_head rfl rfl ?_)), ⟨k + 1, congrArg (fun z : Int => [Value.int .i64 z]) hinc, by omega, by rw [apT_s hc, if_pos h21]; exact hX24, (hk114.trans hk1419).new hk24 h1X⟩, ?_⟩
            show cs.length - (IntKind.i64.wrap ((k : Int) + 1)).toNat < cs.length - (k : Int).toNat
            rw [hinc]; omega
          · refine W_skip ?_
            refine W_region ?_
            refine op_run (r_add rfl rfl) rfl ?_
            refine o_mvt rfl ?_
            refine ops_nil ?_
            refine ⟨by (repeat (first | with_reducible exact offM_refl _ _ | refine offM_updc rfl ?_ | refine offM_upd rfl ?_ | refine offM_updo rfl ?_ | refine offM_updo_none ?_ | refine offM_head rfl rfl ?_)), ⟨k + 1, congrArg (fun z : Int => [Value.int .i64 z]) hinc, by omega, by rw [apT_s hc, if_neg h21]; exact hX14.k hk1419, hk114.trans hk1419⟩, ?_⟩
            show cs.length - (IntKind.i64.wrap ((k : Int) + 1)).toNat < cs.length - (k : Int).toNat
            rw [hinc]; omega
        · refine W_exit ?_
          refine W_seq ?_
          refine W_region ?_
          have hke : k = cs.length := by omega
          rw [hke, List.take_length, ← hT_] at hX14
          refine o_mvt rfl ?_
          refine op_run (r_loadA (dgR key) rfl rfl rfl (by first | rfl | (rw [binV_len]; rfl) | (rw [dgR_len]; rfl) | (rw [refR_len]; rfl) | (rw [secR_len]; rfl) | (rw [List.length_map, tagF_len]; rfl) | (rw [callR_len]; rfl) | (rw [dgR_len]; rfl)) ((hk114.blk' hB1 trivial).all)) rfl ?_
          refine op_call rfl rfl rfl (tr_Prove w14 X T key hX14 hs) ?_; rintro v28 w28 ⟨vs28, hO28, hR28, hin28, hk28⟩
          obtain ⟨a28, c28, rfl, hc28, hm28⟩ := hO28.sl.form
          have hPl := RowsO.len hR28
          have hP65 := prove_70 hw key
          have hP2k := prove_3000 hw hs key
          refine o_ast rfl ?_
          refine ops_nil ?_
          refine W_seq ?_
          refine W_region ?_
          refine o_mvt rfl ?_
          refine op_call rfl rfl rfl (tr_Root w28 X T (hX14.k hk28) hs) ?_; rintro v29 w29 ⟨rfl, hk29⟩
          refine o_alloc rfl rfl rfl ?_; intro w30 b30 e30 hB30 hk30 hs30
          refine o_storeA (cs := dgR (rootT T)) rfl rfl (by first | rfl | exact binV_one _ | exact dgR_one _ | exact refR_one _ | exact secR_one _ | exact all_c8 _ | first | exact callR_one (Sl.oneI hby) | exact okC_dgR _) (by first | rfl | (rw [binV_len]; rfl) | (rw [dgR_len]; rfl) | (rw [refR_len]; rfl) | (rw [secR_len]; rfl) | (rw [List.length_map, tagF_len]; rfl) | (rw [callR_len]; rfl) | (rw [dgR_len]; rfl)) hB30 (by exact Nat.le_of_eq (by simp [dgR_len])) rfl ?_; intro w31 hB31 hk31 hs31
          have hB31 : Blk w31 b30 (dgR (rootT T)) 24 := by
            have h := hB31
            rwa [splice_all (by simp [dgR_len])] at h
          have hk2831 : Keep All w28 w31 := (hk29.trans hk30).new hk31 (by have := hk29.size; omega)
          have hk131 : Keep All w1 w31 := (hk114.trans hk28).trans hk2831
          have hkw31 := hk1.trans hk131
          have hB1_31 := hk131.blk' hB1 trivial
          have hO31 := hO28.keep hk2831 (fun _ _ => trivial)
          have hR31 := RowsO.k hk2831 (fun _ _ _ _ _ _ => trivial) hR28
          have hV31 := RowsO.rowsV hO31 hR31
          have hm31 : By w31 (.slice am more.length cm) more := Sl.k hm hkw31
          have hones := RowsO.ones hR31
          have hlen71 : (proveT T key ++ [more]).length ≤ 70 := by rw [List.length_append]; simp only [List.length_singleton]; omega
          have hl3 : ∀ b ∈ proveT T key ++ [more], b.length ≤ 3000 := fun b hb => by
            rcases List.mem_append.1 hb with h | h
            · exact Nat.le_trans (hP2k b h) (by decide)
            · rw [List.mem_singleton.1 h]; omega
          refine ops_nil ?_
          refine W_cut [14] [12, 13, 14, 53, 54, 55, 56, 57, 58, 59, 60, 61, 62, 63, 64, 65] (fun vs w32 => vs = [.int .i64 (if (chk (rootT T) key.val (proveT T key ++ [more])).isSome then 0 else 3)] ∧ Keep All w31 w32) ?_ ?_
          · refine W_held (fun w' => Keep All w31 w') (by kernel_rfl) (Keep.drawn w31) (fun hS => ?_)
            refine any_run 0 (fun w' hS' => (r_loadA (dgR (rootT T)) rfl rfl rfl (by first | rfl | (rw [binV_len]; rfl) | (rw [dgR_len]; rfl) | (rw [refR_len]; rfl) | (rw [secR_len]; rfl) | (rw [List.length_map, tagF_len]; rfl) | (rw [callR_len]; rfl) | (rw [dgR_len]; rfl)) ((hS'.blk' hB31 trivial).all))) rfl (by kernel_rfl) (by kernel_rfl) (by kernel_rfl) rfl hS ?_
            refine any_run 1 (fun w' hS' => (r_loadA (dgR key) rfl rfl rfl (by first | rfl | (rw [binV_len]; rfl) | (rw [dgR_len]; rfl) | (rw [refR_len]; rfl) | (rw [secR_len]; rfl) | (rw [List.length_map, tagF_len]; rfl) | (rw [callR_len]; rfl) | (rw [dgR_len]; rfl)) ((hS'.blk' hB1_31 trivial).all))) rfl (by kernel_rfl) (by kernel_rfl) (by kernel_rfl) rfl hS ?_
            refine any_mvt 3 rfl (by kernel_rfl) (by kernel_rfl) (by kernel_rfl) rfl hS ?_
            refine any_mvt 5 rfl (by kernel_rfl) (by kernel_rfl) (by kernel_rfl) rfl hS ?_
            refine any_two 2 6 (by kernel_rfl) (one_of rfl ?_) (one_of rfl ?_)
            · refine o_bs0 rfl rfl rfl ?_; intro w36 b36 e36 hB36 hk36 hs36
              have hz36 := hS.size
              refine ops_nil ⟨hS.trans hk36, fun hS => ?_⟩
              refine any_two 4 6 (by kernel_rfl) (one_of rfl ?_) (one_of rfl ?_)
              · refine o_appS (v := .slice (some ⟨b36, 0, none⟩) 0 0) rfl rfl (Sl.k hO31.sl hS) rfl ti_bssP rfl rfl (Own.blk hB36 rfl (Nat.zero_le _)) hones (by unfold maxLen; omega) (by omega) rfl ?_; intro v38 w38 hown38 hk38 hb38
                have hkw38 : Keep All w31 w38 := hS.own hk38 (fun z hz _ => by have hz : some b36 = some z := hz; injection hz with hz; omega)
                have hi38 : InB (fun z => w31.heap.size ≤ z) v38 := hb38.mono fun z hz => by
                  rcases hz with h | h
                  · have h : some b36 = some z := h
                    injection h with h; omega
                  · have := hS.size; omega
                refine ops_nil ⟨hkw38, fun hS => ?_⟩
                refine any_one 6 (by kernel_rfl) (one_of rfl ?_)
                refine o_bs1 (v := (.slice am more.length cm)) rfl rfl rfl rfl rfl rfl ?_; intro w40 b40 e40 hB40 hk40 hs40
                refine ops_nil ⟨hS.trans hk40, fun hS => ?_⟩
                refine any_one 7 (by kernel_rfl) (one_of rfl ?_)
                refine o_appS (v := v38) (news := [.slice am more.length cm]) rfl rfl (Own.blk (n := 1) (sz := 1) hB40 rfl (by unfold maxLen; omega)).sl rfl ti_bssP rfl rfl (hown38.keep hk40 (fun _ _ => trivial)) rfl (by unfold maxLen; omega) (by omega) rfl ?_; intro v42 w42 hown42 hk42 hb42
                have hkw42 : Keep All w31 w42 := hS.own hk42 (fun z hz _ => hi38 z hz)
                have hrv42 := RowsV.snoc hV31 hkw42 hm31 hown42
                refine ops_nil ⟨hkw42, fun hS => ?_⟩
                refine any_one 8 (by kernel_rfl) (one_of rfl ?_)
                refine op_call rfl rfl rfl (p_Check w42 (rootT T) key v42 _ _ hrv42 hlen71 hl3 (hTb.k (hkw31.trans hkw42))) ?_; rintro v44 w44 ⟨vx44, rfl, hbx44, hk44⟩
                refine ops_nil ⟨hS.trans hk44, fun hS => ?_⟩
                refine any_mvt 9 rfl (by kernel_rfl) (by kernel_rfl) (by kernel_rfl) rfl hS ?_
                refine any_run 10 (fun w' hS' => (r_extract rfl rfl)) rfl (by kernel_rfl) (by kernel_rfl) (by kernel_rfl) rfl hS ?_
                refine any_run 11 (fun w' hS' => (r_extract rfl rfl)) rfl (by kernel_rfl) (by kernel_rfl) (by kernel_rfl) rfl hS ?_
                refine any_run 12 (fun w' hS' => (r_extract rfl rfl)) rfl (by kernel_rfl) (by kernel_rfl) (by kernel_rfl) rfl hS ?_
                refine any_ast 13 rfl (by kernel_rfl) (by kernel_rfl) (by kernel_rfl) rfl hS ?_
                refine any_ast 14 rfl (by kernel_rfl) (by kernel_rfl) (by kernel_rfl) rfl hS ?_
                refine any_ast 15 rfl (by kernel_rfl) (by kernel_rfl) (by kernel_rfl) rfl hS ?_
                refine any_done (by kernel_rfl) ?_
                exact ⟨by (repeat (first | with_reducible exact offM_refl _ _ | refine offM_updc rfl ?_ | refine offM_upd rfl ?_ | refine offM_updo rfl ?_ | refine offM_updo_none ?_ | refine offM_head rfl rfl ?_)), rfl, hS⟩
              · refine o_bs1 (v := (.slice am more.length cm)) rfl rfl rfl rfl rfl rfl ?_; intro w47 b47 e47 hB47 hk47 hs47
                refine ops_nil ⟨hS.trans hk47, fun hS => ?_⟩
                refine any_one 4 (by kernel_rfl) (one_of rfl ?_)
                refine o_appS (v := .slice (some ⟨b36, 0, none⟩) 0 0) rfl rfl (Sl.k hO31.sl hS) rfl ti_bssP rfl rfl (Own.keep (Own.blk hB36 rfl (Nat.zero_le _)) hk47 (fun _ _ => trivial)) hones (by unfold maxLen; omega) (by omega) rfl ?_; intro v49 w49 hown49 hk49 hb49
                have hkw49 : Keep All w31 w49 := hS.own hk49 (fun z hz _ => by have hz : some b36 = some z := hz; injection hz with hz; omega)
                have hi49 : InB (fun z => w31.heap.size ≤ z) v49 := hb49.mono fun z hz => by
                  rcases hz with h | h
                  · have h : some b36 = some z := h
                    injection h with h; omega
                  · have := hS.size; omega
                refine ops_nil ⟨hkw49, fun hS => ?_⟩
                refine any_one 7 (by kernel_rfl) (one_of rfl ?_)
                refine o_appS (v := v49) (news := [.slice am more.length cm]) rfl rfl (Own.blk (n := 1) (sz := 1) (hk49.blk' hB47 (fun e => by have e : some b47 = some b36 := e; injection e with e; omega)) rfl (by unfold maxLen; omega)).sl rfl ti_bssP rfl rfl hown49 rfl (by unfold maxLen; omega) (by omega) rfl ?_; intro v51 w51 hown51 hk51 hb51
                have hkw51 : Keep All w31 w51 := hS.own hk51 (fun z hz _ => hi49 z hz)
                have hrv51 := RowsV.snoc hV31 hkw51 hm31 hown51
                refine ops_nil ⟨hkw51, fun hS => ?_⟩
                refine any_one 8 (by kernel_rfl) (one_of rfl ?_)
                refine op_call rfl rfl rfl (p_Check w51 (rootT T) key v51 _ _ hrv51 hlen71 hl3 (hTb.k (hkw31.trans hkw51))) ?_; rintro v53 w53 ⟨vx53, rfl, hbx53, hk53⟩
                refine ops_nil ⟨hS.trans hk53, fun hS => ?_⟩
                refine any_mvt 9 rfl (by kernel_rfl) (by kernel_rfl) (by kernel_rfl) rfl hS ?_
                refine any_run 10 (fun w' hS' => (r_extract rfl rfl)) rfl (by kernel_rfl) (by kernel_rfl) (by kernel_rfl) rfl hS ?_
                refine any_run 11 (fun w' hS' => (r_extract rfl rfl)) rfl (by kernel_rfl) (by kernel_rfl) (by kernel_rfl) rfl hS ?_
                refine any_run 12 (fun w' hS' => (r_extract rfl rfl)) rfl (by kernel_rfl) (by kernel_rfl) (by kernel_rfl) rfl hS ?_
                refine any_ast 13 rfl (by kernel_rfl) (by kernel_rfl) (by kernel_rfl) rfl hS ?_
                refine any_ast 14 rfl (by kernel_rfl) (by kernel_rfl) (by kernel_rfl) rfl hS ?_
                refine any_ast 15 rfl (by kernel_rfl) (by kernel_rfl) (by kernel_rfl) rfl hS ?_
                refine any_done (by kernel_rfl) ?_
                exact ⟨by (repeat (first | with_reducible exact offM_refl _ _ | refine offM_updc rfl ?_ | refine offM_upd rfl ?_ | refine offM_updo rfl ?_ | refine offM_updo_none ?_ | refine offM_head rfl rfl ?_)), rfl, hS⟩
            · refine o_bs1 (v := (.slice am more.length cm)) rfl rfl rfl rfl rfl rfl ?_; intro w56 b56 e56 hB56 hk56 hs56
              have hz56 := hS.size
              refine ops_nil ⟨hS.trans hk56, fun hS => ?_⟩
              refine any_one 2 (by kernel_rfl) (one_of rfl ?_)
              refine o_bs0 rfl rfl rfl ?_; intro w58 b58 e58 hB58 hk58 hs58
              refine ops_nil ⟨hS.trans hk58, fun hS => ?_⟩
              refine any_one 4 (by kernel_rfl) (one_of rfl ?_)
              refine o_appS (v := .slice (some ⟨b58, 0, none⟩) 0 0) rfl rfl (Sl.k hO31.sl hS) rfl ti_bssP rfl rfl (Own.blk hB58 rfl (Nat.zero_le _)) hones (by unfold maxLen; omega) (by omega) rfl ?_; intro v60 w60 hown60 hk60 hb60
              have hkw60 : Keep All w31 w60 := hS.own hk60 (fun z hz _ => by have hz : some b58 = some z := hz; injection hz with hz; omega)
              have hi60 : InB (fun z => w31.heap.size ≤ z) v60 := hb60.mono fun z hz => by
                rcases hz with h | h
                · have h : some b58 = some z := h
                  injection h with h; omega
                · have := hS.size; omega
              refine ops_nil ⟨hkw60, fun hS => ?_⟩
              refine any_one 7 (by kernel_rfl) (one_of rfl ?_)
              refine o_appS (v := v60) (news := [.slice am more.length cm]) rfl rfl (Own.blk (n := 1) (sz := 1) (hk60.blk' (hk58.blk' hB56 trivial) (fun e => by have e : some b56 = some b58 := e; injection e with e; omega)) rfl (by unfold maxLen; omega)).sl rfl ti_bssP rfl rfl hown60 rfl (by unfold maxLen; omega) (by omega) rfl ?_; intro v62 w62 hown62 hk62 hb62
              have hkw62 : Keep All w31 w62 := hS.own hk62 (fun z hz _ => hi60 z hz)
              have hrv62 := RowsV.snoc hV31 hkw62 hm31 hown62
              refine ops_nil ⟨hkw62, fun hS => ?_⟩
              refine any_one 8 (by kernel_rfl) (one_of rfl ?_)
              refine op_call rfl rfl rfl (p_Check w62 (rootT T) key v62 _ _ hrv62 hlen71 hl3 (hTb.k (hkw31.trans hkw62))) ?_; rintro v64 w64 ⟨vx64, rfl, hbx64, hk64⟩
              refine ops_nil ⟨hS.trans hk64, fun hS => ?_⟩
              refine any_mvt 9 rfl (by kernel_rfl) (by kernel_rfl) (by kernel_rfl) rfl hS ?_
              refine any_run 10 (fun w' hS' => (r_extract rfl rfl)) rfl (by kernel_rfl) (by kernel_rfl) (by kernel_rfl) rfl hS ?_
              refine any_run 11 (fun w' hS' => (r_extract rfl rfl)) rfl (by kernel_rfl) (by kernel_rfl) (by kernel_rfl) rfl hS ?_
              refine any_run 12 (fun w' hS' => (r_extract rfl rfl)) rfl (by kernel_rfl) (by kernel_rfl) (by kernel_rfl) rfl hS ?_
              refine any_ast 13 rfl (by kernel_rfl) (by kernel_rfl) (by kernel_rfl) rfl hS ?_
              refine any_ast 14 rfl (by kernel_rfl) (by kernel_rfl) (by kernel_rfl) rfl hS ?_
              refine any_ast 15 rfl (by kernel_rfl) (by kernel_rfl) (by kernel_rfl) rfl hS ?_
              refine any_done (by kernel_rfl) ?_
              exact ⟨by (repeat (first | with_reducible exact offM_refl _ _ | refine offM_updc rfl ?_ | refine offM_upd rfl ?_ | refine offM_updo rfl ?_ | refine offM_updo_none ?_ | refine offM_head rfl rfl ?_)), rfl, hS⟩
          · rintro J67 vs w67 ⟨rfl, hk67⟩ -
            have hkw67 := hkw31.trans hk67
            have hB67 := hk67.blk' hB31 trivial
            have hB1_67 := hk67.blk' hB1_31 trivial
            have hm67 := Sl.k hm31 hk67
            refine W_seq ?_
            refine W_seq ?_
            refine W_region ?_
            refine o_mvt rfl ?_
            refine op_run (r_neq rfl rfl) rfl ?_
            refine ops_nil ?_
            refine W_cond rfl (fun h68 => ?_) (fun h68 => ?_)
            · refine W_seq ?_
              have hsome : (chk (rootT T) key.val (proveT T key ++ [more])).isSome = true := by
                cases h : (chk (rootT T) key.val (proveT T key ++ [more])).isSome with
                | true => rfl
                | false => rw [h] at h68; simp at h68
              have hno : T = .no := Classical.byContradiction fun e => by rw [apart_more hw hs key more e] at hsome; cases hsome
              have hP0 : proveT T key = [] := by rw [hno]; rfl
              have htag : tagD 4 [more] = rootT T := by rw [hP0] at hsome; exact apart_some hsome
              rw [hP0] at hPl
              have hv0 : vs28.length = 0 := hPl
              refine W_held (fun w' => Keep All w67 w') (by kernel_rfl) (Keep.drawn w67) (fun hS => ?_)
              refine any_mvt 0 rfl (by kernel_rfl) (by kernel_rfl) (by kernel_rfl) rfl hS ?_
              refine any_run 1 (fun w' hS' => (r_len rfl rfl rfl)) rfl (by kernel_rfl) (by kernel_rfl) (by kernel_rfl) rfl hS ?_
              refine any_run 2 (fun w' hS' => (r_eql rfl rfl)) rfl (by kernel_rfl) (by kernel_rfl) (by kernel_rfl) rfl hS ?_
              refine any_mvt 3 rfl (by kernel_rfl) (by kernel_rfl) (by kernel_rfl) rfl hS ?_
              refine a_split 71 true rfl (fun g70 => ?_) (fun g70 => ?_)
              · refine any_mvt 4 rfl (by kernel_rfl) (by kernel_rfl) (by kernel_rfl) (g_yes rfl rfl rfl g70) hS ?_
                refine any_run 7 (fun w' hS' => (r_loadA (dgR (rootT T)) rfl rfl rfl (by first | rfl | (rw [binV_len]; rfl) | (rw [dgR_len]; rfl) | (rw [refR_len]; rfl) | (rw [secR_len]; rfl) | (rw [List.length_map, tagF_len]; rfl) | (rw [callR_len]; rfl) | (rw [dgR_len]; rfl)) ((hS'.blk' hB67 trivial).all))) rfl (by kernel_rfl) (by kernel_rfl) (by kernel_rfl) (g_yes rfl rfl rfl g70) hS ?_
                refine any_one 5 (by kernel_rfl) (one_of rfl ?_)
                refine o_bs1 (v := (.slice am more.length cm)) rfl rfl rfl rfl rfl (g_yes rfl rfl rfl g70) ?_; intro w72 b72 e72 hB72 hk72 hs72
                refine ops_nil ⟨hS.trans hk72, fun hS => ?_⟩
                refine any_one 6 (by kernel_rfl) (one_of rfl ?_)
                refine op_call rfl rfl (g_yes rfl rfl rfl g70) (rf_TagD w72 _ 4 [more] (rowsB_one hB72 (Sl.k hm67 hS)) (tag_1 4 (by omega))) ?_; rintro v74 w74 ⟨rfl, hk74⟩
                refine ops_nil ⟨hS.trans hk74, fun hS => ?_⟩
                refine any_run 8 (fun w' hS' => (r_eqlC (p := tagD 4 [more] = rootT T) rfl rfl rfl rfl (by kernel_rfl) (okC_dgR _) (okC_dgR _) rfl (dgR_inj))) rfl (by kernel_rfl) (by kernel_rfl) (by kernel_rfl) (g_yes rfl rfl rfl g70) hS ?_
                refine any_run 9 (fun w' hS' => (r_pickT rfl g70)) rfl (by kernel_rfl) (by kernel_rfl) (by kernel_rfl) rfl hS ?_
                refine any_ast 10 rfl (by kernel_rfl) (by kernel_rfl) (by kernel_rfl) rfl hS ?_
                refine any_done (by kernel_rfl) ?_
                refine W_ret ?_
                refine ret1 (.bool (decide (tagD 4 [more] = rootT T))) rfl ?_ ?_; rfl
                exact ⟨by rw [decide_eq_true htag], hkw67.trans hS⟩
              · refine any_skip 4 rfl (by kernel_rfl) (by kernel_rfl) (by kernel_rfl) (g_no rfl rfl rfl g70) hS ?_
                refine any_skip 7 rfl (by kernel_rfl) (by kernel_rfl) (by kernel_rfl) (g_no rfl rfl rfl g70) hS ?_
                refine any_one 5 (by kernel_rfl) (one_of rfl ?_)
                refine op_skip (g_no rfl rfl rfl g70) ?_
                refine ops_nil ⟨hS, fun hS => ?_⟩
                refine any_one 6 (by kernel_rfl) (one_of rfl ?_)
                refine op_skip (g_no rfl rfl rfl g70) ?_
                refine ops_nil ⟨hS, fun hS => ?_⟩
                refine any_skip 8 rfl (by kernel_rfl) (by kernel_rfl) (by kernel_rfl) (g_no rfl rfl rfl g70) hS ?_
                refine any_run 9 (fun w' hS' => (r_pickF rfl g70)) rfl (by kernel_rfl) (by kernel_rfl) (by kernel_rfl) rfl hS ?_
                refine any_ast 10 rfl (by kernel_rfl) (by kernel_rfl) (by kernel_rfl) rfl hS ?_
                refine any_done (by kernel_rfl) ?_
                refine W_ret ?_
                refine ret1 (.bool false) rfl ?_ ?_; rfl
                exact absurd g70 (by rw [hv0]; decide)
            · refine W_skip ?_
              refine W_seq ?_
              refine W_seq ?_
              refine W_region ?_
              refine o_mvt rfl ?_
              refine op_run (r_len rfl rfl rfl) rfl ?_
              refine op_run (r_eql rfl rfl) rfl ?_
              refine ops_nil ?_
              refine W_cond_p rfl (fun h81 => ?_) (fun h81 => ?_)
              · refine W_seq ?_
                refine W_region ?_
                refine o_asc rfl ?_
                refine ops_nil ?_
                refine W_ret ?_
                refine ret1 (.bool true) rfl ?_ ?_; rfl
                exact ⟨rfl, hkw67⟩
              · refine W_skip ?_
                have hTn : T ≠ .no := fun e => by
                  have : (proveT T key).length = 0 := by rw [e]; rfl
                  omega
                have hO67 := hO31.keep hk67 (fun _ _ => trivial)
                have hR67 := RowsO.k hk67 (fun _ _ _ _ _ _ => trivial) hR31
                have hV67 := RowsO.rowsV hO67 hR67
                refine W_cut [15] [15, 81, 82, 83, 84, 85, 86, 87, 88, 89, 90, 91, 92, 93, 94, 95, 96, 97] (fun vs w83 => ∃ cl : Bool, vs = [.bool cl] ∧ (cl = false → rootT T ≠ tagD 5 [] ∧ ∀ x, (proveT T key)[1]? = some x → tagD 4 [x] ≠ rootT T) ∧ Keep All w67 w83) ?_ ?_
                · refine W_held (fun w' => Keep All w67 w') (by kernel_rfl) (Keep.drawn w67) (fun hS => ?_)
                  refine any_run 0 (fun w' hS' => (r_loadA (dgR (rootT T)) rfl rfl rfl (by first | rfl | (rw [binV_len]; rfl) | (rw [dgR_len]; rfl) | (rw [refR_len]; rfl) | (rw [secR_len]; rfl) | (rw [List.length_map, tagF_len]; rfl) | (rw [callR_len]; rfl) | (rw [dgR_len]; rfl)) ((hS'.blk' hB67 trivial).all))) rfl (by kernel_rfl) (by kernel_rfl) (by kernel_rfl) rfl hS ?_
                  refine any_one 1 (by kernel_rfl) (one_of rfl ?_)
                  refine op_call rfl rfl rfl (rf_TagD _ _ 5 [] (rowsB_none _) (tag_0 5)) ?_; rintro v86 w86 ⟨rfl, hk86⟩
                  refine ops_nil ⟨hS.trans hk86, fun hS => ?_⟩
                  refine any_run 2 (fun w' hS' => (r_eqlC (p := rootT T = tagD 5 []) rfl rfl rfl rfl (by kernel_rfl) (okC_dgR _) (okC_dgR _) rfl (dgR_inj))) rfl (by kernel_rfl) (by kernel_rfl) (by kernel_rfl) rfl hS ?_
                  refine any_mvt 3 rfl (by kernel_rfl) (by kernel_rfl) (by kernel_rfl) rfl hS ?_
                  refine a_split 84 false rfl (fun g89 => ?_) (fun g89 => ?_)
                  · refine any_mvt 4 rfl (by kernel_rfl) (by kernel_rfl) (by kernel_rfl) (g_yes rfl rfl rfl g89) hS ?_
                    refine any_run 5 (fun w' hS' => (r_len rfl rfl rfl)) rfl (by kernel_rfl) (by kernel_rfl) (by kernel_rfl) (g_yes rfl rfl rfl g89) hS ?_
                    refine any_run 6 (fun w' hS' => (r_gtr rfl rfl)) rfl (by kernel_rfl) (by kernel_rfl) (by kernel_rfl) (g_yes rfl rfl rfl g89) hS ?_
                    refine any_mvt 7 rfl (by kernel_rfl) (by kernel_rfl) (by kernel_rfl) (g_yes rfl rfl rfl g89) hS ?_
                    refine a_split 88 true rfl (fun g90 => ?_) (fun g90 => ?_)
                    · refine any_mvt 8 rfl (by kernel_rfl) (by kernel_rfl) (by kernel_rfl) (g_yes rfl rfl rfl g90) hS ?_
                      have g1 : 1 < vs28.length := by simp at g90; omega
                      obtain ⟨x, hx⟩ : ∃ x, (proveT T key)[1]? = some x := ⟨_, List.getElem?_eq_getElem (by omega)⟩
                      obtain ⟨vp, hvp, hOp, _⟩ := RowsO.get hR67 hx
                      have hbp := OwnB.by_ hOp
                      obtain ⟨ax, cx, rfl, _, _⟩ := hbp.form
                      obtain ⟨bo, oo, co, eo, _, _, hco⟩ := hO67.sl.at (by omega)
                      cases eo
                      have hxl := hP2k x (List.mem_of_getElem? hx)
                      refine any_run 9 (fun w' hS' => (r_idxS1 rfl rfl rfl rfl (by decide) (by omega))) rfl (by kernel_rfl) (by kernel_rfl) (by kernel_rfl) (g_yes rfl rfl rfl g90) hS ?_
                      refine any_run 10 (fun w' hS' => (r_load (v := .slice ax x.length cx) rfl rfl rfl (hS'.cell (hco 1 _ hvp) trivial))) rfl (by kernel_rfl) (by kernel_rfl) (by kernel_rfl) (g_yes rfl rfl rfl g90) hS ?_
                      refine any_run 13 (fun w' hS' => (r_loadA (dgR (rootT T)) rfl rfl rfl (by first | rfl | (rw [binV_len]; rfl) | (rw [dgR_len]; rfl) | (rw [refR_len]; rfl) | (rw [secR_len]; rfl) | (rw [List.length_map, tagF_len]; rfl) | (rw [callR_len]; rfl) | (rw [dgR_len]; rfl)) ((hS'.blk' hB67 trivial).all))) rfl (by kernel_rfl) (by kernel_rfl) (by kernel_rfl) (g_yes rfl rfl rfl g90) hS ?_
                      refine any_one 11 (by kernel_rfl) (one_of rfl ?_)
                      refine o_bs1 (v := (.slice ax x.length cx)) rfl rfl rfl rfl rfl (g_yes rfl rfl rfl g90) ?_; intro w94 b94 e94 hB94 hk94 hs94
                      refine ops_nil ⟨hS.trans hk94, fun hS => ?_⟩
                      refine any_one 12 (by kernel_rfl) (one_of rfl ?_)
                      refine op_call rfl rfl (g_yes rfl rfl rfl g90) (rf_TagD w94 _ 4 [x] (rowsB_one hB94 (Sl.k hbp hS)) (tag_1 4 (by omega))) ?_; rintro v96 w96 ⟨rfl, hk96⟩
                      refine ops_nil ⟨hS.trans hk96, fun hS => ?_⟩
                      refine any_run 14 (fun w' hS' => (r_eqlC (p := tagD 4 [x] = rootT T) rfl rfl rfl rfl (by kernel_rfl) (okC_dgR _) (okC_dgR _) rfl (dgR_inj))) rfl (by kernel_rfl) (by kernel_rfl) (by kernel_rfl) (g_yes rfl rfl rfl g90) hS ?_
                      refine any_run 15 (fun w' hS' => (r_pickT rfl g90)) rfl (by kernel_rfl) (by kernel_rfl) (by kernel_rfl) (g_yes rfl rfl rfl g89) hS ?_
                      refine any_run 16 (fun w' hS' => (r_pickF rfl g89)) rfl (by kernel_rfl) (by kernel_rfl) (by kernel_rfl) rfl hS ?_
                      refine any_ast 17 rfl (by kernel_rfl) (by kernel_rfl) (by kernel_rfl) rfl hS ?_
                      refine any_done (by kernel_rfl) ?_
                      exact ⟨by (repeat (first | with_reducible exact offM_refl _ _ | refine offM_updc rfl ?_ | refine offM_upd rfl ?_ | refine offM_updo rfl ?_ | refine offM_updo_none ?_ | refine offM_head rfl rfl ?_)), decide (tagD 4 [x] = rootT T), rfl, (fun h => ⟨by simpa using g89, fun y hy => by rw [hx] at hy; injection hy with hy; rw [← hy]; exact of_decide_eq_false h⟩), hS⟩
                    · refine any_skip 8 rfl (by kernel_rfl) (by kernel_rfl) (by kernel_rfl) (g_no rfl rfl rfl g90) hS ?_
                      refine any_skip 9 rfl (by kernel_rfl) (by kernel_rfl) (by kernel_rfl) (g_no rfl rfl rfl g90) hS ?_
                      refine any_skip 10 rfl (by kernel_rfl) (by kernel_rfl) (by kernel_rfl) (g_no rfl rfl rfl g90) hS ?_
                      refine any_skip 13 rfl (by kernel_rfl) (by kernel_rfl) (by kernel_rfl) (g_no rfl rfl rfl g90) hS ?_
                      refine any_one 11 (by kernel_rfl) (one_of rfl ?_)
                      refine op_skip (g_no rfl rfl rfl g90) ?_
                      refine ops_nil ⟨hS, fun hS => ?_⟩
                      refine any_one 12 (by kernel_rfl) (one_of rfl ?_)
                      refine op_skip (g_no rfl rfl rfl g90) ?_
                      refine ops_nil ⟨hS, fun hS => ?_⟩
                      refine any_skip 14 rfl (by kernel_rfl) (by kernel_rfl) (by kernel_rfl) (g_no rfl rfl rfl g90) hS ?_
                      refine any_run 15 (fun w' hS' => (r_pickF rfl g90)) rfl (by kernel_rfl) (by kernel_rfl) (by kernel_rfl) (g_yes rfl rfl rfl g89) hS ?_
                      refine any_run 16 (fun w' hS' => (r_pickF rfl g89)) rfl (by kernel_rfl) (by kernel_rfl) (by kernel_rfl) rfl hS ?_
                      refine any_ast 17 rfl (by kernel_rfl) (by kernel_rfl) (by kernel_rfl) rfl hS ?_
                      refine any_done (by kernel_rfl) ?_
                      exact ⟨by (repeat (first | with_reducible exact offM_refl _ _ | refine offM_updc rfl ?_ | refine offM_upd rfl ?_ | refine offM_updo rfl ?_ | refine offM_updo_none ?_ | refine offM_head rfl rfl ?_)), false, rfl, (fun h => ⟨by simpa using g89, fun y hy => by have := (List.getElem?_eq_some_iff.1 hy).1; simp at g90; omega⟩), hS⟩
                  · refine any_skip 4 rfl (by kernel_rfl) (by kernel_rfl) (by kernel_rfl) (g_no rfl rfl rfl g89) hS ?_
                    refine any_skip 5 rfl (by kernel_rfl) (by kernel_rfl) (by kernel_rfl) (g_no rfl rfl rfl g89) hS ?_
                    refine any_skip 6 rfl (by kernel_rfl) (by kernel_rfl) (by kernel_rfl) (g_no rfl rfl rfl g89) hS ?_
                    refine any_skip 7 rfl (by kernel_rfl) (by kernel_rfl) (by kernel_rfl) (g_no rfl rfl rfl g89) hS ?_
                    refine any_skip 8 rfl (by kernel_rfl) (by kernel_rfl) (by kernel_rfl) (g_und rfl rfl rfl) hS ?_
                    refine any_skip 9 rfl (by kernel_rfl) (by kernel_rfl) (by kernel_rfl) (g_und rfl rfl rfl) hS ?_
                    refine any_skip 10 rfl (by kernel_rfl) (by kernel_rfl) (by kernel_rfl) (g_und rfl rfl rfl) hS ?_
                    refine any_skip 13 rfl (by kernel_rfl) (by kernel_rfl) (by kernel_rfl) (g_und rfl rfl rfl) hS ?_
                    refine any_one 11 (by kernel_rfl) (one_of rfl ?_)
                    refine op_skip (g_und rfl rfl rfl) ?_
                    refine ops_nil ⟨hS, fun hS => ?_⟩
                    refine any_one 12 (by kernel_rfl) (one_of rfl ?_)
                    refine op_skip (g_und rfl rfl rfl) ?_
                    refine ops_nil ⟨hS, fun hS => ?_⟩
                    refine any_skip 14 rfl (by kernel_rfl) (by kernel_rfl) (by kernel_rfl) (g_und rfl rfl rfl) hS ?_
                    refine any_skip 15 rfl (by kernel_rfl) (by kernel_rfl) (by kernel_rfl) (g_no rfl rfl rfl g89) hS ?_
                    refine any_run 16 (fun w' hS' => (r_pickT rfl g89)) rfl (by kernel_rfl) (by kernel_rfl) (by kernel_rfl) rfl hS ?_
                    refine any_ast 17 rfl (by kernel_rfl) (by kernel_rfl) (by kernel_rfl) rfl hS ?_
                    refine any_done (by kernel_rfl) ?_
                    exact ⟨by (repeat (first | with_reducible exact offM_refl _ _ | refine offM_updc rfl ?_ | refine offM_upd rfl ?_ | refine offM_updo rfl ?_ | refine offM_updo_none ?_ | refine offM_head rfl rfl ?_)), true, rfl, (fun h => by cases h), hS⟩
                · rintro J106 vs w106 ⟨cl, rfl, hcl, hk106⟩ -
                  have hkw106 := hkw67.trans hk106
                  have hV106 : RowsV w106 (.slice a28 vs28.length c28) vs28 (proveT T key) := hV67.k hk106
                  have hr1 : (proveT T key).length = vs28.length := hPl.symm
                  refine W_seq ?_
                  refine W_held (fun w' => Keep All w106 w') (by kernel_rfl) (Keep.drawn w106) (fun hS => ?_)
                  refine any_run 0 (fun w' hS' => (r_loadA (dgR (rootT T)) rfl rfl rfl (by first | rfl | (rw [binV_len]; rfl) | (rw [dgR_len]; rfl) | (rw [refR_len]; rfl) | (rw [secR_len]; rfl) | (rw [List.length_map, tagF_len]; rfl) | (rw [callR_len]; rfl) | (rw [dgR_len]; rfl)) (((hk106.trans hS').blk' hB67 trivial).all))) rfl (by kernel_rfl) (by kernel_rfl) (by kernel_rfl) rfl hS ?_
                  refine any_run 1 (fun w' hS' => (r_loadA (dgR key) rfl rfl rfl (by first | rfl | (rw [binV_len]; rfl) | (rw [dgR_len]; rfl) | (rw [refR_len]; rfl) | (rw [secR_len]; rfl) | (rw [List.length_map, tagF_len]; rfl) | (rw [callR_len]; rfl) | (rw [dgR_len]; rfl)) (((hk106.trans hS').blk' hB1_67 trivial).all))) rfl (by kernel_rfl) (by kernel_rfl) (by kernel_rfl) rfl hS ?_
                  refine any_mvt 2 rfl (by kernel_rfl) (by kernel_rfl) (by kernel_rfl) rfl hS ?_
                  refine any_mvt 3 rfl (by kernel_rfl) (by kernel_rfl) (by kernel_rfl) rfl hS ?_
                  refine any_run 4 (fun w' hS' => (r_len rfl rfl rfl)) rfl (by kernel_rfl) (by kernel_rfl) (by kernel_rfl) rfl hS ?_
                  refine any_run 5 (fun w' hS' => ((r_sub rfl rfl).val (congrArg (Value.int .i64) (show IntKind.i64.wrap ((vs28.length : Int) - 1) = ((vs28.length - 1 : Nat) : Int) from (wrap_i64 (by omega) (by omega)).trans (by omega))))) rfl (by kernel_rfl) (by kernel_rfl) (by kernel_rfl) rfl hS ?_
                  refine any_run 6 (fun w' hS' => (r_sliceS_hi rfl rfl rfl rfl (by omega) (by omega))) rfl (by kernel_rfl) (by kernel_rfl) (by kernel_rfl) rfl hS ?_
                  refine any_one 7 (by kernel_rfl) (one_of rfl ?_)
                  refine op_call rfl rfl rfl (p_Check _ (rootT T) key (subSl a28 1 0 (vs28.length - 1) c28) _ _ (RowsV.take (k := vs28.length - 1) hPl (hV106.k hS) (by omega) (by omega)) (by rw [List.length_take]; omega) (fun b hb => Nat.le_trans (hP2k b (List.mem_of_mem_take hb)) (by decide)) (hTb.k (hkw106.trans hS))) ?_; rintro v111 w111 ⟨vx, rfl, hbx, hk111⟩
                  refine ops_nil ⟨hS.trans hk111, fun hS => ?_⟩
                  refine any_mvt 8 rfl (by kernel_rfl) (by kernel_rfl) (by kernel_rfl) rfl hS ?_
                  refine any_run 9 (fun w' hS' => (r_extract rfl rfl)) rfl (by kernel_rfl) (by kernel_rfl) (by kernel_rfl) rfl hS ?_
                  refine any_run 10 (fun w' hS' => (r_extract rfl rfl)) rfl (by kernel_rfl) (by kernel_rfl) (by kernel_rfl) rfl hS ?_
                  refine any_run 11 (fun w' hS' => (r_extract rfl rfl)) rfl (by kernel_rfl) (by kernel_rfl) (by kernel_rfl) rfl hS ?_
                  refine any_ast 12 rfl (by kernel_rfl) (by kernel_rfl) (by kernel_rfl) rfl hS ?_
                  refine any_ast 13 rfl (by kernel_rfl) (by kernel_rfl) (by kernel_rfl) rfl hS ?_
                  refine any_ast 14 rfl (by kernel_rfl) (by kernel_rfl) (by kernel_rfl) rfl hS ?_
                  refine any_done (by kernel_rfl) ?_
                  refine W_seq ?_
                  have hk106111 : Keep All w106 w111 := hS
                  refine W_held (fun w' => Keep All w111 w') (by kernel_rfl) (Keep.drawn w111) (fun hS => ?_)
                  refine any_run 0 (fun w' hS' => (r_loadA (dgR (rootT T)) rfl rfl rfl (by first | rfl | (rw [binV_len]; rfl) | (rw [dgR_len]; rfl) | (rw [refR_len]; rfl) | (rw [secR_len]; rfl) | (rw [List.length_map, tagF_len]; rfl) | (rw [callR_len]; rfl) | (rw [dgR_len]; rfl)) ((((hk106.trans hk106111).trans hS').blk' hB67 trivial).all))) rfl (by kernel_rfl) (by kernel_rfl) (by kernel_rfl) rfl hS ?_
                  refine any_run 1 (fun w' hS' => (r_loadA (dgR key) rfl rfl rfl (by first | rfl | (rw [binV_len]; rfl) | (rw [dgR_len]; rfl) | (rw [refR_len]; rfl) | (rw [secR_len]; rfl) | (rw [List.length_map, tagF_len]; rfl) | (rw [callR_len]; rfl) | (rw [dgR_len]; rfl)) ((((hk106.trans hk106111).trans hS').blk' hB1_67 trivial).all))) rfl (by kernel_rfl) (by kernel_rfl) (by kernel_rfl) rfl hS ?_
                  refine any_mvt 2 rfl (by kernel_rfl) (by kernel_rfl) (by kernel_rfl) rfl hS ?_
                  refine any_run 3 (fun w' hS' => (r_sliceS_lo rfl rfl rfl rfl (by omega) (by omega))) rfl (by kernel_rfl) (by kernel_rfl) (by kernel_rfl) rfl hS ?_
                  refine any_one 4 (by kernel_rfl) (one_of rfl ?_)
                  refine op_call rfl rfl rfl (p_Check _ (rootT T) key (subSl a28 1 1 vs28.length c28) _ _ (RowsV.drop1 hPl (hV106.k (hk106111.trans hS)) (by omega) (by omega)) (by rw [List.length_drop]; omega) (fun b hb => Nat.le_trans (hP2k b (List.mem_of_mem_drop hb)) (by decide)) (hTb.k ((hkw106.trans hk106111).trans hS))) ?_; rintro v117 w117 ⟨vy, rfl, hby2, hk117⟩
                  refine ops_nil ⟨hS.trans hk117, fun hS => ?_⟩
                  have hkwE := (hkw106.trans hk106111).trans hS
                  have hC2 : cl = false → chk (rootT T) key.val ((proveT T key).take (vs28.length - 1)) = none := fun h => by
                    rw [hPl, ← List.dropLast_eq_take]; exact apart_less hw hs key hTn (hcl h).1
                  have hC3 : cl = false → chk (rootT T) key.val ((proveT T key).drop 1) = none := fun h => apart_tail key (hcl h).1 (hcl h).2
                  refine any_mvt 5 rfl (by kernel_rfl) (by kernel_rfl) (by kernel_rfl) rfl hS ?_
                  refine any_run 6 (fun w' hS' => (r_extract rfl rfl)) rfl (by kernel_rfl) (by kernel_rfl) (by kernel_rfl) rfl hS ?_
                  refine any_run 7 (fun w' hS' => (r_extract rfl rfl)) rfl (by kernel_rfl) (by kernel_rfl) (by kernel_rfl) rfl hS ?_
                  refine any_run 8 (fun w' hS' => (r_extract rfl rfl)) rfl (by kernel_rfl) (by kernel_rfl) (by kernel_rfl) rfl hS ?_
                  refine any_ast 9 rfl (by kernel_rfl) (by kernel_rfl) (by kernel_rfl) rfl hS ?_
                  refine any_ast 10 rfl (by kernel_rfl) (by kernel_rfl) (by kernel_rfl) rfl hS ?_
                  refine any_ast 11 rfl (by kernel_rfl) (by kernel_rfl) (by kernel_rfl) rfl hS ?_
                  refine any_done (by kernel_rfl) ?_
                  refine W_seq ?_
                  refine W_region ?_
                  refine o_mvt rfl ?_
                  refine op_run (r_eql rfl rfl) rfl ?_
                  refine o_mvt rfl ?_
                  refine g_split rfl rfl rfl (fun g119 => ?_) (fun g119 => ?_)
                  · refine o_mvt (g_yes rfl rfl rfl g119) ?_
                    refine op_run (r_eql rfl rfl) (g_yes rfl rfl rfl g119) ?_
                    refine o_pkTt rfl g119 rfl ?_
                    refine o_mvt rfl ?_
                    refine g_split rfl rfl rfl (fun g120 => ?_) (fun g120 => ?_)
                    · refine o_mvt (g_yes rfl rfl rfl g120) ?_
                      refine o_pkFt rfl g120 rfl ?_
                      refine o_ast rfl ?_
                      refine ops_nil ?_
                      refine W_ret ?_
                      refine ret1 (.bool cl) rfl ?_ ?_; rfl
                      refine ⟨congrArg Value.bool ?_, hkwE⟩
                      cases hcc : cl with
                      | true => rfl
                      | false => rw [hC3 hcc] at g120; simp at g120
                    · refine op_skip (g_no rfl rfl rfl g120) ?_
                      refine o_pkTc rfl g120 rfl ?_
                      refine o_ast rfl ?_
                      refine ops_nil ?_
                      refine W_ret ?_
                      refine ret1 (.bool true) rfl ?_ ?_; rfl
                      exact ⟨rfl, hkwE⟩
                  · refine op_skip (g_no rfl rfl rfl g119) ?_
                    refine op_skip (g_no rfl rfl rfl g119) ?_
                    refine o_pkFc rfl g119 rfl ?_
                    refine o_mvt rfl ?_
                    refine o_mvt (g_yes rfl rfl rfl rfl) ?_
                    refine o_pkFt rfl rfl rfl ?_
                    refine o_ast rfl ?_
                    refine ops_nil ?_
                    refine W_ret ?_
                    refine ret1 (.bool cl) rfl ?_ ?_; rfl
                    refine ⟨congrArg Value.bool ?_, hkwE⟩
                    cases hcc : cl with
                    | true => rfl
                    | false => rw [hC2 hcc] at g119; simp at g119
end Go.Proofs.YtpiidddccmohdabDoor.B
