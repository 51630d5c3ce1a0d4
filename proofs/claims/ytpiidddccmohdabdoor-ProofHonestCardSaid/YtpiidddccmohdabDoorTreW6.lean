/-
  trie: a node's bytes, its digest, the root.
-/
import Derived.Test.YtpiidddccmohdabDoorTreW5
import Derived.Test.YtpiidddccmohdabDoorMTag
import Derived.Test.YtpiidddccmohdabDoorTagD
namespace Go.Proofs.YtpiidddccmohdabDoor.B
open Go
set_option linter.unusedVariables false
set_option maxHeartbeats 2000000
set_option maxRecDepth 100000
attribute [local irreducible] W OpsW OpsQ retP
theorem rowsB_none (w : World) : SlR w (.slice none 0 0) 1 (RowB w) [] := ⟨none, 0, rfl, Nat.le_refl _, Nat.zero_le _, fun _ => rfl, fun x hx => by cases hx⟩
def maskTo (K : Nat → Tre) : Nat → Nat
  | 0 => 0
  | n + 1 => maskTo K n + if (K n).isNo = true then 0 else 2 ^ n
theorem maskTo_lt (K : Nat → Tre) : ∀ n, maskTo K n < 2 ^ n
  | 0 => Nat.lt_add_one 0
  | n + 1 => by
    have h := maskTo_lt K n
    unfold maskTo
    rw [Nat.pow_succ]
    split <;> omega
/-- A node's bytes. -/
def nodeB : Tre → List UInt8
  | .no => []
  | .leaf b v => (encN 0 ++ encB b) ++ encB v
  | .branch b k => ((encN 1 ++ encB b) ++ encN (maskTo k 16)) ++ (List.range 16).flatMap fun i => if (k i).isNo = true then [] else (tagD 4 [nodeB (k i)]).val
def digsTo (K : Nat → Tre) (n : Nat) : List UInt8 := (List.range n).flatMap fun i => if (K i).isNo = true then [] else (tagD 4 [nodeB (K i)]).val
theorem nodeB_br (b : List UInt8) (k : Nat → Tre) : nodeB (.branch b k) = ((encN 1 ++ encB b) ++ encN (maskTo k 16)) ++ digsTo k 16 := by rw [nodeB]; rfl
theorem digsTo_s (K : Nat → Tre) (n : Nat) : digsTo K (n + 1) = digsTo K n ++ if (K n).isNo = true then [] else (tagD 4 [nodeB (K n)]).val := by
  unfold digsTo; rw [List.range_succ, List.flatMap_append]; simp
theorem digsTo_len (K : Nat → Tre) : ∀ n, (digsTo K n).length ≤ 32 * n
  | 0 => Nat.le_refl _
  | n + 1 => by
    have h := digsTo_len K n
    rw [digsTo_s, List.length_append]
    split
    · rw [List.length_nil]; omega
    · rw [(tagD 4 [nodeB (K n)]).2]; omega
/-- Its beginnings and values are short. -/
def Tre.short : Tre → Prop
  | .no => True
  | .leaf b v => b.length ≤ 64 ∧ v.length ≤ 1000
  | .branch b k => b.length ≤ 64 ∧ ∀ i, (k i).short
theorem Tre.short_of : ∀ (T : Tre) (L : Nat), L ≤ 64 → T.wf L → (∀ r v, r.length = L → nib16 r → T.get r = some v → v.length ≤ 1000) → T.short := by
  intro T
  induction T with
  | no => intro L _ _ _; trivial
  | leaf b v => intro L hL hw h; exact ⟨by rw [hw.1]; exact hL, h b v hw.1 hw.2 (if_pos rfl)⟩
  | branch b k ih =>
    intro L hL hw h
    have hlt := hw.1
    refine ⟨by omega, fun i => ?_⟩
    by_cases hi : 16 ≤ i
    · rw [hw.2.2.2.1 i hi]; trivial
    · have hi16 : i < 16 := by omega
      refine ih i (L - b.length - 1) (by omega) (hw.2.2.1 i) fun r v hr hn hg => h (b ++ i.toUInt8 :: r) v (by rw [List.length_append, List.length_cons]; omega) (fun x hx => ?_) (by rw [Tre.get_br, u8_of hi16]; exact hg)
      rcases List.mem_append.1 hx with h | h
      · exact hw.2.1 x h
      · rcases List.mem_cons.1 h with rfl | h
        · rw [u8_of hi16]; exact hi16
        · exact hn x h
theorem nodeB_len {T : Tre} (h : T.short) : (nodeB T).length ≤ 2000 := by
  cases T with
  | no => exact Nat.zero_le _
  | leaf b v =>
    have h1 := encN_len10 (v := 0) (by decide)
    have h2 := encB_len b (by have := h.1; omega)
    have h3 := encB_len v (by have := h.2; omega)
    have := h.1; have := h.2
    rw [nodeB, List.length_append, List.length_append]; omega
  | branch b k =>
    have h1 := encN_len10 (v := 1) (by decide)
    have h2 := encB_len b (by have := h.1; omega)
    have h3 := encN_len10 (v := maskTo k 16) (by have := maskTo_lt k 16; omega)
    have h4 := digsTo_len k 16
    have := h.1
    rw [nodeB_br, List.length_append, List.length_append, List.length_append]; omega
def BytesOk (T : Tre) : Prop := ∀ (w : World) (v : Value), NodeIn w T v → Ret Tryd.prog 20 [v].toArray w fun r w' => OwnB w' 5 r (nodeB T) ∧ InB (fun z => w.heap.size ≤ z) r ∧ Keep All w w'
theorem tr_digest1 (T : Tre) (hs : T.short) (hb : BytesOk T) (w : World) (v : Value) (hv : NodeIn w T v) : Ret Tryd.prog 22 [v].toArray w fun r w' => r = .agg (dgR (tagD 4 [nodeB T])).toArray ∧ Keep All w w' := by
  have hl := nodeB_len hs
  refine enter (fn := Tryd.f22) (n := 7) Tryd.func22 rfl rfl (by simp) ?_
  refine W_seq ?_
  refine W_region ?_
  refine o_alloc rfl rfl rfl ?_; intro w1 b1 e1 hB1 hk1 hs1
  refine ops_nil ?_
  refine W_seq ?_
  refine W_region ?_
  refine o_mvt rfl ?_
  refine op_call rfl rfl rfl (hb w1 v (hv.k hk1)) ?_; rintro v2 w2 ⟨hO2, hin2, hk2⟩
  obtain ⟨a2, c2, rfl, _, _⟩ := (OwnB.by_ hO2).form
  refine o_bs1 (v := (.slice a2 (nodeB T).length c2)) rfl rfl rfl rfl rfl rfl ?_; intro w3 b3 e3 hB3 hk3 hs3
  refine op_call rfl rfl rfl (sh_TagD w3 _ 4 [nodeB T] (rowsB_one hB3 (Sl.k (OwnB.by_ hO2) hk3)) (tag_1 4 (by omega))) ?_; rintro v4 w4 ⟨rfl, hk4⟩
  refine o_storeA (cs := dgR (tagD 4 [nodeB T])) rfl rfl (by first | rfl | exact binV_one _ | exact dgR_one _ | exact refR_one _ | exact secR_one _ | exact all_c8 _ | exact okC_dgR _) (by first | rfl | (rw [binV_len]; rfl) | (rw [dgR_len]; rfl) | (rw [refR_len]; rfl) | (rw [secR_len]; rfl) | (rw [List.length_map, tagF_len]; rfl) | (rw [dgR_len]; rfl)) (hk4.blk' (hk3.blk' (hk2.blk' hB1 trivial) trivial) trivial) (by exact Nat.le_of_eq (by simp [dgR_len])) rfl ?_; intro w5 hB5 hk5 hs5
  have hB5 : Blk w5 b1 (dgR (tagD 4 [nodeB T])) 24 := by
    have h := hB5
    rwa [splice_all (by simp [dgR_len])] at h
  refine ops_nil ?_
  refine W_ret ?_
  refine retA (dgR (tagD 4 [nodeB T])) rfl rfl rfl rfl (by first | rfl | (rw [binV_len]; rfl) | (rw [dgR_len]; rfl) | (rw [refR_len]; rfl) | (rw [secR_len]; rfl) | (rw [List.length_map, tagF_len]; rfl) | (rw [dgR_len]; rfl)) hB5.all ?_
  exact ⟨rfl, (((hk1.trans hk2).trans hk3).trans hk4).new hk5 (by omega)⟩
theorem shl16 : ∀ k : Fin 16, IntKind.u64.wrap (1 * 2 ^ (min ((k.val : Int)).toNat IntKind.u64.bits)) = ((2 ^ k.val : Nat) : Int) := by decide
theorem or_pow {m k : Nat} (h : m < 2 ^ k) : m ||| 2 ^ k = m + 2 ^ k := by
  have := Nat.two_pow_add_eq_or_of_lt h 1
  rw [Nat.mul_one] at this
  rw [Nat.or_comm, ← this, Nat.add_comm]
theorem mask_or (K : Nat → Tre) (k : Nat) (hk : k < 16) (hn : K k ≠ .no) : bitw .or .u64 ((maskTo K k : Nat) : Int) ((2 ^ k : Nat) : Int) = ((maskTo K (k + 1) : Nat) : Int) := by
  have h1 := maskTo_lt K k
  have h2 : 2 ^ k < 2 ^ 16 := Nat.pow_lt_pow_right (by decide) hk
  rw [bitw_or rfl _ _ (by show _ < 2 ^ 64; omega) (by show _ < 2 ^ 64; omega), or_pow h1]
  show _ = ((maskTo K k + (if (K k).isNo = true then 0 else 2 ^ k) : Nat) : Int)
  rw [Tre.notNo.2 hn, if_neg (by decide)]
theorem tr_bytes1 (T : Tre) (hT : T ≠ .no) (hs : T.short) (hwf : ∀ b k, T = .branch b k → ∀ i, 16 ≤ i → k i = .no) (ih : ∀ b k, T = .branch b k → ∀ i, k i ≠ .no → BytesOk (k i)) : BytesOk T := by
  intro w v hv
  obtain ⟨b, vb, vvn, pk, rfl, hB, hb, hvn, hcase⟩ := hv.open hT
  obtain ⟨ab, cb, rfl, hcb0, hcbm⟩ := hb.form
  refine enter (fn := Tryd.f20) (n := 56) Tryd.func20 rfl rfl (by simp) ?_
  refine W_seq ?_
  refine W_region ?_
  refine o_asc rfl ?_
  refine ops_nil ?_
  refine W_seq ?_
  refine W_seq ?_
  refine W_region ?_
  refine o_mvt rfl ?_
  refine op_run (r_nilCheck rfl) rfl ?_
  refine op_run (r_fieldAddr rfl rfl rfl rfl rfl) rfl ?_
  refine op_run (r_load rfl rfl rfl (hB.cell rfl)) rfl ?_
  refine op_run (r_isNilP rfl rfl) rfl ?_
  refine ops_nil ?_
  refine W_cond rfl (fun h2 => ?_) (fun h2 => ?_)
  · refine W_seq ?_
    obtain ⟨beg, val, rfl, hval⟩ : ∃ beg val, T = .leaf beg val ∧ By w vvn val := by
      rcases hcase with ⟨_, beg, v0, e, h⟩ | ⟨_, _, _, _, _, e, _⟩
      · exact ⟨_, _, e, h⟩
      · subst e; cases h2
    obtain ⟨av, cv, rfl, _, _⟩ := hval.form
    have hb : By w (.slice ab beg.length cb) beg := hb
    have hB : Blk w b [.slice ab beg.length cb, .slice av val.length cv, .pointer pk] 69 := hB
    have hs1 := hs.1
    have hs2 := hs.2
    have hn10 := encN_len10 (v := 0) (by decide)
    have hb10 := encB_len beg (by omega)
    refine W_held (fun w' => Keep All w w') (by kernel_rfl) (Keep.drawn w) (fun hS => ?_)
    refine any_mvt 1 rfl (by kernel_rfl) (by kernel_rfl) (by kernel_rfl) rfl hS ?_
    refine any_run 2 (fun w' hS' => (r_nilCheck rfl)) rfl (by kernel_rfl) (by kernel_rfl) (by kernel_rfl) rfl hS ?_
    refine any_run 3 (fun w' hS' => (r_fieldAddr rfl rfl rfl rfl rfl)) rfl (by kernel_rfl) (by kernel_rfl) (by kernel_rfl) rfl hS ?_
    refine any_run 4 (fun w' hS' => (r_load rfl rfl rfl (((hS'.blk' hB trivial).cell rfl)))) rfl (by kernel_rfl) (by kernel_rfl) (by kernel_rfl) rfl hS ?_
    refine any_mvt 6 rfl (by kernel_rfl) (by kernel_rfl) (by kernel_rfl) rfl hS ?_
    refine any_run 7 (fun w' hS' => (r_nilCheck rfl)) rfl (by kernel_rfl) (by kernel_rfl) (by kernel_rfl) rfl hS ?_
    refine any_run 8 (fun w' hS' => (r_fieldAddr rfl rfl rfl rfl rfl)) rfl (by kernel_rfl) (by kernel_rfl) (by kernel_rfl) rfl hS ?_
    refine any_run 9 (fun w' hS' => (r_load rfl rfl rfl (((hS'.blk' hB trivial).cell rfl)))) rfl (by kernel_rfl) (by kernel_rfl) (by kernel_rfl) rfl hS ?_
    refine any_one 0 (by kernel_rfl) (one_of rfl ?_)
    refine op_call rfl rfl rfl (pack_Number _ (.slice none 0 0) [] 0 (by decide) (own_nil _ _ _) (by decide)) ?_; rintro v6 w6 ⟨hO6, hk6, hin6⟩
    rw [List.nil_append] at hO6
    have hi6 : InB (fun z => w.heap.size ≤ z) v6 := hin6.mono fun z hz => by
      rcases hz with h | h
      · cases h
      · exact h
    have hkw6 : Keep All w w6 := hS.trans (hk6.mono fun z _ _ h => by cases h)
    refine ops_nil ⟨hkw6, fun hS => ?_⟩
    refine any_one 5 (by kernel_rfl) (one_of rfl ?_)
    refine op_call rfl rfl rfl (pack_Bytes w6 v6 _ (encN 0) beg hO6 (fun w' hk => hb.keepN (hkw6.own hk (fun z hz _ => hi6 z hz)) (fun _ _ _ => trivial)) (by omega)) ?_; rintro v8 w8 ⟨hO8, hk8, hin8⟩
    have hkw8 : Keep All w w8 := hkw6.own hk8 (fun z hz _ => hi6 z hz)
    have hi8 : InB (fun z => w.heap.size ≤ z) v8 := hin8.mono fun z hz => by
      rcases hz with h | h
      · exact hi6 z h
      · have := hkw6.size; omega
    refine ops_nil ⟨hkw8, fun hS => ?_⟩
    refine any_one 10 (by kernel_rfl) (one_of rfl ?_)
    refine op_call rfl rfl rfl (pack_Bytes w8 v8 _ (encN 0 ++ encB beg) val hO8 (fun w' hk => hval.keepN (hkw8.own hk (fun z hz _ => hi8 z hz)) (fun _ _ _ => trivial)) (by rw [List.length_append]; omega)) ?_; rintro v10 w10 ⟨hO10, hk10, hin10⟩
    have hkw10 : Keep All w w10 := hkw8.own hk10 (fun z hz _ => hi8 z hz)
    have hi10 : InB (fun z => w.heap.size ≤ z) v10 := hin10.mono fun z hz => by
      rcases hz with h | h
      · exact hi8 z h
      · have := hkw8.size; omega
    refine ops_nil ⟨hkw10, fun hS => ?_⟩
    refine any_ast 11 rfl (by kernel_rfl) (by kernel_rfl) (by kernel_rfl) rfl hS ?_
    refine any_done (by kernel_rfl) ?_
    refine W_ret ?_
    refine ret1 v10 rfl ?_ ?_; rfl
    exact ⟨hO10, hi10, hkw10⟩
  · refine W_skip ?_
    refine W_seq ?_
    refine W_region ?_
    refine o_asc rfl ?_
    refine ops_nil ?_
    refine W_seq ?_
    refine W_region ?_
    refine o_asc rfl ?_
    refine ops_nil ?_
    refine W_seq ?_
    refine W_seq ?_
    refine W_region ?_
    obtain ⟨beg, kids, bk, ps, rfl, rfl, hBk, hps, hkids⟩ : ∃ beg kids bk ps, T = .branch beg kids ∧ pk = some ⟨bk, 0, none⟩ ∧ Blk w bk ps 71 ∧ ps.length = 16 ∧ ∀ (i : Nat) (p : Value), ps[i]? = some p → NodeIn w (kids i) p := by
      rcases hcase with ⟨rfl, _⟩ | h
      · cases h2
      · exact h
    have hb : By w (.slice ab beg.length cb) beg := hb
    have hB : Blk w b [.slice ab beg.length cb, vvn, .pointer (some ⟨bk, 0, none⟩)] 69 := hB
    have hs1 := hs.1
    have hn10 := encN_len10 (v := 1) (by decide)
    have hb10 := encB_len beg (by omega)
    refine o_mvt rfl ?_
    refine op_run (r_nilCheck rfl) rfl ?_
    refine op_run (r_fieldAddr rfl rfl rfl rfl rfl) rfl ?_
    refine op_run (r_load rfl rfl rfl (hB.cell rfl)) rfl ?_
    refine o_mvc rfl ?_
    refine ops_nil ?_
    refine W_block ?_
    refine W_loop [3, 4, 28] [3, 4, 5, 6, 7, 28, 29, 30, 31, 32, 33, 34, 35, 36, 37, 38, 39, 40, 41, 42, 43, 44, 45] (fun vs w' => ∃ (k : Nat) (u : Value), vs = [.int .u64 (maskTo kids k : Nat), u, .int .i64 k] ∧ k ≤ 16 ∧ OwnB w' 5 u (digsTo kids k) ∧ InB (fun z => w.heap.size ≤ z) u ∧ Keep All w w') (fun vs _ => match vs with | [_, _, .int _ y] => 16 - y.toNat | _ => 0) ⟨0, _, rfl, Nat.zero_le _, own_nil _ _ _, InB.nil, Keep.refl _⟩ ?_
    rintro J14 vs w14 ⟨k, u, rfl, hk, hO, hin, hkw⟩ -
    refine W_seq ?_
    refine W_region ?_
    refine op_run (r_lss rfl rfl) rfl ?_
    refine ops_nil ?_
    refine W_seq ?_
    refine W_cond_p rfl (fun h15 => ?_) (fun h15 => ?_)
    · refine W_skip ?_
      refine W_seq ?_
      refine W_block ?_
      refine W_seq ?_
      have hk16 : k < 16 := by omega
      obtain ⟨q, hq⟩ : ∃ q, ps[k]? = some q := ⟨_, List.getElem?_eq_getElem (by omega)⟩
      have hNq := hkids _ _ hq
      obtain ⟨aq, rfl, haq⟩ := hNq.ptr
      have hinc := inc64' k (by omega)
      have hdl := digsTo_len kids k
      refine W_quiet (Keep All w14) (by kernel_rfl) (by kernel_rfl) (Keep.drawn _) ?_
      refine q_mvt rfl ?_
      refine q_run (fun _ _ => (r_nilCheck rfl)) rfl ?_
      refine q_run (fun _ _ => r_idxA1 rfl rfl rfl rfl (by omega) (by omega)) rfl ?_
      refine q_run (fun _ hk => r_load (v := .pointer aq) rfl rfl rfl (hk.cell ((hkw.blk' hBk trivial).cell (by rw [Int.toNat_natCast, Nat.zero_add]; exact hq)) trivial)) rfl ?_
      refine q_ast rfl ?_
      refine q_ast rfl ?_
      refine q_nil ?_; intro w19 hk19
      refine W_seq ?_
      refine W_region ?_
      refine o_mvt rfl ?_
      refine op_run (r_notNilP rfl rfl) rfl ?_
      refine ops_nil ?_
      refine W_cond rfl (fun h21 => ?_) (fun h21 => ?_)
      · refine W_seq ?_
        refine W_region ?_
        have hnn : kids k ≠ .no := fun e => by
          have := haq.2 e
          subst this; cases h21
        have hkw19 := hkw.trans hk19
        refine o_mvt rfl ?_
        refine o_mvt rfl ?_
        refine op_run ((r_shl rfl rfl (by omega)).val (congrArg (Value.int .u64) (shl16 ⟨k, hk16⟩))) rfl ?_
        refine op_run ((r_or rfl rfl).val (congrArg (Value.int .u64) (mask_or kids k hk16 hnn))) rfl ?_
        refine o_ast rfl ?_
        refine ops_nil ?_
        refine W_seq ?_
        refine W_region ?_
        refine o_mvt rfl ?_
        refine op_call rfl rfl rfl (tr_digest1 (kids k) (hs.2 k) (ih _ _ rfl k hnn) w19 (.pointer aq) (hNq.k hkw19)) ?_; rintro v23 w23 ⟨rfl, hk23⟩
        refine o_alloc rfl rfl rfl ?_; intro w24 b24 e24 hB24 hk24 hs24
        refine o_storeA (cs := dgR (tagD 4 [nodeB (kids k)])) rfl rfl (by first | rfl | exact binV_one _ | exact dgR_one _ | exact refR_one _ | exact secR_one _ | exact all_c8 _ | exact okC_dgR _) (by first | rfl | (rw [binV_len]; rfl) | (rw [dgR_len]; rfl) | (rw [refR_len]; rfl) | (rw [secR_len]; rfl) | (rw [List.length_map, tagF_len]; rfl) | (rw [dgR_len]; rfl)) hB24 (by exact Nat.le_of_eq (by simp [dgR_len])) rfl ?_; intro w25 hB25 hk25 hs25
        have hB25 : Blk w25 b24 ((tagD 4 [nodeB (kids k)]).val.map c8) 24 := by
          have h := hB25
          rwa [splice_all (by simp [dgR_len])] at h
        have hl32 := (tagD 4 [nodeB (kids k)]).2
        have hk1925 : Keep All w19 w25 := (hk23.trans hk24).new hk25 (by have := hk23.size; omega)
        have hk1425 : Keep All w14 w25 := hk19.trans hk1925
        have hS25 : Sl w25 (.slice (some ⟨b24, 0, none⟩) 32 32) 32 1 ((tagD 4 [nodeB (kids k)]).val.map c8) := (Own.blk (n := 32) (sz := 1) hB25 (by rw [List.length_map, hl32]) (by unfold maxLen; omega)).sl
        have hz25 := (hkw.trans hk1425).size
        refine ops_nil ?_
        refine W_region ?_
        refine o_mvt rfl ?_
        refine op_run (r_sliceA rfl rfl rfl) rfl ?_
        refine o_appS (v := u) rfl rfl hS25 rfl ti_u8 rfl rfl (hO.keep hk1425 (fun _ _ => trivial)) (all_c8 _) (by unfold maxLen; omega) (by omega) rfl ?_; intro v26 w26 hown26 hk26 hb26
        have hO26 : OwnB w26 5 v26 (digsTo kids (k + 1)) := by
          rw [digsTo_s, Tre.notNo.2 hnn, if_neg (by decide)]
          exact OwnB.app (ys := (tagD 4 [nodeB (kids k)]).val) (by rw [hl32]; exact hown26)
        refine o_ast rfl ?_
        refine ops_nil ?_
        refine W_region ?_
        refine op_run (r_add rfl rfl) rfl ?_
        refine o_mvt rfl ?_
        refine ops_nil ?_
        refine ⟨by (repeat (first | with_reducible exact offM_refl _ _ | refine offM_updc rfl ?_ | refine offM_upd rfl ?_ | refine offM_updo rfl ?_ | refine offM_updo_none ?_ | refine offM_head rfl rfl ?_)), ⟨k + 1, v26, congrArg (fun z : Int => [Value.int .u64 (maskTo kids (k + 1) : Nat), v26, Value.int .i64 z]) hinc, by omega, hO26, fun z hz => ?_, (hkw.trans hk1425).own hk26 (fun z hz _ => hin z hz)⟩, ?_⟩
        · rcases hb26 z hz with h | h
          · exact hin z h
          · omega
        · show 16 - (IntKind.i64.wrap ((k : Int) + 1)).toNat < 16 - (k : Int).toNat
          rw [hinc]; omega
      · refine W_skip ?_
        refine W_region ?_
        refine op_run (r_add rfl rfl) rfl ?_
        refine o_mvt rfl ?_
        refine ops_nil ?_
        have hno : kids k = .no := haq.1 (by cases aq with
          | none => rfl
          | some x => cases h21)
        have e1 : maskTo kids k = maskTo kids (k + 1) := by unfold maskTo; rw [hno]; cases k <;> rfl
        have e2 : digsTo kids k = digsTo kids (k + 1) := by rw [digsTo_s, hno]; simp [Tre.isNo]
        refine ⟨by (repeat (first | with_reducible exact offM_refl _ _ | refine offM_updc rfl ?_ | refine offM_upd rfl ?_ | refine offM_updo rfl ?_ | refine offM_updo_none ?_ | refine offM_head rfl rfl ?_)), ⟨k + 1, u, ?_, by omega, by rw [← e2]; exact hO.keep hk19 (fun _ _ => trivial), hin, hkw.trans hk19⟩, ?_⟩
        · rw [← e1]; exact congrArg (fun z : Int => [Value.int .u64 (maskTo kids k : Nat), u, Value.int .i64 z]) hinc
        · show 16 - (IntKind.i64.wrap ((k : Int) + 1)).toNat < 16 - (k : Int).toNat
          rw [hinc]; omega
    · refine W_exit ?_
      refine W_seq ?_
      obtain rfl : k = 16 := by omega
      have hm := maskTo_lt kids 16
      have hm10 := encN_len10 (v := maskTo kids 16) (by omega)
      have hdl := digsTo_len kids 16
      have hlt14 : ∀ z, u.ownBlock = some z → z < w14.heap.size := fun z hz => hO.lt z hz
      refine W_held (fun w' => Keep All w w') (by kernel_rfl) (hkw.trans (Keep.drawn w14)) (fun hS => ?_)
      refine any_mvt 1 rfl (by kernel_rfl) (by kernel_rfl) (by kernel_rfl) rfl hS ?_
      refine any_run 2 (fun w' hS' => (r_nilCheck rfl)) rfl (by kernel_rfl) (by kernel_rfl) (by kernel_rfl) rfl hS ?_
      refine any_run 3 (fun w' hS' => (r_fieldAddr rfl rfl rfl rfl rfl)) rfl (by kernel_rfl) (by kernel_rfl) (by kernel_rfl) rfl hS ?_
      refine any_run 4 (fun w' hS' => (r_load rfl rfl rfl (((hS'.blk' hB trivial).cell rfl)))) rfl (by kernel_rfl) (by kernel_rfl) (by kernel_rfl) rfl hS ?_
      refine any_mvt 6 rfl (by kernel_rfl) (by kernel_rfl) (by kernel_rfl) rfl hS ?_
      refine any_mvt 8 rfl (by kernel_rfl) (by kernel_rfl) (by kernel_rfl) rfl hS ?_
      refine any_one 0 (by kernel_rfl) (one_of rfl ?_)
      refine op_call rfl rfl rfl (pack_Number _ (.slice none 0 0) [] 1 (by decide) (own_nil _ _ _) (by decide)) ?_; rintro v31 w31 ⟨hO31, hk31, hin31⟩
      rw [List.nil_append] at hO31
      have hka31 : Keep All w14 w31 := (Keep.drawn w14).trans (hk31.mono fun z _ _ h => by cases h)
      have hi31 : InB (fun z => w14.heap.size ≤ z) v31 := hin31.mono fun z hz => by
        rcases hz with h | h
        · cases h
        · exact h
      refine ops_nil ⟨hkw.trans hka31, fun hS => ?_⟩
      refine any_one 5 (by kernel_rfl) (one_of rfl ?_)
      refine op_call rfl rfl rfl (pack_Bytes w31 v31 _ (encN 1) beg hO31 (fun w' hk => hb.keepN (hkw.trans (hka31.own hk (fun z hz _ => hi31 z hz))) (fun _ _ _ => trivial)) (by omega)) ?_; rintro v33 w33 ⟨hO33, hk33, hin33⟩
      have hka33 : Keep All w14 w33 := hka31.own hk33 (fun z hz _ => hi31 z hz)
      have hi33 : InB (fun z => w14.heap.size ≤ z) v33 := hin33.mono fun z hz => by
        rcases hz with h | h
        · exact hi31 z h
        · have := hka31.size; omega
      refine ops_nil ⟨hkw.trans hka33, fun hS => ?_⟩
      refine any_one 7 (by kernel_rfl) (one_of rfl ?_)
      refine op_call rfl rfl rfl (pack_Number w33 v33 (encN 1 ++ encB beg) (maskTo kids 16) (by omega) hO33 (by rw [List.length_append]; omega)) ?_; rintro v35 w35 ⟨hO35, hk35, hin35⟩
      have hka35 : Keep All w14 w35 := hka33.own hk35 (fun z hz _ => hi33 z hz)
      have hi35 : InB (fun z => w14.heap.size ≤ z) v35 := hin35.mono fun z hz => by
        rcases hz with h | h
        · exact hi33 z h
        · have := hka33.size; omega
      have hz14 := hkw.size
      refine ops_nil ⟨hkw.trans hka35, fun hS => ?_⟩
      refine any_one 9 (by kernel_rfl) (one_of rfl ?_)
      refine o_appS (v := v35) rfl rfl (Sl.k (OwnB.by_ hO) hka35) rfl ti_u8 rfl rfl hO35 (all_c8 _) (by unfold maxLen; rw [List.length_append, List.length_append]; omega) (by rw [List.length_append, List.length_append]; omega) rfl ?_; intro v37 w37 hown37 hk37 hb37
      have hO37 : OwnB w37 5 v37 (nodeB (.branch beg kids)) := by rw [nodeB_br]; exact OwnB.app (ys := digsTo kids 16) hown37
      have hkw37 : Keep All w w37 := hkw.trans (hka35.own hk37 (fun z hz _ => hi35 z hz))
      refine ops_nil ⟨hkw37, fun hS => ?_⟩
      refine any_ast 10 rfl (by kernel_rfl) (by kernel_rfl) (by kernel_rfl) rfl hS ?_
      refine any_done (by kernel_rfl) ?_
      refine W_ret ?_
      refine ret1 v37 rfl ?_ ?_; rfl
      refine ⟨hO37, fun z hz => ?_, hkw37⟩
      rcases hb37 z hz with h | h
      · have := hi35 z h; omega
      · have := hka35.size; omega
theorem tr_bytes : ∀ (T : Tre) (L : Nat), T ≠ .no → T.wf L → T.short → BytesOk T := by
  intro T
  induction T with
  | no => intro L h; exact absurd rfl h
  | leaf b v => intro L h hw hs; exact tr_bytes1 _ h hs (fun _ _ e => by cases e) (fun _ _ e => by cases e)
  | branch b k ih =>
    intro L h hw hs
    exact tr_bytes1 _ h hs (fun b' k' e => by cases e; exact hw.2.2.2.1) (fun b' k' e i hi => by cases e; exact ih i _ hi (hw.2.2.1 i) (hs.2 i))
def rootT (T : Tre) : Dig := if T.isNo = true then tagD 5 [] else tagD 4 [nodeB T]
theorem tr_Root (w : World) (b : Nat) (T : Tre) (h : TrieIn w b T) (hs : T.short) : Ret Tryd.prog 10 [.pointer (some ⟨b, 0, none⟩)].toArray w fun r w' => r = .agg (dgR (rootT T)).toArray ∧ Keep All w w' := by
  obtain ⟨v, hBt, hN, hwf⟩ := h
  obtain ⟨a, rfl, ha⟩ := hN.ptr
  refine enter (fn := Tryd.f10) (n := 14) Tryd.func10 rfl rfl (by simp) ?_
  refine W_seq ?_
  refine W_region ?_
  refine o_alloc rfl rfl rfl ?_; intro w1 b1 e1 hB1 hk1 hs1
  refine ops_nil ?_
  refine W_seq ?_
  refine W_seq ?_
  refine W_region ?_
  refine o_mvt rfl ?_
  refine op_run (r_nilCheck rfl) rfl ?_
  refine op_run (r_fieldAddr rfl rfl rfl rfl rfl) rfl ?_
  refine op_run (r_load rfl rfl rfl ((hk1.blk' hBt trivial).cell rfl)) rfl ?_
  refine op_run (r_isNilP rfl rfl) rfl ?_
  refine ops_nil ?_
  refine W_cond rfl (fun h3 => ?_) (fun h3 => ?_)
  · refine W_seq ?_
    refine W_region ?_
    refine op_call rfl rfl rfl (sh_TagD w1 _ 5 [] (rowsB_none w1) (tag_0 5)) ?_; rintro v4 w4 ⟨rfl, hk4⟩
    refine o_storeA (cs := dgR (tagD 5 [])) rfl rfl (by first | rfl | exact binV_one _ | exact dgR_one _ | exact refR_one _ | exact secR_one _ | exact all_c8 _ | exact okC_dgR _) (by first | rfl | (rw [binV_len]; rfl) | (rw [dgR_len]; rfl) | (rw [refR_len]; rfl) | (rw [secR_len]; rfl) | (rw [List.length_map, tagF_len]; rfl) | (rw [dgR_len]; rfl)) (hk4.blk' hB1 trivial) (by exact Nat.le_of_eq (by simp [dgR_len])) rfl ?_; intro w5 hB5 hk5 hs5
    have hB5 : Blk w5 b1 (dgR (tagD 5 [])) 24 := by
      have h := hB5
      rwa [splice_all (by simp [dgR_len])] at h
    refine ops_nil ?_
    refine W_ret ?_
    refine retA (dgR (tagD 5 [])) rfl rfl rfl rfl (by first | rfl | (rw [binV_len]; rfl) | (rw [dgR_len]; rfl) | (rw [refR_len]; rfl) | (rw [secR_len]; rfl) | (rw [List.length_map, tagF_len]; rfl) | (rw [dgR_len]; rfl)) hB5.all ?_
    obtain rfl : T = .no := ha.1 (by cases a with
      | none => rfl
      | some x => cases h3)
    exact ⟨rfl, (hk1.trans hk4).new hk5 (by omega)⟩
  · refine W_skip ?_
    refine W_seq ?_
    refine W_region ?_
    have hTn : T ≠ .no := fun e => by
      have := ha.2 e
      subst this; cases h3
    refine o_mvt rfl ?_
    refine op_run (r_nilCheck rfl) rfl ?_
    refine op_run (r_fieldAddr rfl rfl rfl rfl rfl) rfl ?_
    refine op_run (r_load rfl rfl rfl ((hk1.blk' hBt trivial).cell rfl)) rfl ?_
    refine op_call rfl rfl rfl (tr_digest1 T hs (tr_bytes T 64 hTn hwf hs) w1 (.pointer a) (hN.k hk1)) ?_; rintro v8 w8 ⟨rfl, hk8⟩
    refine o_storeA (cs := dgR (tagD 4 [nodeB T])) rfl rfl (by first | rfl | exact binV_one _ | exact dgR_one _ | exact refR_one _ | exact secR_one _ | exact all_c8 _ | exact okC_dgR _) (by first | rfl | (rw [binV_len]; rfl) | (rw [dgR_len]; rfl) | (rw [refR_len]; rfl) | (rw [secR_len]; rfl) | (rw [List.length_map, tagF_len]; rfl) | (rw [dgR_len]; rfl)) (hk8.blk' hB1 trivial) (by exact Nat.le_of_eq (by simp [dgR_len])) rfl ?_; intro w9 hB9 hk9 hs9
    have hB9 : Blk w9 b1 (dgR (tagD 4 [nodeB T])) 24 := by
      have h := hB9
      rwa [splice_all (by simp [dgR_len])] at h
    refine ops_nil ?_
    refine W_ret ?_
    refine retA (dgR (tagD 4 [nodeB T])) rfl rfl rfl rfl (by first | rfl | (rw [binV_len]; rfl) | (rw [dgR_len]; rfl) | (rw [refR_len]; rfl) | (rw [secR_len]; rfl) | (rw [List.length_map, tagF_len]; rfl) | (rw [dgR_len]; rfl)) hB9.all ?_
    have e : rootT T = tagD 4 [nodeB T] := by unfold rootT; rw [Tre.notNo.2 hTn, if_neg (by decide)]
    exact ⟨by rw [e], (hk1.trans hk8).new hk9 (by omega)⟩
end Go.Proofs.YtpiidddccmohdabDoor.B
