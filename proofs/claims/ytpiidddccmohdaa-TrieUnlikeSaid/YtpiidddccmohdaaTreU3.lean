/-
  The document's tries: a node's bytes.
-/
import Derived.Test.YtpiidddccmohdaaTreU2
namespace Go.Proofs.Ytpiidddccmohdaa.B
open Go
set_option linter.unusedVariables false
set_option maxHeartbeats 2000000
set_option maxRecDepth 100000
attribute [local irreducible] W OpsW OpsQ retP
def NodeOk (T : Tre) : Prop := ∀ (a : List UInt8) (l : List It) (w : World) (v : Value), AtI a T l → T.short → ItIn w v l → l.length ≤ 2 ^ 20 → Ret Try.prog 27 [v, .int .i64 a.length].toArray w fun r w' => OwnB w' 5 r (nodeB T) ∧ InB (fun z => w.heap.size ≤ z) r ∧ Keep All w w'
theorem itR_v32 {d : Dig} {vv : Value} : (itR (d, vv))[32]? = some vv := by
  unfold itR; rw [List.getElem?_append_right (by rw [dgR_len]; exact Nat.le_refl _), dgR_len]; rfl
theorem encN_0 : encN 0 = [0] := by unfold encN; rfl
theorem encN_1 : encN 1 = [1] := by unfold encN; rfl
theorem rf8_Node1 (T : Tre) (hT : T ≠ .no) (ih : ∀ b k, T = .branch b k → ∀ i, k i ≠ .no → NodeOk (k i)) : NodeOk T := by
  intro a l w v hA hs hv hl
  obtain ⟨a0, c0, rfl, hc0, hcm0⟩ := hv.form
  have hne := hA.some_ hT
  obtain ⟨y0, hy0⟩ : ∃ y, l[0]? = some y := by cases l with
    | nil => exact absurd rfl hne
    | cons x l => exact ⟨x, rfl⟩
  have hm0 := List.mem_of_getElem? hy0
  have hpos := List.length_pos_iff.2 hne
  have hla := hA.la
  have hbeg := hA.beg hm0
  obtain ⟨b, off, c, vv, ev_, hby, hc⟩ := hv.at hy0
  cases ev_
  obtain ⟨av, cv, rfl, _, _⟩ := hby.form
  refine enter (fn := Try.f27) (n := 72) Try.func27 rfl rfl (by simp) ?_
  refine W_seq ?_
  refine W_region ?_
  refine o_asc rfl ?_
  refine ops_nil ?_
  refine W_seq ?_
  refine W_seq ?_
  refine W_region ?_
  refine o_mvt rfl ?_
  refine op_run (r_len rfl rfl rfl) rfl ?_
  refine op_run (r_eql rfl rfl) rfl ?_
  refine ops_nil ?_
  refine W_cond_p rfl (fun h1 => ?_) (fun h1 => ?_)
  · refine W_seq ?_
    obtain ⟨beg, val, rfl⟩ : ∃ beg val, T = .leaf beg val := by
      cases T with
      | no => exact absurd rfl hT
      | leaf b v => exact ⟨_, _, rfl⟩
      | branch b k => have := hA.two; omega
    obtain ⟨x, rfl, _, hx2⟩ := hA.leaf
    have ex : x = y0 := by simpa using hy0
    subst ex
    subst hx2
    have hs1 := hs.1
    have hs2 := hs.2
    have hn10 := encN_len10 (v := 0) (by decide)
    have hb10 := encB_len beg (by omega)
    have hbl : beg.length = 64 - a.length := hA.wf.1
    have hbeg : ((nibs x.1.val).drop a.length).take (64 - a.length) = beg := by rw [← hbl]; exact hbeg
    refine W_held (fun w' => Keep All w w') (by kernel_rfl) (Keep.drawn w) (fun hS => ?_)
    refine any_mvt 1 rfl (by kernel_rfl) (by kernel_rfl) (by kernel_rfl) rfl hS ?_
    refine any_run 2 (fun w' hS' => (r_idxS rfl rfl rfl rfl (by omega) (by simp))) rfl (by kernel_rfl) (by kernel_rfl) (by kernel_rfl) rfl hS ?_
    refine any_run 3 (fun w' hS' => (r_fieldAddr rfl rfl rfl rfl rfl)) rfl (by kernel_rfl) (by kernel_rfl) (by kernel_rfl) rfl hS ?_
    refine any_run 4 (fun w' hS' => (r_loadA (dgR x.1) rfl rfl rfl (by first | rfl | (rw [binV_len]; rfl) | (rw [dgR_len]; rfl) | (rw [refR_len]; rfl) | (rw [secR_len]; rfl) | (rw [List.length_map, tagF_len]; rfl) | (rw [dgR_len]; rfl)) ((fun j u hj => hS'.cell (itR_dg hc j u (by simpa using hj)) trivial)))) rfl (by kernel_rfl) (by kernel_rfl) (by kernel_rfl) rfl hS ?_
    refine any_mvt 5 rfl (by kernel_rfl) (by kernel_rfl) (by kernel_rfl) rfl hS ?_
    refine any_mvt 8 rfl (by kernel_rfl) (by kernel_rfl) (by kernel_rfl) rfl hS ?_
    refine any_run 9 (fun w' hS' => (r_idxS rfl rfl rfl rfl (by omega) (by simp))) rfl (by kernel_rfl) (by kernel_rfl) (by kernel_rfl) rfl hS ?_
    refine any_run 10 (fun w' hS' => (r_fieldAddr rfl rfl rfl rfl rfl)) rfl (by kernel_rfl) (by kernel_rfl) (by kernel_rfl) rfl hS ?_
    refine any_run 11 (fun w' hS' => (r_load rfl rfl rfl ((hS'.cell (hc 32 _ itR_v32) trivial)))) rfl (by kernel_rfl) (by kernel_rfl) (by kernel_rfl) rfl hS ?_
    refine any_two 0 6 (by kernel_rfl) (one_of rfl ?_) (one_of rfl ?_)
    · refine o_bs1 (v := c8 0) rfl rfl rfl rfl rfl rfl ?_; intro w7 b7 e7 hB7 hk7 hs7
      have hz7 := hS.size
      have hO7 : OwnB w7 5 (.slice (some ⟨b7, 0, none⟩) 1 1) (encN 0) := by rw [encN_0]; exact Own.blk hB7 rfl (by unfold maxLen; omega)
      refine ops_nil ⟨hS.trans hk7, fun hS => ?_⟩
      refine any_one 6 (by kernel_rfl) (one_of rfl ?_)
      refine op_call rfl rfl rfl (rf8_rest w7 x.1 a.length 64 hla (Nat.le_refl _)) ?_; rintro v9 w9 ⟨hO9, hin9, hk9⟩
      rw [hbeg] at hO9
      refine ops_nil ⟨hS.trans hk9, fun hS => ?_⟩
      refine any_one 7 (by kernel_rfl) (one_of rfl ?_)
      refine op_call rfl rfl rfl (ref01_Bytes w9 (.slice (some ⟨b7, 0, none⟩) 1 1) v9 (encN 0) beg (hO7.keep hk9 (fun _ _ => trivial)) (fun w' hk => OwnB.by_ (hO9.keep hk (fun z hz e => by have h := hin9 z hz; have e : some z = some b7 := e; injection e with e; omega))) (by omega)) ?_; rintro v11 w11 ⟨hO11, hk11, hin11⟩
      have hkw11 : Keep All w w11 := hS.own hk11 (fun z hz _ => by have hz : some b7 = some z := hz; injection hz with hz; omega)
      have hi11 : InB (fun z => w.heap.size ≤ z) v11 := hin11.mono fun z hz => by
        rcases hz with h | h
        · have h : some b7 = some z := h
          injection h with h; omega
        · have := hS.size; omega
      refine ops_nil ⟨hkw11, fun hS => ?_⟩
      refine any_one 12 (by kernel_rfl) (one_of rfl ?_)
      refine op_call rfl rfl rfl (ref01_Bytes w11 v11 (.slice av x.2.length cv) (encN 0 ++ encB beg) x.2 hO11 (fun w' hk => hby.keepN (hkw11.own hk (fun z hz _ => hi11 z hz)) (fun _ _ _ => trivial)) (by rw [List.length_append]; omega)) ?_; rintro v13 w13 ⟨hO13, hk13, hin13⟩
      have hi13 : InB (fun z => w.heap.size ≤ z) v13 := hin13.mono fun z hz => by
        rcases hz with h | h
        · exact hi11 z h
        · have := hkw11.size; omega
      refine ops_nil ⟨hkw11.own hk13 (fun z hz _ => hi11 z hz), fun hS => ?_⟩
      refine any_ast 13 rfl (by kernel_rfl) (by kernel_rfl) (by kernel_rfl) rfl hS ?_
      refine any_done (by kernel_rfl) ?_
      refine W_ret ?_
      refine ret1 v13 rfl ?_ ?_; rfl
      exact ⟨hO13, hi13, hS⟩
    · refine op_call rfl rfl rfl (rf8_rest _ x.1 a.length 64 hla (Nat.le_refl _)) ?_; rintro v16 w16 ⟨hO16, hin16, hk16⟩
      rw [hbeg] at hO16
      refine ops_nil ⟨hS.trans hk16, fun hS => ?_⟩
      refine any_one 0 (by kernel_rfl) (one_of rfl ?_)
      refine o_bs1 (v := c8 0) rfl rfl rfl rfl rfl rfl ?_; intro w18 b18 e18 hB18 hk18 hs18
      have hz18 := hS.size
      have hO18 : OwnB w18 5 (.slice (some ⟨b18, 0, none⟩) 1 1) (encN 0) := by rw [encN_0]; exact Own.blk hB18 rfl (by unfold maxLen; omega)
      refine ops_nil ⟨hS.trans hk18, fun hS => ?_⟩
      refine any_one 7 (by kernel_rfl) (one_of rfl ?_)
      refine op_call rfl rfl rfl (ref01_Bytes w18 (.slice (some ⟨b18, 0, none⟩) 1 1) v16 (encN 0) beg hO18 (fun w' hk => OwnB.by_ ((hO16.keep hk18 (fun _ _ => trivial)).keep hk (fun z hz e => by have h := hO16.lt z hz; have e : some z = some b18 := e; injection e with e; omega))) (by omega)) ?_; rintro v20 w20 ⟨hO20, hk20, hin20⟩
      have hkw20 : Keep All w w20 := hS.own hk20 (fun z hz _ => by have hz : some b18 = some z := hz; injection hz with hz; omega)
      have hi20 : InB (fun z => w.heap.size ≤ z) v20 := hin20.mono fun z hz => by
        rcases hz with h | h
        · have h : some b18 = some z := h
          injection h with h; omega
        · have := hS.size; omega
      refine ops_nil ⟨hkw20, fun hS => ?_⟩
      refine any_one 12 (by kernel_rfl) (one_of rfl ?_)
      refine op_call rfl rfl rfl (ref01_Bytes w20 v20 (.slice av x.2.length cv) (encN 0 ++ encB beg) x.2 hO20 (fun w' hk => hby.keepN (hkw20.own hk (fun z hz _ => hi20 z hz)) (fun _ _ _ => trivial)) (by rw [List.length_append]; omega)) ?_; rintro v22 w22 ⟨hO22, hk22, hin22⟩
      have hi22 : InB (fun z => w.heap.size ≤ z) v22 := hin22.mono fun z hz => by
        rcases hz with h | h
        · exact hi20 z h
        · have := hkw20.size; omega
      refine ops_nil ⟨hkw20.own hk22 (fun z hz _ => hi20 z hz), fun hS => ?_⟩
      refine any_ast 13 rfl (by kernel_rfl) (by kernel_rfl) (by kernel_rfl) rfl hS ?_
      refine any_done (by kernel_rfl) ?_
      refine W_ret ?_
      refine ret1 v22 rfl ?_ ?_; rfl
      exact ⟨hO22, hi22, hS⟩
  · refine W_skip ?_
    refine W_seq ?_
    refine W_region ?_
    obtain ⟨beg, kids, rfl⟩ : ∃ beg kids, T = .branch beg kids := by
      cases T with
      | no => exact absurd rfl hT
      | leaf b v => obtain ⟨x, rfl, _⟩ := hA.leaf; exact absurd rfl h1
      | branch b k => exact ⟨_, _, rfl⟩
    have hs1 := hs.1
    have hbl := hA.wf.1
    have hn10 := encN_len10 (v := 1) (by decide)
    have hb10 := encB_len beg (by omega)
    refine o_mvt rfl ?_
    refine o_mvt rfl ?_
    refine op_call rfl rfl rfl (rf8_Shared w _ l a.length hla hv hne (by omega)) ?_; rintro v25 w25 ⟨⟨to, rfl, hto⟩, hk25⟩
    obtain rfl := hA.shared hto
    have hbeg : ((nibs y0.1.val).drop a.length).take (a.length + beg.length - a.length) = beg := by rw [Nat.add_sub_cancel_left]; exact hbeg
    refine o_ast rfl ?_
    refine ops_nil ?_
    refine W_seq ?_
    refine W_region ?_
    refine o_bs1 (v := c8 1) rfl rfl rfl rfl rfl rfl ?_; intro w26 b26 e26 hB26 hk26 hs26
    have hO26 : OwnB w26 5 (.slice (some ⟨b26, 0, none⟩) 1 1) (encN 1) := by rw [encN_1]; exact Own.blk hB26 rfl (by unfold maxLen; omega)
    refine o_mvt rfl ?_
    refine op_run (r_idxS rfl rfl rfl rfl (by omega) (by omega)) rfl ?_
    refine op_run (r_fieldAddr rfl rfl rfl rfl rfl) rfl ?_
    refine op_run (r_loadA (dgR y0.1) rfl rfl rfl (by first | rfl | (rw [binV_len]; rfl) | (rw [dgR_len]; rfl) | (rw [refR_len]; rfl) | (rw [secR_len]; rfl) | (rw [List.length_map, tagF_len]; rfl) | (rw [dgR_len]; rfl)) ((fun j u hj => (hk25.trans hk26).cell (itR_dg hc j u (by simpa using hj)) trivial))) rfl ?_
    refine o_mvt rfl ?_
    refine o_mvt rfl ?_
    refine op_call rfl rfl rfl (rf8_rest w26 y0.1 a.length (a.length + beg.length) (by omega) (by omega)) ?_; rintro v29 w29 ⟨hO29, hin29, hk29⟩
    rw [hbeg] at hO29
    refine op_call rfl rfl rfl (ref01_Bytes w29 (.slice (some ⟨b26, 0, none⟩) 1 1) v29 (encN 1) beg (hO26.keep hk29 (fun _ _ => trivial)) (fun w' hk => OwnB.by_ (hO29.keep hk (fun z hz e => by have h := hin29 z hz; have e : some z = some b26 := e; injection e with e; omega))) (by omega)) ?_; rintro v30 w30 ⟨hO30, hk30, hin30⟩
    have hz25 := hk25.size
    have hkw30 : Keep All w w30 := ((hk25.trans hk26).trans hk29).own hk30 (fun z hz _ => by have hz : some b26 = some z := hz; injection hz with hz; omega)
    have hi30 : InB (fun z => w.heap.size ≤ z) v30 := hin30.mono fun z hz => by
      rcases hz with h | h
      · have h : some b26 = some z := h
        injection h with h; omega
      · have := ((hk25.trans hk26).trans hk29).size; omega
    have hlt30 : ∀ z, v30.ownBlock = some z → z < w30.heap.size := fun z hz => hO30.lt z hz
    refine o_ast rfl ?_
    refine ops_nil ?_
    refine W_seq ?_
    refine W_region ?_
    refine o_asc rfl ?_
    refine ops_nil ?_
    refine W_seq ?_
    refine W_region ?_
    refine o_bs0 rfl rfl rfl ?_; intro w31 b31 e31 hB31 hk31 hs31
    refine o_ast rfl ?_
    refine ops_nil ?_
    refine W_seq ?_
    refine W_region ?_
    refine o_asc rfl ?_
    refine ops_nil ?_
    refine W_seq ?_
    refine W_seq ?_
    refine W_region ?_
    refine o_asc rfl ?_
    refine ops_nil ?_
    refine W_block ?_
    refine W_loop [7, 8, 9, 10] [7, 8, 9, 10, 11, 12, 42, 43, 44, 45, 46, 47, 48, 49, 50, 51, 52, 53, 54, 55, 56, 57, 58, 59, 60, 61, 62, 63, 64, 65, 66] (fun vs w' => ∃ (k : Nat) (u : Value), vs = [.int .u64 (maskTo kids k : Nat), u, .int .u64 (2 ^ k : Nat), .int .u8 (k : Nat)] ∧ k ≤ 16 ∧ OwnB w' 5 u (digsTo kids k) ∧ InB (fun z => w30.heap.size ≤ z) u ∧ Keep All w30 w') (fun vs _ => match vs with | [_, _, _, .int _ y] => 16 - y.toNat | _ => 0) ⟨0, .slice (some ⟨b31, 0, none⟩) 0 0, rfl, Nat.zero_le _, Own.blk (n := 0) (sz := 1) hB31 rfl (Nat.zero_le _), fun z hz => by have : b31 = z := Option.some.inj hz; omega, hk31⟩ ?_
    rintro J32 vs w32 ⟨k, u, rfl, hk, hO, hin, hkw⟩ -
    refine W_seq ?_
    refine W_seq ?_
    refine W_region ?_
    refine o_mvt rfl ?_
    refine op_run (r_lss rfl rfl) rfl ?_
    refine ops_nil ?_
    refine W_cond_p rfl (fun h33 => ?_) (fun h33 => ?_)
    · refine W_skip ?_
      refine W_seq ?_
      refine W_block ?_
      refine W_seq ?_
      refine W_region ?_
      refine o_mvt rfl ?_
      refine o_mvt rfl ?_
      refine o_mvt rfl ?_
      have hk16 : k < 16 := by omega
      have hu8 := u8_of hk16
      have hc8 : c8 k.toUInt8 = .int .u8 (k : Nat) := by show Value.int .u8 ((k.toUInt8.toNat : Nat) : Int) = _; rw [hu8]
      have hinc : IntKind.u8.wrap (((k : Nat) : Int) + 1) = ((k + 1 : Nat) : Int) := (show IntKind.u8.wrap (((k : Nat) : Int) + 1) = (((k : Nat) : Int) + 1) % 256 from rfl).trans (by omega)
      have hbit : IntKind.u64.wrap (2 * ((2 ^ k : Nat) : Int)) = ((2 ^ (k + 1) : Nat) : Int) := by
        have h2 : 2 ^ k < 2 ^ 16 := Nat.pow_lt_pow_right (by decide) hk16
        rw [wrap_u64, Nat.pow_succ]
        generalize 2 ^ k = m at h2 ⊢
        omega
      have hmask : IntKind.u64.wrap (((maskTo kids k : Nat) : Int) + ((2 ^ k : Nat) : Int)) = ((maskTo kids k + 2 ^ k : Nat) : Int) := by
        have h1 := maskTo_lt kids k
        have h2 : 2 ^ k < 2 ^ 16 := Nat.pow_lt_pow_right (by decide) hk16
        rw [wrap_u64]; omega
      have hdl := digsTo_len kids k
      have hpart := rf8_part w32 (.slice (some ⟨b, off, none⟩) l.length c0) l (a.length + beg.length) k.toUInt8 (by omega) ((hv.k hkw30).k hkw) hl
      rw [hc8] at hpart
      have hkid := hA.kid k.toUInt8
      rw [hu8] at hkid
      have hkl : ((a ++ beg) ++ [k.toUInt8]).length = a.length + beg.length + 1 := by rw [List.length_append, List.length_append]; rfl
      have hPl := partI_len l (a.length + beg.length) k.toUInt8
      refine op_call rfl rfl rfl hpart ?_; rintro v34 w34 hO34
      obtain ⟨a34, c34, rfl, _, _⟩ := hO34.it.form
      refine o_ast rfl ?_
      refine ops_nil ?_
      refine W_seq ?_
      refine W_seq ?_
      refine W_region ?_
      refine o_mvt rfl ?_
      refine op_run (r_len rfl rfl rfl) rfl ?_
      refine op_run (r_gtr rfl rfl) rfl ?_
      refine ops_nil ?_
      refine W_cond_p rfl (fun h35 => ?_) (fun h35 => ?_)
      · refine W_seq ?_
        refine W_region ?_
        refine o_mvt rfl ?_
        refine o_mvt rfl ?_
        refine op_run (r_add rfl rfl) rfl ?_
        refine o_ast rfl ?_
        refine ops_nil ?_
        refine W_seq ?_
        refine W_region ?_
        have hnn : kids k ≠ .no := fun e => by
          rw [e] at hkid
          rw [hkid.no] at h35
          simp at h35
        have hnode := ih _ _ rfl k hnn _ _ w34 _ hkid (hs.2 k) hO34.it (by omega)
        rw [hkl] at hnode
        refine o_mvt rfl ?_
        refine o_mvt rfl ?_
        refine op_run ((r_add rfl rfl).val (congrArg (Value.int .i64) (inc64' (a.length + beg.length) (by omega)))) rfl ?_
        refine op_call rfl rfl rfl (hnode) ?_; rintro v36 w36 ⟨hO36, hin36, hk36⟩
        obtain ⟨a36, c36, rfl, _, _⟩ := (OwnB.by_ hO36).form
        refine o_bs1 (v := (.slice a36 (nodeB (kids k)).length c36)) rfl rfl rfl rfl rfl rfl ?_; intro w37 b37 e37 hB37 hk37 hs37
        refine op_call rfl rfl rfl (rf_TagD w37 _ 4 [nodeB (kids k)] (rowsB_one hB37 (Sl.k (OwnB.by_ hO36) hk37)) (tag_1 4 (by have := nodeB_len (hs.2 k); omega))) ?_; rintro v38 w38 ⟨rfl, hk38⟩
        refine o_alloc rfl rfl rfl ?_; intro w39 b39 e39 hB39 hk39 hs39
        refine o_storeA (cs := dgR (tagD 4 [nodeB (kids k)])) rfl rfl (by first | rfl | exact binV_one _ | exact dgR_one _ | exact refR_one _ | exact secR_one _ | exact all_c8 _ | exact okC_dgR _) (by first | rfl | (rw [binV_len]; rfl) | (rw [dgR_len]; rfl) | (rw [refR_len]; rfl) | (rw [secR_len]; rfl) | (rw [List.length_map, tagF_len]; rfl) | (rw [dgR_len]; rfl)) hB39 (by exact Nat.le_of_eq (by simp [dgR_len])) rfl ?_; intro w40 hB40 hk40 hs40
        have hB40 : Blk w40 b39 ((tagD 4 [nodeB (kids k)]).val.map c8) 30 := by
          have h := hB40
          rwa [splice_all (by simp [dgR_len])] at h
        have hl32 := (tagD 4 [nodeB (kids k)]).2
        have hk3440 : Keep All w34 w40 := (((hk36.trans hk37).trans hk38).trans hk39).new hk40 (by have := ((hk36.trans hk37).trans hk38).size; omega)
        have hk3240 : Keep All w32 w40 := hO34.keepAll.trans hk3440
        have hS40 : Sl w40 (.slice (some ⟨b39, 0, none⟩) 32 32) 32 1 ((tagD 4 [nodeB (kids k)]).val.map c8) := (Own.blk (n := 32) (sz := 1) hB40 (by rw [List.length_map, hl32]) (by unfold maxLen; omega)).sl
        have hz40 := (hkw.trans hk3240).size
        refine ops_nil ?_
        refine W_region ?_
        refine o_mvt rfl ?_
        refine op_run (r_sliceA rfl rfl rfl) rfl ?_
        refine o_appS (v := u) rfl rfl hS40 rfl ti_u8 rfl rfl (hO.keep hk3240 (fun _ _ => trivial)) (all_c8 _) (by unfold maxLen; omega) (by omega) rfl ?_; intro v41 w41 hown41 hk41 hb41
        refine o_ast rfl ?_
        refine ops_nil ?_
        refine W_region ?_
        refine o_mvt rfl ?_
        refine op_run (r_mul rfl rfl) rfl ?_
        refine o_ast rfl ?_
        refine ops_nil ?_
        refine W_region ?_
        refine o_mvt rfl ?_
        refine op_run (r_add rfl rfl) rfl ?_
        refine o_ast rfl ?_
        refine ops_nil ?_
        have hO41 : OwnB w41 5 v41 (digsTo kids (k + 1)) := by
          rw [digsTo_s, Tre.notNo.2 hnn, if_neg (by decide)]
          exact OwnB.app (ys := (tagD 4 [nodeB (kids k)]).val) (by rw [hl32]; exact hown41)
        have em : maskTo kids (k + 1) = maskTo kids k + 2 ^ k := by
          show maskTo kids k + (if (kids k).isNo = true then 0 else 2 ^ k) = _
          rw [Tre.notNo.2 hnn, if_neg (by decide)]
        refine ⟨by (repeat (first | with_reducible exact offM_refl _ _ | refine offM_updc rfl ?_ | refine offM_upd rfl ?_ | refine offM_updo rfl ?_ | refine offM_updo_none ?_ | refine offM_head rfl rfl ?_)), ⟨k + 1, v41, ?_, by omega, hO41, fun z hz => ?_, (hkw.trans hk3240).own hk41 (fun z hz _ => hin z hz)⟩, ?_⟩
        · show [Value.int .u64 (IntKind.u64.wrap (((maskTo kids k : Nat) : Int) + ((2 ^ k : Nat) : Int))), v41, Value.int .u64 (IntKind.u64.wrap (2 * ((2 ^ k : Nat) : Int))), Value.int .u8 (IntKind.u8.wrap (((k : Nat) : Int) + 1))] = _
          rw [hmask, hbit, hinc, em]
        · rcases hb41 z hz with h | h
          · exact hin z h
          · omega
        · show 16 - (IntKind.u8.wrap (((k : Nat) : Int) + 1)).toNat < 16 - ((k : Nat) : Int).toNat
          rw [hinc]; omega
      · refine W_skip ?_
        refine W_region ?_
        refine o_mvt rfl ?_
        refine op_run (r_mul rfl rfl) rfl ?_
        refine o_ast rfl ?_
        refine ops_nil ?_
        refine W_region ?_
        refine o_mvt rfl ?_
        refine op_run (r_add rfl rfl) rfl ?_
        refine o_ast rfl ?_
        refine ops_nil ?_
        have hno : kids k = .no := Classical.byContradiction fun e => by
          have h1 := List.length_pos_iff.2 (hkid.some_ e)
          omega
        have em : maskTo kids (k + 1) = maskTo kids k := by
          show maskTo kids k + (if (kids k).isNo = true then 0 else 2 ^ k) = _
          rw [hno]; rfl
        have e2 : digsTo kids (k + 1) = digsTo kids k := by rw [digsTo_s, hno]; simp [Tre.isNo]
        refine ⟨by (repeat (first | with_reducible exact offM_refl _ _ | refine offM_updc rfl ?_ | refine offM_upd rfl ?_ | refine offM_updo rfl ?_ | refine offM_updo_none ?_ | refine offM_head rfl rfl ?_)), ⟨k + 1, u, ?_, by omega, by rw [e2]; exact hO.keep hO34.keepAll (fun _ _ => trivial), hin, hkw.trans hO34.keepAll⟩, ?_⟩
        · show [Value.int .u64 (maskTo kids k : Nat), u, Value.int .u64 (IntKind.u64.wrap (2 * ((2 ^ k : Nat) : Int))), Value.int .u8 (IntKind.u8.wrap (((k : Nat) : Int) + 1))] = _
          rw [hbit, hinc, em]
        · show 16 - (IntKind.u8.wrap (((k : Nat) : Int) + 1)).toNat < 16 - ((k : Nat) : Int).toNat
          rw [hinc]; omega
    · refine W_exit ?_
      refine W_seq ?_
      refine W_region ?_
      obtain rfl : k = 16 := by omega
      have hm := maskTo_lt kids 16
      have hm10 := encN_len10 (v := maskTo kids 16) (by omega)
      have hdl := digsTo_len kids 16
      have hzz := hkw30.size
      refine o_mvt rfl ?_
      refine o_mvt rfl ?_
      refine op_call rfl rfl rfl (ref01_Number w32 v30 (encN 1 ++ encB beg) (maskTo kids 16) (by omega) (hO30.keep hkw (fun _ _ => trivial)) (by rw [List.length_append]; omega)) ?_; rintro v44 w44 ⟨hO44, hk44, hin44⟩
      refine o_mvt rfl ?_
      refine o_appS (v := v44) rfl rfl (OwnB.by_ (hO.keep hk44 (fun z hz e => by have h := hin z hz; have := hlt30 z e.symm; omega))) rfl ti_u8 rfl rfl hO44 (all_c8 _) (by unfold maxLen; rw [List.length_append, List.length_append]; omega) (by rw [List.length_append, List.length_append]; omega) rfl ?_; intro v45 w45 hown45 hk45 hb45
      have hO45 : OwnB w45 5 v45 (nodeB (.branch beg kids)) := by rw [nodeB_br]; exact OwnB.app (ys := digsTo kids 16) hown45
      have hzk := hkw.size
      have hi44 : InB (fun z => w.heap.size ≤ z) v44 := hin44.mono fun z hz => by
        rcases hz with h | h
        · exact hi30 z h
        · omega
      have hkw44 : Keep All w w44 := (hkw30.trans hkw).own hk44 (fun z hz _ => hi30 z hz)
      refine o_ast rfl ?_
      refine ops_nil ?_
      refine W_ret ?_
      refine ret1 v45 rfl ?_ ?_; rfl
      refine ⟨hO45, fun z hz => ?_, hkw44.own hk45 (fun z hz _ => hi44 z hz)⟩
      rcases hb45 z hz with h | h
      · exact hi44 z h
      · have := hkw44.size; omega
theorem rf8_Node : ∀ (T : Tre), T ≠ .no → NodeOk T := by
  intro T
  induction T with
  | no => intro h; exact absurd rfl h
  | leaf b v => intro h; exact rf8_Node1 _ h (fun _ _ e => by cases e)
  | branch b k ih => intro h; exact rf8_Node1 _ h (fun b' k' e i hi => by cases e; exact ih i hi)
end Go.Proofs.Ytpiidddccmohdaa.B
