/-
  ProofHonest: the walk.
-/
import Derived.Test.YtpiidddccmohdabDoorProE
import Derived.Test.YtpiidddccmohdabDoorTreB
namespace Go.Proofs.YtpiidddccmohdabDoor.B
open Go
set_option linter.unusedVariables false
set_option maxHeartbeats 2000000
set_option maxRecDepth 100000
attribute [local irreducible] W OpsW OpsQ retP
attribute [local irreducible] numR kdR
def awayB (u : Value) (X : Nat) : Nat → Prop := fun z => some z ≠ u.ownBlock ∧ z ≠ X
theorem walk_ProofHonest (w : World) (hTb : TabB w) (hne : ¬ Dig.zero = tagD 5 []) (v : Value) (cs : List Cl) (key : Dig) (hv : ClsIn w v cs) :
    Ret Tryd.prog 4 [v, .agg (dgR key).toArray].toArray w fun r w' => r = .bool true ∧ Keep All w w' := by
  obtain ⟨a0, c0, rfl, hc0, hcm0⟩ := SlR.form hv
  refine enter (fn := Tryd.f4) (n := 85) Tryd.func4 rfl rfl (by simp) ?_
  refine W_seq ?_
  refine W_region ?_
  refine o_box rfl rfl rfl ?_; intro w1 b1 e1 hB1 hk1 hs1
  have hB1 : Blk w1 b1 (dgR key) 24 := hB1
  refine o_asc rfl ?_
  refine ops_nil ?_
  refine W_seq ?_
  refine W_seq ?_
  refine W_region ?_
  refine op_call rfl rfl rfl (speaks09 w1 (hTb.k hk1) hne) ?_; rintro v2 w2 ⟨rfl, hk2⟩
  refine op_run (r_not rfl) rfl ?_
  refine ops_nil ?_
  refine W_cond rfl (fun h3 => ?_) (fun h3 => ?_)
  · refine W_seq ?_
    refine W_region ?_
    refine o_asc rfl ?_
    refine ops_nil ?_
    refine W_ret ?_
    refine ret1 (.bool false) rfl ?_ ?_; rfl
    cases h3
  · refine W_skip ?_
    refine W_seq ?_
    refine W_seq ?_
    refine W_region ?_
    refine o_mvt rfl ?_
    refine op_call rfl rfl rfl (lw_Great w2 _ cs (hv.k (hk1.trans hk2))) ?_; rintro v5 w5 ⟨⟨g, rfl, hg⟩, hk5⟩
    refine ops_nil ?_
    refine W_cond rfl (fun h6 => ?_) (fun h6 => ?_)
    · refine W_seq ?_
      refine W_region ?_
      refine o_asc rfl ?_
      refine ops_nil ?_
      refine W_ret ?_
      refine ret1 (.bool true) rfl ?_ ?_; rfl
      exact ⟨rfl, (hk1.trans hk2).trans hk5⟩
    · refine W_skip ?_
      refine W_seq ?_
      refine W_region ?_
      have hsm := hg h6
      have hkw5 : Keep All w w5 := (hk1.trans hk2).trans hk5
      have hms50 := hsm.1
      obtain ⟨X, hX⟩ : ∃ X, X = w5.heap.size := ⟨_, rfl⟩
      obtain ⟨T, hT_a⟩ : ∃ T, T = (playC cs).1 := ⟨_, rfl⟩
      have hwa : T.wf 64 := by rw [hT_a]; exact (play_ok cs (.no, []) (fun _ => rfl) trivial).2
      have hga : ∀ (k : Dig) (v : List UInt8), T.get (nibs k.val) = some v → v.length ≤ 200 := fun k v h => by
        have ha : Agree T (playC cs).2 := by rw [hT_a]; exact (play_ok cs (.no, []) (fun _ => rfl) trivial).1
        rw [ha k] at h
        exact play_short 200 cs (.no, []) (fun x h => by cases h) hsm.2 _ (look_mem h)
      have hsa : T.short := by
        rw [hT_a]
        exact (play_ok cs (.no, []) (fun _ => rfl) trivial).1.short (play_ok cs (.no, []) (fun _ => rfl) trivial).2 fun x hx => Nat.le_trans (play_short 200 cs (.no, []) (fun x h => by cases h) hsm.2 x hx) (by decide)
      refine op_call rfl rfl rfl (tr_New w5) ?_; rintro v8 w8 ⟨rfl, hX8, hk8⟩
      rw [← hX] at hX8 ⊢
      have hwX : w.heap.size ≤ X := by have := hkw5.size; omega
      have hX8l : X < w8.heap.size := by obtain ⟨a, ha⟩ := hX8.cell; exact ha.lt
      have hkw8 : Keep All w w8 := hkw5.trans hk8
      have hB8 := ((hk2.trans hk5).trans hk8).blk' hB1 trivial
      have hX8b : ∀ B : Nat → Prop, TrieB B w8 X .no := fun B => by
        obtain ⟨v, h1, h2, h3⟩ := hX8
        exact ⟨v, h1, h2, h3⟩
      refine o_ast rfl ?_
      refine ops_nil ?_
      refine W_seq ?_
      refine W_region ?_
      refine op_run (r_loadA (dgR key) rfl rfl rfl (by first | rfl | (rw [binV_len]; rfl) | (rw [dgR_len]; rfl) | (rw [refR_len]; rfl) | (rw [secR_len]; rfl) | (rw [List.length_map, tagF_len]; rfl) | (rw [callR_len]; rfl) | (rw [dgR_len]; rfl)) (hB8.all)) rfl ?_
      refine o_bsA1 (dgR key) rfl rfl (by rw [dgR_len]; exact ti_dgP) (by rw [dgR_len]; rfl) (by rw [dgR_len]; decide) rfl ?_; intro w10 b10 e10 hB10 hk10 hs10
      have hrk : rows dgR [key] = dgR key := List.append_nil _
      refine o_ast rfl ?_
      refine ops_nil ?_
      refine W_seq ?_
      refine W_seq ?_
      refine W_region ?_
      refine o_mvt rfl ?_
      refine op_run (r_len rfl rfl rfl) rfl ?_
      refine o_mvc rfl ?_
      refine ops_nil ?_
      refine W_block ?_
      refine W_loop [6, 25] [6, 8, 25, 26, 27, 28, 29, 30, 31, 32, 33, 34, 35, 36, 37, 38, 39, 40, 41, 42, 43, 44, 45, 46, 47] (fun vs w' => ∃ (k : Nat) (u : Value) (ks : List Dig), vs = [u, .int .i64 k] ∧ k ≤ cs.length ∧ TrieB (awayB u X) w' X (playC (cs.take k)).1 ∧ Own w' 24 32 u ks.length (rows dgR ks) ∧ InB (fun z => w8.heap.size ≤ z) u ∧ (ks.length ≤ k + 1 ∧ w8.heap.size ≤ w'.heap.size) ∧ Keep All w w') (fun vs _ => match vs with | [_, .int _ y] => cs.length - y.toNat | _ => 0) ⟨0, .slice (some ⟨b10, 0, none⟩) 1 1, [key], rfl, Nat.zero_le _, TrieB.k (hX8b _) hk10 trivial (fun _ _ => trivial), by rw [hrk]; exact Own.blk (n := 1) (sz := 32) hB10 (by rw [dgR_len]) (by unfold maxLen; omega), (fun z hz => by have hz : some b10 = some z := hz; injection hz with hz; omega), ⟨Nat.le_refl _, hk10.size⟩, hkw8.trans hk10⟩ ?_
      rintro J11 vs w11 ⟨k, u, ks, rfl, hk, hX11, hO11, hin11, ⟨hkl, h8le⟩, hkw⟩ -
      have hXu : some X ≠ u.ownBlock := fun e => by have := hin11 X e.symm; omega
      refine W_seq ?_
      refine W_region ?_
      refine op_run (r_lss rfl rfl) rfl ?_
      refine ops_nil ?_
      refine W_seq ?_
      refine W_cond_p rfl (fun h12 => ?_) (fun h12 => ?_)
      · refine W_skip ?_
        refine W_seq ?_
        refine W_block ?_
        refine W_seq ?_
        refine W_region ?_
        have hcl : k < cs.length := by omega
        obtain ⟨c, hc⟩ : ∃ c, cs[k]? = some c := ⟨_, List.getElem?_eq_getElem hcl⟩
        obtain ⟨b, off, cp, vv, ev_, hby, hcell⟩ := hv.at hc
        cases ev_
        obtain ⟨av, cv, rfl, _, _⟩ := hby.form
        have hinc := inc64' k (by omega)
        have hvl := hsm.2 c (List.mem_of_getElem? hc)
        have hstep := playC_s hc
        obtain ⟨S, hS_⟩ : ∃ S, S = playC (cs.take k) := ⟨_, rfl⟩
        rw [← hS_] at hX11 hstep
        refine op_run (r_idxS rfl rfl rfl rfl (by omega) (by omega)) rfl ?_
        refine op_run (r_loadA (callR c.1 c.2.1 (.slice av c.2.2.length cv)) rfl rfl rfl (by first | rfl | (rw [binV_len]; rfl) | (rw [dgR_len]; rfl) | (rw [refR_len]; rfl) | (rw [secR_len]; rfl) | (rw [List.length_map, tagF_len]; rfl) | (rw [callR_len]; rfl) | (rw [dgR_len]; rfl)) ((fun j u hj => by rw [Int.toNat_natCast]; exact hkw.cell (hcell j u hj) trivial))) rfl ?_
        refine o_alloc rfl rfl rfl ?_; intro w15 b15 e15 hB15 hk15 hs15
        refine o_storeA (cs := callR c.1 c.2.1 (.slice av c.2.2.length cv)) rfl rfl (by first | rfl | exact binV_one _ | exact dgR_one _ | exact refR_one _ | exact secR_one _ | exact all_c8 _ | first | exact callR_one (Sl.oneI hby) | exact okC_dgR _ | exact all_c8 _) (by first | rfl | (rw [binV_len]; rfl) | (rw [dgR_len]; rfl) | (rw [refR_len]; rfl) | (rw [secR_len]; rfl) | (rw [List.length_map, tagF_len]; rfl) | (rw [callR_len]; rfl) | (rw [dgR_len]; rfl)) hB15 (by exact Nat.le_of_eq (by simp [callR_len])) rfl ?_; intro w16 hB16 hk16 hs16
        have hB16 : Blk w16 b15 (callR c.1 c.2.1 (.slice av c.2.2.length cv)) 31 := by
          have h := hB16
          rwa [splice_all (by simp [callR_len])] at h
        have hk1116 : Keep All w11 w16 := hk15.new hk16 (by omega)
        refine ops_nil ?_
        refine W_seq ?_
        refine W_region ?_
        refine o_mvt rfl ?_
        refine op_run (r_fieldAddr rfl rfl rfl rfl rfl) rfl ?_
        refine op_run (r_loadA (dgR c.2.1) rfl rfl rfl (by first | rfl | (rw [binV_len]; rfl) | (rw [dgR_len]; rfl) | (rw [refR_len]; rfl) | (rw [secR_len]; rfl) | (rw [List.length_map, tagF_len]; rfl) | (rw [callR_len]; rfl) | (rw [dgR_len]; rfl)) (hB16.key)) rfl ?_
        refine o_bsA1 (dgR c.2.1) rfl rfl (by rw [dgR_len]; exact ti_dgP) (by rw [dgR_len]; rfl) (by rw [dgR_len]; decide) rfl ?_; intro w18 b18 e18 hB18 hk18 hs18
        refine o_app (v := u) (c := 1) (m := ks.length) (dgR c.2.1) rfl rfl rfl ti_dgP rfl (by decide) (hO11.keep (hk1116.trans hk18) (fun _ _ => trivial)) (by rw [dgR_len]) hB18.all (all_c8 _) (by unfold maxLen; omega) (by omega) rfl ?_; intro v19 w19 hown19 hk19 hb19
        have hk1118 := hk1116.trans hk18
        have hkw18 := hkw.trans hk1118
        have hz8 := hkw8.size
        have hz11 := hkw.size
        have hz1118 := hk1118.size
        have hkw19 : Keep All w w19 := hkw18.own hk19 (fun z hz _ => by have := hin11 z hz; omega)
        have hX18 : TrieB (awayB u X) w18 X S.1 := hX11.k hk1118 trivial (fun _ _ => trivial)
        have hX19 : TrieB (awayB v19 X) w19 X S.1 := (hX18.lt.k hk19 hXu (fun z hz => hz.1.1)).mono fun z hz => ⟨fun e => by
          rcases hb19 z e.symm with h | h
          · exact hz.1.1 h.symm
          · have := hz.2; omega, hz.1.2⟩
        have hB18k : Blk w18 b15 (callR c.1 c.2.1 (.slice av c.2.2.length cv)) 31 := hk18.blk' hB16 trivial
        have hb15u : some b15 ≠ u.ownBlock := fun e => by have := hO11.lt b15 e.symm; omega
        have hB19 := hk19.blk' hB18k hb15u
        have hby19 : By w19 (.slice av c.2.2.length cv) c.2.2 := Sl.k hby hkw19
        have hX19l : X < w19.heap.size := by obtain ⟨a, ha⟩ := hX19.to.cell; exact ha.lt
        have hNew : ∀ z, w19.heap.size ≤ z → awayB v19 X z := fun z hz => ⟨fun e => by have := hown19.lt z e.symm; omega, by omega⟩
        have hb15X : b15 ≠ X := by obtain ⟨a, ha⟩ := hX11.to.cell; have := ha.lt; omega
        have hrows : rows dgR (ks ++ [c.2.1]) = rows dgR ks ++ dgR c.2.1 := by rw [rows_app]; exact congrArg _ (List.append_nil _)
        have hO19 : Own w19 24 32 v19 (ks ++ [c.2.1]).length (rows dgR (ks ++ [c.2.1])) := by rw [hrows, List.length_append]; exact hown19
        have hin19 : InB (fun z => w8.heap.size ≤ z) v19 := hb19.mono fun z hz => by
          rcases hz with h | h
          · exact hin11 z h
          · exact Nat.le_trans (Nat.le_trans h8le hz1118) h
        refine o_ast rfl ?_
        refine ops_nil ?_
        refine W_seq ?_
        refine W_region ?_
        refine op_run (r_fieldAddr rfl rfl rfl rfl rfl) rfl ?_
        refine op_run (r_load rfl rfl rfl (hB19.cell callR_what)) rfl ?_
        refine op_run (r_eql rfl rfl) rfl ?_
        refine ops_nil ?_
        refine W_cond_p rfl (fun h21 => ?_) (fun h21 => ?_)
        · refine W_region ?_
          refine o_mvt rfl ?_
          refine op_run (r_fieldAddr rfl rfl rfl rfl rfl) rfl ?_
          refine op_run (r_loadA (dgR c.2.1) rfl rfl rfl (by first | rfl | (rw [binV_len]; rfl) | (rw [dgR_len]; rfl) | (rw [refR_len]; rfl) | (rw [secR_len]; rfl) | (rw [List.length_map, tagF_len]; rfl) | (rw [callR_len]; rfl) | (rw [dgR_len]; rfl)) (hB19.key)) rfl ?_
          refine op_run (r_fieldAddr rfl rfl rfl rfl rfl) rfl ?_
          refine op_run (r_load rfl rfl rfl (hB19.cell callR_val)) rfl ?_
          refine op_call rfl rfl rfl (tb_Put (awayB v19 X) w19.heap.size hNew w19 X (Nat.le_refl _) (fun z hz => hz.2) S.1 c.2.1 _ c.2.2 hX19 hby19 (by omega)) ?_; rintro v24 w24 ⟨hX24, hk24⟩
          refine ops_nil ?_
          refine W_region ?_
          refine op_run (r_add rfl rfl) rfl ?_
          refine o_mvt rfl ?_
          refine ops_nil ?_
          have hes : stepC S c = (putTT S.1 c.2.1 c.2.2, putI S.2 c.2.1 c.2.2) := if_pos h21
          rw [hes] at hstep
          refine ⟨by (repeat (first | with_reducible exact offM_refl _ _ | refine offM_updc rfl ?_ | refine offM_upd rfl ?_ | refine offM_updo rfl ?_ | refine offM_updo_none ?_ | refine offM_head rfl rfl ?_)), ⟨k + 1, v19, ks ++ [c.2.1], congrArg (fun z : Int => [v19, Value.int .i64 z]) hinc, by omega, by rw [hstep]; exact hX24, hO19.keep hk24 (fun z hz e => by have := hin19 z hz; omega), hin19, ⟨by rw [List.length_append]; simp only [List.length_singleton]; omega, by have a1 := hk24.size; have a2 := hk19.size; omega⟩, hkw19.new hk24 hwX⟩, ?_⟩
          show cs.length - (IntKind.i64.wrap ((k : Int) + 1)).toNat < cs.length - (k : Int).toNat
          rw [hinc]; omega
        · refine W_region ?_
          refine o_mvt rfl ?_
          refine op_run (r_fieldAddr rfl rfl rfl rfl rfl) rfl ?_
          refine op_run (r_loadA (dgR c.2.1) rfl rfl rfl (by first | rfl | (rw [binV_len]; rfl) | (rw [dgR_len]; rfl) | (rw [refR_len]; rfl) | (rw [secR_len]; rfl) | (rw [List.length_map, tagF_len]; rfl) | (rw [callR_len]; rfl) | (rw [dgR_len]; rfl)) (hB19.key)) rfl ?_
          refine op_call rfl rfl rfl (tb_Drop (awayB v19 X) w19.heap.size hNew w19 X (Nat.le_refl _) (fun z hz => hz.2) S.1 c.2.1 hX19) ?_; rintro v27 w27 ⟨rfl, hX27, hk27⟩
          refine ops_nil ?_
          refine W_region ?_
          refine op_run (r_add rfl rfl) rfl ?_
          refine o_mvt rfl ?_
          refine ops_nil ?_
          have hes : stepC S c = (dropTT S.1 c.2.1, dropI S.2 c.2.1) := if_neg h21
          rw [hes] at hstep
          refine ⟨by (repeat (first | with_reducible exact offM_refl _ _ | refine offM_updc rfl ?_ | refine offM_upd rfl ?_ | refine offM_updo rfl ?_ | refine offM_updo_none ?_ | refine offM_head rfl rfl ?_)), ⟨k + 1, v19, ks ++ [c.2.1], congrArg (fun z : Int => [v19, Value.int .i64 z]) hinc, by omega, by rw [hstep]; exact hX27, hO19.keep hk27 (fun z hz e => by have := hin19 z hz; omega), hin19, ⟨by rw [List.length_append]; simp only [List.length_singleton]; omega, by have a1 := hk27.size; have a2 := hk19.size; omega⟩, hkw19.new hk27 hwX⟩, ?_⟩
          show cs.length - (IntKind.i64.wrap ((k : Int) + 1)).toNat < cs.length - (k : Int).toNat
          rw [hinc]; omega
      · refine W_exit ?_
        refine W_seq ?_
        refine W_seq ?_
        refine W_region ?_
        have hke : k = cs.length := by omega
        rw [hke, List.take_length, ← hT_a] at hX11
        have hXT : TrieIn w11 X T := hX11.to
        obtain ⟨au, cu, rfl, hcu, hcum⟩ := hO11.sl.form
        refine o_mvt rfl ?_
        refine op_run (r_len rfl rfl rfl) rfl ?_
        refine o_mvc rfl ?_
        refine ops_nil ?_
        refine W_block ?_
        refine W_loop [50] [4, 10, 11, 12, 13, 14, 15, 50, 51, 52, 53, 54, 55, 56, 57, 58, 59, 60, 61, 62, 63, 64, 65, 66, 67, 68, 69, 70, 71, 72, 73, 74, 75, 76, 77, 78, 79, 80, 81, 82, 83, 84] (fun vs w' => ∃ j : Nat, vs = [.int .i64 j] ∧ j ≤ ks.length ∧ Keep All w11 w') (fun vs _ => match vs with | [.int _ y] => ks.length - y.toNat | _ => 0) ⟨0, rfl, Nat.zero_le _, Keep.refl _⟩ ?_
        rintro J29 vs w29 ⟨j, rfl, hj, hk29⟩ -
        refine W_seq ?_
        refine W_region ?_
        refine op_run (r_lss rfl rfl) rfl ?_
        refine ops_nil ?_
        refine W_seq ?_
        refine W_cond_p rfl (fun h30 => ?_) (fun h30 => ?_)
        · refine W_skip ?_
          refine W_seq ?_
          refine W_block ?_
          refine W_seq ?_
          refine W_region ?_
          have hjl : j < ks.length := by omega
          obtain ⟨q, hq⟩ : ∃ q, ks[j]? = some q := ⟨_, List.getElem?_eq_getElem hjl⟩
          have hS29 : Sl w29 (.slice au ks.length cu) ks.length 32 (rows dgR ks) := Sl.k hO11.sl hk29
          obtain ⟨b, off, ea_, hc⟩ := rows_at' dgR_len hS29 hjl (by decide)
          rw [(List.getElem?_eq_some_iff.1 hq).2] at hc
          subst ea_
          have hincJ := inc64' j (by omega)
          refine op_run (r_idxS rfl rfl rfl rfl (by omega) (by omega)) rfl ?_
          refine op_run (r_loadA (dgR q) rfl rfl rfl (by first | rfl | (rw [binV_len]; rfl) | (rw [dgR_len]; rfl) | (rw [refR_len]; rfl) | (rw [secR_len]; rfl) | (rw [List.length_map, tagF_len]; rfl) | (rw [callR_len]; rfl) | (rw [dgR_len]; rfl)) ((fun j u hj => by rw [Int.toNat_natCast]; exact hc j u hj))) rfl ?_
          refine o_alloc rfl rfl rfl ?_; intro w33 b33 e33 hB33 hk33 hs33
          refine o_storeA (cs := dgR q) rfl rfl (by first | rfl | exact binV_one _ | exact dgR_one _ | exact refR_one _ | exact secR_one _ | exact all_c8 _ | first | exact callR_one (Sl.oneI hby) | exact okC_dgR _ | exact all_c8 _) (by first | rfl | (rw [binV_len]; rfl) | (rw [dgR_len]; rfl) | (rw [refR_len]; rfl) | (rw [secR_len]; rfl) | (rw [List.length_map, tagF_len]; rfl) | (rw [callR_len]; rfl) | (rw [dgR_len]; rfl)) hB33 (by exact Nat.le_of_eq (by simp [dgR_len])) rfl ?_; intro w34 hB34 hk34 hs34
          have hB34 : Blk w34 b33 (dgR q) 24 := by
            have h := hB34
            rwa [splice_all (by simp [dgR_len])] at h
          have hk1134 : Keep All w11 w34 := hk29.trans (hk33.new hk34 (by omega))
          have hXT34 := hXT.k hk1134
          refine ops_nil ?_
          refine W_seq ?_
          refine W_region ?_
          refine o_mvt rfl ?_
          refine op_run (r_loadA (dgR q) rfl rfl rfl (by first | rfl | (rw [binV_len]; rfl) | (rw [dgR_len]; rfl) | (rw [refR_len]; rfl) | (rw [secR_len]; rfl) | (rw [List.length_map, tagF_len]; rfl) | (rw [callR_len]; rfl) | (rw [dgR_len]; rfl)) (hB34.all)) rfl ?_
          refine op_call rfl rfl rfl (tr_GetO w34 X T q hXT34 (fun x hx => Nat.le_trans (hga q x hx) (by decide))) ?_; rintro v36 w36 ⟨vg, rfl, hOg, hing, hk36⟩
          have hbg := OwnB.by_ hOg
          obtain ⟨ag, cg, rfl, _, _⟩ := hbg.form
          have hk1136 := hk1134.trans hk36
          have hchk := (chk_prove hwa hsa q).trans (show tellT T (nibs q.val) = some ((T.get (nibs q.val)).isSome, (T.get (nibs q.val)).getD []) from rfl)
          have hP65 := prove_70 hwa q
          have hP2k := prove_3000 hwa hsa q
          refine o_mvt rfl ?_
          refine op_run (r_extract rfl rfl) rfl ?_
          refine op_run (r_extract rfl rfl) rfl ?_
          refine o_ast rfl ?_
          refine o_ast rfl ?_
          refine ops_nil ?_
          refine W_seq ?_
          refine W_held (fun w' => Keep All w36 w') (by kernel_rfl) (Keep.drawn w36) (fun hS => ?_)
          refine any_mvt 0 rfl (by kernel_rfl) (by kernel_rfl) (by kernel_rfl) rfl hS ?_
          refine any_run 2 (fun w' hS' => (r_loadA (dgR q) rfl rfl rfl (by first | rfl | (rw [binV_len]; rfl) | (rw [dgR_len]; rfl) | (rw [refR_len]; rfl) | (rw [secR_len]; rfl) | (rw [List.length_map, tagF_len]; rfl) | (rw [callR_len]; rfl) | (rw [dgR_len]; rfl)) (((hk36.trans hS').blk' hB34 trivial).all))) rfl (by kernel_rfl) (by kernel_rfl) (by kernel_rfl) rfl hS ?_
          refine any_mvt 3 rfl (by kernel_rfl) (by kernel_rfl) (by kernel_rfl) rfl hS ?_
          refine any_run 4 (fun w' hS' => (r_loadA (dgR q) rfl rfl rfl (by first | rfl | (rw [binV_len]; rfl) | (rw [dgR_len]; rfl) | (rw [refR_len]; rfl) | (rw [secR_len]; rfl) | (rw [List.length_map, tagF_len]; rfl) | (rw [callR_len]; rfl) | (rw [dgR_len]; rfl)) (((hk36.trans hS').blk' hB34 trivial).all))) rfl (by kernel_rfl) (by kernel_rfl) (by kernel_rfl) rfl hS ?_
          refine any_one 1 (by kernel_rfl) (one_of rfl ?_)
          refine op_call rfl rfl rfl (tr_Root _ X T (hXT.k (hk1136.trans hS)) hsa) ?_; rintro v40 w40 ⟨rfl, hk40⟩
          refine ops_nil ⟨hS.trans hk40, fun hS => ?_⟩
          refine any_one 5 (by kernel_rfl) (one_of rfl ?_)
          refine op_call rfl rfl rfl (tr_Prove w40 X T q (hXT.k (hk1136.trans hS)) hsa) ?_; rintro v42 w42 ⟨ps, hO42, hR42, hin42, hk42⟩
          refine ops_nil ⟨hS.trans hk42, fun hS => ?_⟩
          refine any_one 6 (by kernel_rfl) (one_of rfl ?_)
          refine op_call rfl rfl rfl (p_Check w42 (rootT T) q _ ps (proveT T q) (RowsO.rowsV hO42 hR42) (by omega) (fun b hb => Nat.le_trans (hP2k b hb) (by decide)) (hTb.k ((hkw.trans hk1136).trans hS))) ?_; rintro v44 w44 ⟨vx, hr44, hbx, hk44⟩
          rw [hchk] at hr44 hbx
          subst hr44
          have hbx : By w44 vx ((T.get (nibs q.val)).getD []) := hbx
          obtain ⟨ax, cx, rfl, _, _⟩ := hbx.form
          refine ops_nil ⟨hS.trans hk44, fun hS => ?_⟩
          refine any_mvt 7 rfl (by kernel_rfl) (by kernel_rfl) (by kernel_rfl) rfl hS ?_
          refine any_run 8 (fun w' hS' => (r_extract rfl rfl)) rfl (by kernel_rfl) (by kernel_rfl) (by kernel_rfl) rfl hS ?_
          refine any_run 9 (fun w' hS' => (r_extract rfl rfl)) rfl (by kernel_rfl) (by kernel_rfl) (by kernel_rfl) rfl hS ?_
          refine any_run 10 (fun w' hS' => (r_extract rfl rfl)) rfl (by kernel_rfl) (by kernel_rfl) (by kernel_rfl) rfl hS ?_
          refine any_ast 11 rfl (by kernel_rfl) (by kernel_rfl) (by kernel_rfl) rfl hS ?_
          refine any_ast 12 rfl (by kernel_rfl) (by kernel_rfl) (by kernel_rfl) rfl hS ?_
          refine any_ast 13 rfl (by kernel_rfl) (by kernel_rfl) (by kernel_rfl) rfl hS ?_
          refine any_done (by kernel_rfl) ?_
          refine W_cut [83] [71, 72, 73, 74, 75, 76, 77, 78, 79, 80, 81, 82, 83] (fun vs w46 => vs = [.bool false] ∧ Keep All w44 w46) ?_ ?_
          · refine W_region ?_
            refine o_mvt rfl ?_
            refine op_run (r_neq rfl rfl) rfl ?_
            refine o_mvt rfl ?_
            refine g_split rfl rfl rfl (fun g47 => ?_) (fun g47 => ?_)
            · refine o_mvt (g_yes rfl rfl rfl g47) ?_
              refine o_mvt (g_yes rfl rfl rfl g47) ?_
              refine op_run (r_neqB rfl rfl rfl) (g_yes rfl rfl rfl g47) ?_
              refine o_pkFt rfl g47 rfl ?_
              refine o_mvt rfl ?_
              refine g_split rfl rfl rfl (fun g48 => ?_) (fun g48 => ?_)
              · refine o_mvt (g_yes rfl rfl rfl g48) ?_
                refine o_mvt (g_yes rfl rfl rfl g48) ?_
                refine op_call rfl rfl (g_yes rfl rfl rfl g48) (ref01_Same w44 _ _ _ _ (Sl.k hbg hS) hbx) ?_; rintro v49 w49 ⟨rfl, hk49⟩
                refine op_run (r_not rfl) (g_yes rfl rfl rfl g48) ?_
                refine o_pkFt rfl g48 rfl ?_
                refine ops_nil ?_
                exact ⟨by (repeat (first | with_reducible exact offM_refl _ _ | refine offM_updc rfl ?_ | refine offM_upd rfl ?_ | refine offM_updo rfl ?_ | refine offM_updo_none ?_ | refine offM_head rfl rfl ?_)), congrArg (fun b => [Value.bool b]) (by simp), hk49⟩
              · refine op_skip (g_no rfl rfl rfl g48) ?_
                refine op_skip (g_no rfl rfl rfl g48) ?_
                refine op_skip (g_no rfl rfl rfl g48) ?_
                refine op_skip (g_no rfl rfl rfl g48) ?_
                refine o_pkTc rfl g48 rfl ?_
                refine ops_nil ?_
                exact absurd g48 (by simp)
            · refine op_skip (g_no rfl rfl rfl g47) ?_
              refine op_skip (g_no rfl rfl rfl g47) ?_
              refine op_skip (g_no rfl rfl rfl g47) ?_
              refine o_pkTc rfl g47 rfl ?_
              refine o_mvt rfl ?_
              refine op_skip (g_no rfl rfl rfl rfl) ?_
              refine op_skip (g_no rfl rfl rfl rfl) ?_
              refine op_skip (g_no rfl rfl rfl rfl) ?_
              refine op_skip (g_no rfl rfl rfl rfl) ?_
              refine o_pkTc rfl rfl rfl ?_
              refine ops_nil ?_
              exact absurd g47 (by simp)
          · rintro J53 vs w53 ⟨rfl, hk53⟩ -
            refine W_cond rfl (fun h54 => ?_) (fun h54 => ?_)
            · refine W_seq ?_
              refine W_region ?_
              refine o_asc rfl ?_
              refine ops_nil ?_
              refine W_ret ?_
              refine ret1 (.bool false) rfl ?_ ?_; rfl
              cases h54
            · refine W_skip ?_
              refine W_region ?_
              refine op_run (r_add rfl rfl) rfl ?_
              refine o_mvt rfl ?_
              refine ops_nil ?_
              refine ⟨by (repeat (first | with_reducible exact offM_refl _ _ | refine offM_updc rfl ?_ | refine offM_upd rfl ?_ | refine offM_updo rfl ?_ | refine offM_updo_none ?_ | refine offM_head rfl rfl ?_)), ⟨j + 1, congrArg (fun z : Int => [Value.int .i64 z]) hincJ, by omega, (hk1136.trans hS).trans hk53⟩, ?_⟩
              show ks.length - (IntKind.i64.wrap ((j : Int) + 1)).toNat < ks.length - (j : Int).toNat
              rw [hincJ]; omega
        · refine W_exit ?_
          refine W_seq ?_
          refine W_region ?_
          refine o_asc rfl ?_
          refine ops_nil ?_
          refine W_ret ?_
          refine ret1 (.bool true) rfl ?_ ?_; rfl
          exact ⟨rfl, hkw.trans hk29⟩
end Go.Proofs.YtpiidddccmohdabDoor.B
