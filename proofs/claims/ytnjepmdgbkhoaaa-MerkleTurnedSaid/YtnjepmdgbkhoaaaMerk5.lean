/-
  Trees: the document's example; what a proof leads to.
-/
import Derived.Test.YtnjepmdgbkhoaaaMerk4
import Derived.Test.YtnjepmdgbkhoaaaConvM
namespace Go.Proofs.Ytnjepmdgbkhoaaa.B
open Go
set_option linter.unusedVariables false
set_option maxHeartbeats 2000000
set_option maxRecDepth 100000
attribute [local irreducible] W OpsW OpsQ retP
theorem KeepM.cell {B : Nat} {w w' : World} (h : KeepM B w w') {a : Addr} {v : Value} (hc : w.cell? a = some v) : w'.cell? a = some v := by
  have hc0 := hc
  have hsp := World.cell?_spot hc
  obtain ⟨b, o, sp⟩ := a
  obtain rfl : sp = none := hsp
  unfold World.cell? at hc
  cases hb : w.heap[b]? with
  | none => simp [hb] at hc
  | some obj =>
    cases obj with
    | cells cs e fz =>
      obtain ⟨fz', hb'⟩ := h.rows b cs.toList e ⟨fz, by simpa using hb⟩
      have hb' : w'.heap[b]? = some (.cells cs e fz') := by simpa using hb'
      unfold World.cell?
      simp [hb] at hc
      simp [hb', hc]
    | _ => simp [hb] at hc
theorem Sl.km {B : Nat} {w w' : World} {v : Value} {n sz : Nat} {cs : List Value} (h : Sl w v n sz cs) (hk : KeepM B w w') : Sl w' v n sz cs := by
  obtain ⟨a, c, rfl, h1, h2, h3, h4, h5⟩ := h
  exact ⟨a, c, rfl, h1, h2, h3, h4, fun x hx i u hu => ⟨(h5 x hx i u hu).1, hk.cell (h5 x hx i u hu).2⟩⟩
theorem rowsB_km {B : Nat} {w w' : World} {v : Value} {pss : List (List UInt8)} (h : SlR w v 1 (RowB w) pss) (hk : KeepM B w w') : SlR w' v 1 (RowB w') pss := by
  obtain ⟨a, c, rfl, h1, h2, h3, h4⟩ := h
  refine ⟨a, c, rfl, h1, h2, h3, fun x hx i y hy => ?_⟩
  obtain ⟨cs, hl, hc, v, rfl, hb⟩ := h4 x hx i y hy
  exact ⟨[v], hl, fun j u hu => hk.cell (hc j u hu), v, rfl, hb.km hk⟩
def phi03 (B : Nat) (k : Nat) (v : Value) (wa wb : World) : Prop :=
  match k with
  | 0 => v = .slice (some ⟨wa.heap.size, 0, none⟩) 1 1 ∧ RowM wb wa.heap.size [c8 97] 5 ∧ B ≤ wa.heap.size
  | 1 => (∃ b, v = .slice (some ⟨b, 0, none⟩) 1 1) ∧ By wb v [97]
  | 2 => v = .slice (some ⟨wa.heap.size, 0, none⟩) 1 1 ∧ RowM wb wa.heap.size [c8 98] 5 ∧ B ≤ wa.heap.size
  | 3 => (∃ b, v = .slice (some ⟨b, 0, none⟩) 1 1) ∧ By wb v [98]
  | 4 => SlR wb v 1 (RowB wb) [[97], [98]]
  | 5 => v = .agg (dgR (rootD tagD [[97], [98]])).toArray
  | _ => SlR wb v 1 (RowB wb) [(tagD 0 [[97]]).val, (tagD 0 [[98]]).val]
theorem ab_len : ∀ p ∈ ([[97], [98]] : List (List UInt8)), p.length ≤ 100000 := by decide
theorem root_ab : rootD tagD [[97], [98]] = tagD 1 [(tagD 0 [[97]]).val, (tagD 0 [[98]]).val] := by
  have h := rootD_2 tagD (rows := [[97], [98]]) (by decide)
  have e : splitN ([[97], [98]] : List (List UInt8)).length = 1 := by decide
  rw [e] at h
  rw [h]
  show tagD 1 [(rootD tagD [[97]]).val, (rootD tagD [[98]]).val] = _
  rw [rootD_1, rootD_1]

theorem speaks03 (w : World) : Ret Try.prog 8 [].toArray w fun r w' => r = .bool true ∧ Keep All w w' := by
  refine enter (fn := Try.f8) (n := 22) Try.func8 rfl rfl (by simp) ?_
  refine W_seq ?_
  refine W_region ?_
  refine o_asc rfl ?_
  refine ops_nil ?_
  refine W_seq ?_
  refine W_region ?_
  refine o_bs1 (v := c8 97) rfl rfl rfl rfl rfl rfl ?_; intro w1 b1 e1 hB1 hk1 hs1
  refine o_convB rfl (hB1) rfl rfl rfl ?_; intro w2 hc2 hk2 hs2
  have hby2 : By w2 (.slice (some ⟨b1, 0, none⟩) 1 1) [97] := By.of_cells (bs := [97]) hc2 (Nat.le_refl _) (by unfold maxLen; decide)
  have hkA : Keep All w w2 := hk1.new hk2 (by omega)
  refine o_bs1 (v := _) rfl rfl rfl rfl rfl rfl ?_; intro w3 b3 e3 hB3 hk3 hs3
  refine op_call rfl rfl rfl (rf_Tagged w3 _ 0 [[97]] (rowsB_one hB3 (hby2.k hk3)) (tag_1 _ (by decide))) ?_; rintro v4 w4 ⟨rfl, hk4⟩
  refine o_bs1 (v := c8 98) rfl rfl rfl rfl rfl rfl ?_; intro w5 b5 e5 hB5 hk5 hs5
  refine o_convB rfl (hB5) rfl rfl rfl ?_; intro w6 hc6 hk6 hs6
  have hby6 : By w6 (.slice (some ⟨b5, 0, none⟩) 1 1) [98] := By.of_cells (bs := [98]) hc6 (Nat.le_refl _) (by unfold maxLen; decide)
  have hkB : Keep All w w6 := (((hkA.trans hk3).trans hk4).trans hk5).new hk6 (by have := ((hkA.trans hk3).trans hk4).size; omega)
  refine o_bs1 (v := _) rfl rfl rfl rfl rfl rfl ?_; intro w7 b7 e7 hB7 hk7 hs7
  refine op_call rfl rfl rfl (rf_Tagged w7 _ 0 [[98]] (rowsB_one hB7 (hby6.k hk7)) (tag_1 _ (by decide))) ?_; rintro v8 w8 ⟨rfl, hk8⟩
  refine o_alloc rfl rfl rfl ?_; intro w9 b9 e9 hB9 hk9 hs9
  refine o_alloc rfl rfl rfl ?_; intro w10 b10 e10 hB10 hk10 hs10
  refine o_storeA (cs := dgR (tagD 0 [[97]])) rfl rfl (by first | rfl | exact dgR_one _ | exact refR_one _ | exact secR_one _ | exact all_c8 _) (by first | rfl | (rw [dgR_len]; rfl) | (rw [refR_len]; rfl) | (rw [secR_len]; rfl) | (rw [List.length_map, tagF_len]; rfl)) (hk10.blk' hB9 trivial) (by exact Nat.le_of_eq (by simp [dgR_len])) rfl ?_; intro w11 hB11 hk11 hs11
  have hB11 : Blk w11 b9 (dgR (tagD 0 [[97]])) 23 := by
    have h := hB11
    rwa [splice_all (by simp [dgR_len])] at h
  refine o_storeA (cs := dgR (tagD 0 [[98]])) rfl rfl (by first | rfl | exact dgR_one _ | exact refR_one _ | exact secR_one _ | exact all_c8 _) (by first | rfl | (rw [dgR_len]; rfl) | (rw [refR_len]; rfl) | (rw [secR_len]; rfl) | (rw [List.length_map, tagF_len]; rfl)) (hk11.blk' hB10 (by omega)) (by exact Nat.le_of_eq (by simp [dgR_len])) rfl ?_; intro w12 hB12 hk12 hs12
  have hB12 : Blk w12 b10 (dgR (tagD 0 [[98]])) 23 := by
    have h := hB12
    rwa [splice_all (by simp [dgR_len])] at h
  have hB11' := hk12.blk' hB11 (show b9 ≠ b10 by omega)
  have hkC : Keep All w w12 := (((((hkB.trans hk7).trans hk8).trans hk9).trans hk10).new hk11 (by have := ((hkB.trans hk7).trans hk8).size; omega)).new hk12 (by have := ((hkB.trans hk7).trans hk8).size; omega)
  refine ops_nil ?_
  refine W_seq ?_
  refine W_held (fun w' => KeepM w12.heap.size w12 w') (by kernel_rfl) (KeepM.of (Keep.drawn w12)) (fun hS => ?_)
  refine any_run 6 (fun w' hS' => (r_sliceA rfl rfl rfl)) rfl (by kernel_rfl) (by kernel_rfl) (by kernel_rfl) rfl hS ?_
  refine any_run 7 (fun w' hS' => (r_sliceA rfl rfl rfl)) rfl (by kernel_rfl) (by kernel_rfl) (by kernel_rfl) rfl hS ?_
  refine any_monoR (KeepM w12.heap.size) (pre_m _) [⟨0, 11, []⟩, ⟨1, 12, [(0, 11)]⟩, ⟨2, 13, []⟩, ⟨3, 14, [(2, 13)]⟩, ⟨4, 15, [(1, 12), (3, 14)]⟩, ⟨5, 16, [(4, 15)]⟩, ⟨8, 19, []⟩] (fun k v wa wb => phi03 w12.heap.size k v wa wb) 3 (by kernel_rfl) (by kernel_rfl) (fun w' hk' => (pre_m _).trans hS hk') (And.intro ?_ (And.intro ?_ (And.intro ?_ (And.intro ?_ (And.intro ?_ (And.intro ?_ (And.intro ?_ True.intro))))))) ?_
  · rintro J vs gg w15 hk15 rfl
    refine one_of rfl ?_
    refine o_bs1 (v := c8 97) rfl rfl rfl rfl rfl rfl ?_; intro w16 b16 e16 hB16 hk16 hs16
    exact ops_nil ⟨KeepM.of hk16, (by subst e16; exact ⟨rfl, hB16.rowM, hk15.base.size⟩)⟩
  · rintro J vs gg w18 hk18 ⟨v14_0, _, rfl, ⟨wa0, wb0, ka0, kab0, kb0, hg0, hf0⟩, rfl⟩
    obtain ⟨rfl, hrow, hBb⟩ := hf0
    refine one_of rfl ?_
    refine o_convM rfl (kb0.rows _ _ _ hrow) hBb rfl rfl rfl ?_; intro w19 hk19 hr19 hs19
    exact ops_nil ⟨hk19, (by exact ⟨⟨_, rfl⟩, By.of_rowM (bs := [97]) hr19 (show 1 ≤ 2 ^ 63 - 1 by decide)⟩)⟩
  · rintro J vs gg w21 hk21 rfl
    refine one_of rfl ?_
    refine o_bs1 (v := c8 98) rfl rfl rfl rfl rfl rfl ?_; intro w22 b22 e22 hB22 hk22 hs22
    exact ops_nil ⟨KeepM.of hk22, (by subst e22; exact ⟨rfl, hB22.rowM, hk21.base.size⟩)⟩
  · rintro J vs gg w24 hk24 ⟨v14_2, _, rfl, ⟨wa2, wb2, ka2, kab2, kb2, hg2, hf2⟩, rfl⟩
    obtain ⟨rfl, hrow, hBb⟩ := hf2
    refine one_of rfl ?_
    refine o_convM rfl (kb2.rows _ _ _ hrow) hBb rfl rfl rfl ?_; intro w25 hk25 hr25 hs25
    exact ops_nil ⟨hk25, (by exact ⟨⟨_, rfl⟩, By.of_rowM (bs := [98]) hr25 (show 1 ≤ 2 ^ 63 - 1 by decide)⟩)⟩
  · rintro J vs gg w27 hk27 ⟨v14_1, _, rfl, ⟨wa1, wb1, ka1, kab1, kb1, hg1, hf1⟩, v14_3, _, rfl, ⟨wa3, wb3, ka3, kab3, kb3, hg3, hf3⟩, rfl⟩
    obtain ⟨⟨bb1, rfl⟩, hy1⟩ := hf1
    obtain ⟨⟨bb3, rfl⟩, hy3⟩ := hf3
    refine one_of rfl ?_
    refine o_bsL ([.slice (some ⟨bb1, 0, none⟩) 1 1, .slice (some ⟨bb3, 0, none⟩) 1 1]) rfl rfl rfl rfl rfl rfl rfl rfl rfl ?_; intro w28 b28 e28 hB28 hk28 hs28
    exact ops_nil ⟨KeepM.of hk28, rowsB_two hB28 ((hy1.km kb1).k hk28) ((hy3.km kb3).k hk28)⟩
  · rintro J vs gg w30 hk30 ⟨v14_4, _, rfl, ⟨wa4, wb4, ka4, kab4, kb4, hg4, hf4⟩, rfl⟩
    refine one_of rfl ?_
    refine op_call rfl rfl rfl (mk_Root 2 w30 _ [[97], [98]] rfl (rowsB_km hf4 kb4) ab_len) ?_; rintro v31 w31 ⟨rfl, hk31⟩
    exact ops_nil ⟨KeepM.of hk31, rfl⟩
  · rintro J vs gg w33 hk33 rfl
    refine one_of rfl ?_
    refine o_bsL ([.slice (some ⟨b9, 0, none⟩) 32 32, .slice (some ⟨b10, 0, none⟩) 32 32]) rfl rfl rfl rfl rfl rfl rfl rfl rfl ?_; intro w34 b34 e34 hB34 hk34 hs34
    exact ops_nil ⟨KeepM.of hk34, rowsB_two hB34 ((((By.dg hB11').k (Keep.drawn w12)).km hk33).k hk34) ((((By.dg hB12).k (Keep.drawn w12)).km hk33).k hk34)⟩
  · rintro J vs gg w36 hk36 ⟨v14_0, _, rfl, ⟨wa0, wb0, ka0, kab0, kb0, hg0, hf0⟩, v14_1, _, rfl, ⟨wa1, wb1, ka1, kab1, kb1, hg1, hf1⟩, v14_2, _, rfl, ⟨wa2, wb2, ka2, kab2, kb2, hg2, hf2⟩, v14_3, _, rfl, ⟨wa3, wb3, ka3, kab3, kb3, hg3, hf3⟩, v14_4, _, rfl, ⟨wa4, wb4, ka4, kab4, kb4, hg4, hf4⟩, v14_5, _, rfl, ⟨wa5, wb5, ka5, kab5, kb5, hg5, hf5⟩, v14_8, _, rfl, ⟨wa8, wb8, ka8, kab8, kb8, hg8, hf8⟩, rfl⟩
    obtain rfl : v14_5 = .agg (dgR (rootD tagD [[97], [98]])).toArray := hf5
    have hS : (fun w' => KeepM w12.heap.size w12 w') w36 := (pre_m _).trans hS hk36
    refine any_one 9 (by kernel_rfl) (one_of rfl ?_)
    refine op_call rfl rfl rfl (rf_Tagged w36 _ 1 [(tagD 0 [[97]]).val, (tagD 0 [[98]]).val] (rowsB_km hf8 kb8) (tag_dd _ _ _)) ?_; rintro v38 w38 ⟨rfl, hk38⟩
    refine ops_nil ⟨(pre_m _).trans hS (KeepM.of hk38), fun hS => ?_⟩
    refine any_run 10 (fun w' hS' => (r_eqlC (p := True) rfl rfl rfl rfl (by kernel_rfl) (okC_dgR _) (okC_dgR (tagD 1 [(tagD 0 [[97]]).val, (tagD 0 [[98]]).val])) rfl (by rw [root_ab]; exact ⟨fun _ => trivial, fun _ => rfl⟩))) rfl (by kernel_rfl) (by kernel_rfl) (by kernel_rfl) rfl hS ?_
    refine any_ast 11 rfl (by kernel_rfl) (by kernel_rfl) (by kernel_rfl) rfl hS ?_
    refine any_done (by kernel_rfl) ?_
    refine W_ret ?_
    refine ret1 (.bool true) rfl ?_ ?_; rfl
    exact ⟨rfl, hkC.trans hS.all⟩
end Go.Proofs.Ytnjepmdgbkhoaaa.B
