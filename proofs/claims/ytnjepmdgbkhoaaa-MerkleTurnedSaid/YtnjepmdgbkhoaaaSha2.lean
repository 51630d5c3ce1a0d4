/-
  sha: the walk of a block.
-/
import Derived.Test.YtnjepmdgbkhoaaaSha1
namespace Go.Proofs.Ytnjepmdgbkhoaaa.B
open Go
set_option linter.unusedVariables false
set_option maxHeartbeats 2000000
set_option maxRecDepth 100000
attribute [local irreducible] W OpsW OpsQ retP
theorem ti_u32 : tinfo Try.prog 57 = some (some (.int .u32 0), 1, 4) := by kernel_rfl
theorem sh_rotQ {C : World → Prop} {w : World} (x : Wd) (n : Nat) (h1 : 1 ≤ n) (h2 : n ≤ 31) (hC : C w) :
    Ret Try.prog 49 [c32 x, .int .i64 n].toArray w fun u w' => u = c32 (rotr x n) ∧ C w' :=
  (sh_rot w x n h1 h2).mono fun e w' ⟨u, he, h, hw⟩ => ⟨u, he, h, hw ▸ hC⟩
theorem subSl_lit {b off l n c : Nat} (hc : c ≠ l) : subSl (some ⟨b, off, none⟩) 1 l (l + n) c = .slice (some ⟨b, off + l, none⟩) n (c - l) := by
  unfold subSl
  rw [if_neg hc, Option.map_some, Addr.add_lit]
  simp
theorem ldW_snoc (l : List UInt8) (c : UInt8) : ldW (l ++ [c]) = ldW l <<< 8 ||| wd8 c := by unfold ldW; rw [List.foldl_append]; rfl
/-- What stands in the words while they are loaded. -/
def ldF (bs : List UInt8) (i j n : Nat) : Wd := if n < i then ldW (ldB bs n) else if n = i then ldW ((ldB bs i).take j) else 0
theorem ldF_next {bs : List UInt8} (hb : bs.length = 64) {i : Nat} (hi : i < 16) : wl 16 (ldF bs i 4) = wl 16 (ldF bs (i + 1) 0) := wl_congr fun n hn => by
  unfold ldF
  by_cases h1 : n < i
  · rw [if_pos h1, if_pos (by omega)]
  · rw [if_neg h1]
    by_cases h2 : n = i
    · subst h2
      rw [if_pos rfl, if_pos (by omega), List.take_of_length_le (by rw [ldB_len hb hi]; exact Nat.le_refl _)]
    · rw [if_neg h2, if_neg (by omega)]
      split <;> rfl
theorem ldF_full (bs : List UInt8) : wl 16 (ldF bs 16 0) = load16 bs := List.map_congr_left fun n hn => by
  unfold ldF; rw [if_pos (List.mem_range.1 hn)]
theorem ldF_zero (bs : List UInt8) : (wl 16 (ldF bs 0 0)).map c32 = List.replicate 16 (.int .u32 0) := rfl

theorem sh_block (w : World) (s : V8) (v : Value) (bs : List UInt8) (kb : Nat) (ks : List Wd) (hv : By w v bs) (hb : bs.length = 64) (hK : Blk w kb (ks.map c32) 61) (hkl : ks.length = 64) :
    Ret Try.prog 42 [.agg s.cells.toArray, v, .pointer (some ⟨kb, 0, none⟩)].toArray w fun r w' => r = .agg (blockF ks s bs).cells.toArray ∧ Keep All w w' := by
  obtain ⟨b0, off0, c0, rfl, hc0, hcm0, hcell⟩ := hv.at (by omega)
  refine enter (fn := Try.f42) (n := 177) Try.func42 rfl rfl (by simp) ?_
  refine W_seq ?_
  refine W_region ?_
  refine o_box (cs := s.cells) rfl rfl rfl ?_; intro w1 b1 e1 hB1 hk1 hs1
  refine o_alloc rfl rfl rfl ?_; intro w2 b2 e2 hB2 hk2 hs2
  refine ops_nil ?_
  refine W_seq ?_
  refine W_region ?_
  refine o_alloc rfl rfl rfl ?_; intro w3 b3 e3 hB3 hk3 hs3
  have hB3 : Blk w3 b3 ((wl 16 (ldF bs 0 0)).map c32) 77 := by rw [ldF_zero]; exact hB3
  have hk03 : Keep All w w3 := (hk1.trans hk2).trans hk3
  refine ops_nil ?_
  refine W_seq ?_
  refine W_seq ?_
  refine W_region ?_
  refine o_mvc rfl ?_
  refine ops_nil ?_
  refine W_block ?_
  refine W_loop [19] [8, 10, 19, 20, 21, 22, 23, 24, 25, 26, 27, 28, 29, 30, 31, 32, 33, 34, 35, 36, 37, 38, 39, 40, 41, 42, 43, 44] (fun vs w' => ∃ i : Nat, vs = [.int .i64 i] ∧ i ≤ 16 ∧ Blk w' b3 ((wl 16 (ldF bs i 0)).map c32) 77 ∧ Keep (· ≠ b3) w3 w' ∧ w'.heap.size = w3.heap.size) (fun vs _ => match vs with | [.int _ i] => 16 - i.toNat | _ => 0) ⟨0, rfl, by omega, hB3, Keep.refl _, rfl⟩ ?_
  rintro J vs w4 ⟨i, rfl, hi, hB4, hk4, hs4⟩ -
  refine W_seq ?_
  refine W_region ?_
  refine op_run (r_lss rfl rfl) rfl ?_
  refine ops_nil ?_
  refine W_seq ?_
  refine W_cond_p rfl (fun h5 => ?_) (fun h5 => ?_)
  · refine W_skip ?_
    refine W_seq ?_
    refine W_block ?_
    refine W_seq ?_
    refine W_region ?_
    refine o_mvt rfl ?_
    refine o_ast rfl ?_
    refine ops_nil ?_
    refine W_seq ?_
    refine W_region ?_
    refine o_mvt rfl ?_
    refine o_mvt rfl ?_
    refine op_run ((r_mul rfl rfl).val (congrArg (Value.int .i64) (show IntKind.i64.wrap (4 * (i : Int)) = ((4 * i : Nat) : Int) from (wrap_i64 (by omega) (by omega)).trans (by omega)))) rfl ?_
    refine o_mvt rfl ?_
    refine op_run ((r_add rfl rfl).val (congrArg (Value.int .i64) (inc64' i (by omega)))) rfl ?_
    refine op_run ((r_mul rfl rfl).val (congrArg (Value.int .i64) (show IntKind.i64.wrap (4 * ((i + 1 : Nat) : Int)) = ((4 * i + 4 : Nat) : Int) from (wrap_i64 (by omega) (by omega)).trans (by omega)))) rfl ?_
    have hi16 : i < 16 := by omega
    have hinci := inc64' i (by omega)
    refine op_run ((r_sliceS_lohi rfl rfl rfl rfl rfl (by omega) (by omega) (by omega)).val (subSl_lit (by omega))) rfl ?_
    refine op_run (r_len rfl rfl rfl) rfl ?_
    refine o_mvc rfl ?_
    refine ops_nil ?_
    refine W_block ?_
    refine W_loop [30] [10, 30, 31, 32, 33, 34, 35, 36, 37, 38, 39, 40, 41, 42, 43] (fun vs w' => ∃ j : Nat, vs = [.int .i64 j] ∧ j ≤ 4 ∧ Blk w' b3 ((wl 16 (ldF bs i j)).map c32) 77 ∧ Keep (· ≠ b3) w3 w' ∧ w'.heap.size = w3.heap.size) (fun vs _ => match vs with | [.int _ j] => 4 - j.toNat | _ => 0) ⟨0, rfl, by omega, hB4, hk4, hs4⟩ ?_
    rintro J7 vs w7 ⟨j, rfl, hj, hB7, hk7, hs7⟩ -
    refine W_seq ?_
    refine W_region ?_
    refine op_run (r_lss rfl rfl) rfl ?_
    refine ops_nil ?_
    refine W_seq ?_
    refine W_cond_p rfl (fun h8 => ?_) (fun h8 => ?_)
    · refine W_skip ?_
      refine W_seq ?_
      refine W_block ?_
      refine W_seq ?_
      refine W_region ?_
      have hj4 : j < 4 := by omega
      have hincj := inc64' j (by omega)
      have hij := ldB_get hb hi16 hj4
      have hlen := ldB_len hb hi16
      have hcij := hcell (4 * i + j) (c8 bs[4 * i + j]) (get_c8 hij.1)
      have hb0lt : b0 < w.heap.size := World.block_lt_of_cell? w _ hcij
      have hcij7 := hk7.cell (hk03.cell hcij trivial) (show b0 ≠ b3 by have := (hk1.trans hk2).size; omega)
      have hadr : off0 + 4 * i + (j : Int).toNat = off0 + (4 * i + j) := by rw [Int.toNat_natCast]; omega
      refine op_run (r_idxS1 rfl rfl rfl rfl (by omega) (by omega)) rfl ?_
      refine op_run (r_load rfl rfl rfl (by rw [Int.toNat_natCast (4 * i), hadr]; exact hcij7)) rfl ?_
      refine o_ast rfl ?_
      refine ops_nil ?_
      refine W_region ?_
      refine o_mvt rfl ?_
      refine o_mvt rfl ?_
      refine op_run (r_idxA1 rfl rfl rfl rfl (by omega) (by omega)) rfl ?_
      refine op_run (r_load rfl rfl rfl (hB7.cell (by rw [Int.toNat_natCast, Nat.zero_add]; exact get32 (by rw [wl_len]; exact hi16)))) rfl ?_
      refine op_run (r_shlW 8 rfl rfl) rfl ?_
      refine o_mvt rfl ?_
      refine op_run (r_convW8 rfl rfl rfl) rfl ?_
      refine op_run (r_orW rfl rfl) rfl ?_
      refine op_run (r_idxA1 rfl rfl rfl rfl (by omega) (by omega)) rfl ?_
      refine o_store (v := c32 ((wl 16 (ldF bs i j)).getD i 0 <<< 8 ||| wd8 bs[4 * i + j])) rfl rfl rfl rfl hB7 (by rw [List.length_map, wl_len]; omega) rfl ?_; intro w14 hB14 hk14 hs14
      refine ops_nil ?_
      refine W_region ?_
      refine op_run (r_add rfl rfl) rfl ?_
      refine o_mvt rfl ?_
      refine ops_nil ?_
      have e : wl 16 (fun n => if n = i then ((wl 16 (ldF bs i j)).getD i 0 <<< 8 ||| wd8 bs[4 * i + j]) else ldF bs i j n) = wl 16 (ldF bs i (j + 1)) := wl_congr fun n hn => by
        by_cases hni : n = i
        · subst hni
          rw [if_pos rfl, wl_get hi16]
          unfold ldF
          rw [if_neg (Nat.lt_irrefl n), if_pos rfl, if_neg (Nat.lt_irrefl n), if_pos rfl, List.take_succ_eq_append_getElem (by omega), ldW_snoc]
          have h := hij.2
          rw [List.getElem?_eq_getElem (by omega), List.getElem?_eq_getElem hij.1] at h
          injection h with h
          rw [h]
        · rw [if_neg hni]; unfold ldF
          by_cases h1 : n < i
          · rw [if_pos h1, if_pos h1]
          · rw [if_neg h1, if_neg h1, if_neg hni, if_neg hni]
      rw [Int.toNat_natCast, Nat.zero_add, map_set32, wl_set, e] at hB14
      refine ⟨by (repeat (first | with_reducible exact offM_refl _ _ | refine offM_updc rfl ?_ | refine offM_upd rfl ?_ | refine offM_updo rfl ?_ | refine offM_updo_none ?_ | refine offM_head rfl rfl ?_)), ⟨j + 1, ?_, by omega, hB14, hk7.trans hk14, by omega⟩, ?_⟩
      · rw [← hincj]; rfl
      · show 4 - (IntKind.i64.wrap ((j : Int) + 1)).toNat < 4 - (j : Int).toNat
        rw [hincj]; omega
    · refine W_exit ?_
      refine W_region ?_
      refine op_run (r_add rfl rfl) rfl ?_
      refine o_mvt rfl ?_
      refine ops_nil ?_
      have e : j = 4 := by omega
      subst e
      rw [ldF_next hb hi16] at hB7
      refine ⟨by (repeat (first | with_reducible exact offM_refl _ _ | refine offM_updc rfl ?_ | refine offM_upd rfl ?_ | refine offM_updo rfl ?_ | refine offM_updo_none ?_ | refine offM_head rfl rfl ?_)), ⟨i + 1, ?_, by omega, hB7, hk7, hs7⟩, ?_⟩
      · rw [← hinci]; rfl
      · show 16 - (IntKind.i64.wrap ((i : Int) + 1)).toNat < 16 - (i : Int).toNat
        rw [hinci]; omega
  · refine W_exit ?_
    refine W_seq ?_
    refine W_region ?_
    have e : i = 16 := by omega
    subst e
    rw [ldF_full] at hB4
    have hB1' := hk4.blk' (hk3.blk' (hk2.blk' hB1 trivial) trivial) (show b1 ≠ b3 by have := hB1.lt; have := hk2.size; omega)
    refine op_run (r_loadA s.cells rfl rfl rfl rfl hB1'.all) rfl ?_
    refine o_alloc rfl rfl rfl ?_; intro w18 b18 e18 hB18 hk18 hs18
    refine o_storeA (cs := s.cells) rfl rfl rfl rfl hB18 (Nat.le_refl _) rfl ?_; intro w19 hB19 hk19 hs19
    have hV19 : Blk w19 b18 s.cells 60 := hB19
    have hlt1 := hB1'.lt
    have hlt3 := hB4.lt
    have hW19 := hk19.blk' (hk18.blk' hB4 trivial) (show b3 ≠ b18 by omega)
    have hS19 := hk19.blk' (hk18.blk' hB1' trivial) (show b1 ≠ b18 by omega)
    have hkl19 : Keep All w w19 := ((hk03.new hk4 (by have := (hk1.trans hk2).size; omega)).trans hk18).new hk19 (by have := hk03.size; omega)
    have hK19 := hkl19.blk' hK trivial
    have hltK := hK.lt
    have hw3 := hk03.size
    have hltw1 := hk1.size
    have hltw2 := hk2.size
    have hwl0 : (load16 bs).length = 16 := by rw [← ldF_full, wl_len]
    refine ops_nil ?_
    refine W_seq ?_
    refine W_seq ?_
    refine W_region ?_
    refine o_mvc rfl ?_
    refine ops_nil ?_
    refine W_block ?_
    refine W_loop [46] [12, 13, 14, 15, 16, 17, 46, 47, 48, 49, 50, 51, 52, 53, 54, 55, 56, 57, 58, 59, 60, 61, 62, 63, 64, 65, 66, 67, 68, 69, 70, 71, 72, 73, 74, 75, 76, 77, 78, 79, 80, 81, 82, 83, 84, 85, 86, 87, 88, 89, 90, 91, 92, 93, 94, 95, 96, 97, 98, 99, 100, 101, 102, 103, 104, 105, 106, 107, 108, 109, 110, 111, 112, 113, 114, 115, 116, 117, 118, 119, 120, 121, 122, 123, 124, 125, 126, 127, 128, 129, 130, 131, 132, 133, 134, 135, 136, 137, 138, 139, 140, 141, 142, 143, 144, 145, 146, 147, 148, 149, 150, 151, 152, 153, 154, 155, 156, 157, 158, 159, 160, 161, 162, 163] (fun vs w' => ∃ t : Nat, vs = [.int .i64 t] ∧ t ≤ 64 ∧ Blk w' b18 (rounds ks (s, load16 bs) t).1.cells 60 ∧ Blk w' b3 ((rounds ks (s, load16 bs) t).2.map c32) 77 ∧ Keep (fun k => k ≠ b18 ∧ k ≠ b3) w19 w') (fun vs _ => match vs with | [.int _ t] => 64 - t.toNat | _ => 0) ⟨0, rfl, by omega, hV19, hW19, Keep.refl _⟩ ?_
    rintro J20 vs w20 ⟨t, rfl, ht, hV20, hW20, hk20⟩ -
    refine W_seq ?_
    refine W_region ?_
    refine op_run (r_lss rfl rfl) rfl ?_
    refine ops_nil ?_
    refine W_seq ?_
    refine W_cond_p rfl (fun h21 => ?_) (fun h21 => ?_)
    · refine W_skip ?_
      refine W_seq ?_
      refine W_block ?_
      refine W_seq ?_
      refine W_region ?_
      refine o_mvt rfl ?_
      refine o_ast rfl ?_
      refine ops_nil ?_
      refine W_seq ?_
      have ht64 : t < 64 := by omega
      have hinct := inc64' t (by omega)
      have hwl := rounds_len ks (s, load16 bs) t
      have hstep : rounds ks (s, load16 bs) (t + 1) = stepR ks (rounds ks (s, load16 bs) t) t := rfl
      generalize rounds ks (s, load16 bs) t = st at hV20 hW20 hwl hstep
      obtain ⟨v, ws⟩ := st
      have hwl : ws.length = 16 := hwl.trans hwl0
      have hV20 : Blk w20 b18 v.cells 60 := hV20
      have hW20 : Blk w20 b3 (ws.map c32) 77 := hW20
      have hK20 := hk20.blk' hK19 (show kb ≠ b18 ∧ kb ≠ b3 by omega)
      refine W_quiet (Keep All w20) (by kernel_rfl) (by kernel_rfl) (Keep.drawn _) ?_
      refine q_mvt rfl ?_
      refine q_run (fun _ _ => ((r_add rfl rfl).val (congrArg (Value.int .i64) (show IntKind.i64.wrap ((t : Int) + 1) = ((t + 1 : Nat) : Int) from inc64' t (by omega))))) rfl ?_
      refine q_run (fun _ _ => ((r_rem rfl rfl (by decide)).val (congrArg (Value.int .i64) (show ((t + 1 : Nat) : Int).tmod 16 = (((t + 1) % 16 : Nat) : Int) from (Int.ofNat_tmod (t + 1) 16).symm)))) rfl ?_
      refine q_run (fun _ _ => r_idxA1 rfl rfl rfl rfl (by omega) (by omega)) rfl ?_
      refine q_run (fun _ hk => r_load rfl rfl rfl (hk.cell (hW20.cell (by rw [Int.toNat_natCast, Nat.zero_add]; exact get32 (by rw [hwl]; omega))) trivial)) rfl ?_
      refine q_mvt rfl ?_
      refine q_run (fun _ _ => ((r_add rfl rfl).val (congrArg (Value.int .i64) (show IntKind.i64.wrap ((t : Int) + 14) = ((t + 14 : Nat) : Int) from (wrap_i64 (by omega) (by omega)).trans (by omega))))) rfl ?_
      refine q_run (fun _ _ => ((r_rem rfl rfl (by decide)).val (congrArg (Value.int .i64) (show ((t + 14 : Nat) : Int).tmod 16 = (((t + 14) % 16 : Nat) : Int) from (Int.ofNat_tmod (t + 14) 16).symm)))) rfl ?_
      refine q_run (fun _ _ => r_idxA1 rfl rfl rfl rfl (by omega) (by omega)) rfl ?_
      refine q_run (fun _ hk => r_load rfl rfl rfl (hk.cell (hW20.cell (by rw [Int.toNat_natCast, Nat.zero_add]; exact get32 (by rw [hwl]; omega))) trivial)) rfl ?_
      refine q_ast rfl ?_
      refine q_ast rfl ?_
      refine q_nil ?_; intro w27 hk27
      have hW27 := hk27.blk' hW20 trivial
      have hV27 := hk27.blk' hV20 trivial
      have hK27 := hk27.blk' hK20 trivial
      refine W_seq ?_
      refine W_region ?_
      refine o_mvt rfl ?_
      refine op_run ((r_rem rfl rfl (by decide)).val (congrArg (Value.int .i64) (show ((t : Nat) : Int).tmod 16 = ((t % 16 : Nat) : Int) from (Int.ofNat_tmod t 16).symm))) rfl ?_
      refine op_run (r_idxA1 rfl rfl rfl rfl (by omega) (by omega)) rfl ?_
      refine op_run (r_load rfl rfl rfl (hW27.cell (by rw [Int.toNat_natCast, Nat.zero_add]; exact get32 (by rw [hwl]; omega)))) rfl ?_
      refine o_ast rfl ?_
      refine ops_nil ?_
      refine W_seq ?_
      refine W_quiet (Keep All w27) (by kernel_rfl) (by kernel_rfl) (Keep.drawn _) ?_
      refine q_run (fun _ _ => r_idxA1 rfl rfl rfl rfl (by omega) (by omega)) rfl ?_
      refine q_run (fun _ hk => r_load rfl rfl rfl (hk.cell (hV27.cell rfl) trivial)) rfl ?_
      refine q_run (fun _ _ => r_idxA1 rfl rfl rfl rfl (by omega) (by omega)) rfl ?_
      refine q_run (fun _ hk => r_load rfl rfl rfl (hk.cell (hV27.cell rfl) trivial)) rfl ?_
      refine q_call rfl rfl rfl (fun _ hk => sh_rotQ v.e 6 (by decide) (by decide) hk) ?_
      refine q_run (fun _ _ => r_idxA1 rfl rfl rfl rfl (by omega) (by omega)) rfl ?_
      refine q_run (fun _ hk => r_load rfl rfl rfl (hk.cell (hV27.cell rfl) trivial)) rfl ?_
      refine q_call rfl rfl rfl (fun _ hk => sh_rotQ v.e 11 (by decide) (by decide) hk) ?_
      refine q_run (fun _ _ => (r_xorW rfl rfl)) rfl ?_
      refine q_run (fun _ _ => r_idxA1 rfl rfl rfl rfl (by omega) (by omega)) rfl ?_
      refine q_run (fun _ hk => r_load rfl rfl rfl (hk.cell (hV27.cell rfl) trivial)) rfl ?_
      refine q_call rfl rfl rfl (fun _ hk => sh_rotQ v.e 25 (by decide) (by decide) hk) ?_
      refine q_run (fun _ _ => (r_xorW rfl rfl)) rfl ?_
      refine q_run (fun _ _ => (r_addW rfl rfl)) rfl ?_
      refine q_run (fun _ _ => r_idxA1 rfl rfl rfl rfl (by omega) (by omega)) rfl ?_
      refine q_run (fun _ hk => r_load rfl rfl rfl (hk.cell (hV27.cell rfl) trivial)) rfl ?_
      refine q_run (fun _ _ => r_idxA1 rfl rfl rfl rfl (by omega) (by omega)) rfl ?_
      refine q_run (fun _ hk => r_load rfl rfl rfl (hk.cell (hV27.cell rfl) trivial)) rfl ?_
      refine q_run (fun _ _ => r_idxA1 rfl rfl rfl rfl (by omega) (by omega)) rfl ?_
      refine q_run (fun _ hk => r_load rfl rfl rfl (hk.cell (hV27.cell rfl) trivial)) rfl ?_
      refine q_run (fun _ _ => r_idxA1 rfl rfl rfl rfl (by omega) (by omega)) rfl ?_
      refine q_run (fun _ hk => r_load rfl rfl rfl (hk.cell (hV27.cell rfl) trivial)) rfl ?_
      refine q_run (fun _ _ => (r_xorW rfl rfl)) rfl ?_
      refine q_run (fun _ _ => (r_andW rfl rfl)) rfl ?_
      refine q_run (fun _ _ => (r_xorW rfl rfl)) rfl ?_
      refine q_run (fun _ _ => (r_addW rfl rfl)) rfl ?_
      refine q_mvt rfl ?_
      refine q_mvt rfl ?_
      refine q_run (fun _ _ => (r_nilCheck rfl)) rfl ?_
      refine q_run (fun _ _ => r_idxA1 rfl rfl rfl rfl (by omega) (by omega)) rfl ?_
      refine q_run (fun _ hk => r_load rfl rfl rfl (hk.cell (hK27.cell (by rw [Int.toNat_natCast, Nat.zero_add]; exact get32 (by rw [hkl]; omega))) trivial)) rfl ?_
      refine q_run (fun _ _ => (r_addW rfl rfl)) rfl ?_
      refine q_mvt rfl ?_
      refine q_run (fun _ _ => (r_addW rfl rfl)) rfl ?_
      refine q_ast rfl ?_
      refine q_nil ?_; intro w52 hk52
      have hW52 := hk52.blk' hW27 trivial
      have hV52 := hk52.blk' hV27 trivial
      refine W_seq ?_
      refine W_quiet (Keep All w52) (by kernel_rfl) (by kernel_rfl) (Keep.drawn _) ?_
      refine q_run (fun _ _ => r_idxA1 rfl rfl rfl rfl (by omega) (by omega)) rfl ?_
      refine q_run (fun _ hk => r_load rfl rfl rfl (hk.cell (hV52.cell rfl) trivial)) rfl ?_
      refine q_call rfl rfl rfl (fun _ hk => sh_rotQ v.a 2 (by decide) (by decide) hk) ?_
      refine q_run (fun _ _ => r_idxA1 rfl rfl rfl rfl (by omega) (by omega)) rfl ?_
      refine q_run (fun _ hk => r_load rfl rfl rfl (hk.cell (hV52.cell rfl) trivial)) rfl ?_
      refine q_call rfl rfl rfl (fun _ hk => sh_rotQ v.a 13 (by decide) (by decide) hk) ?_
      refine q_run (fun _ _ => (r_xorW rfl rfl)) rfl ?_
      refine q_run (fun _ _ => r_idxA1 rfl rfl rfl rfl (by omega) (by omega)) rfl ?_
      refine q_run (fun _ hk => r_load rfl rfl rfl (hk.cell (hV52.cell rfl) trivial)) rfl ?_
      refine q_call rfl rfl rfl (fun _ hk => sh_rotQ v.a 22 (by decide) (by decide) hk) ?_
      refine q_run (fun _ _ => (r_xorW rfl rfl)) rfl ?_
      refine q_run (fun _ _ => r_idxA1 rfl rfl rfl rfl (by omega) (by omega)) rfl ?_
      refine q_run (fun _ hk => r_load rfl rfl rfl (hk.cell (hV52.cell rfl) trivial)) rfl ?_
      refine q_run (fun _ _ => r_idxA1 rfl rfl rfl rfl (by omega) (by omega)) rfl ?_
      refine q_run (fun _ hk => r_load rfl rfl rfl (hk.cell (hV52.cell rfl) trivial)) rfl ?_
      refine q_run (fun _ _ => r_idxA1 rfl rfl rfl rfl (by omega) (by omega)) rfl ?_
      refine q_run (fun _ hk => r_load rfl rfl rfl (hk.cell (hV52.cell rfl) trivial)) rfl ?_
      refine q_run (fun _ _ => (r_orW rfl rfl)) rfl ?_
      refine q_run (fun _ _ => (r_andW rfl rfl)) rfl ?_
      refine q_run (fun _ _ => r_idxA1 rfl rfl rfl rfl (by omega) (by omega)) rfl ?_
      refine q_run (fun _ hk => r_load rfl rfl rfl (hk.cell (hV52.cell rfl) trivial)) rfl ?_
      refine q_run (fun _ _ => r_idxA1 rfl rfl rfl rfl (by omega) (by omega)) rfl ?_
      refine q_run (fun _ hk => r_load rfl rfl rfl (hk.cell (hV52.cell rfl) trivial)) rfl ?_
      refine q_run (fun _ _ => (r_andW rfl rfl)) rfl ?_
      refine q_run (fun _ _ => (r_orW rfl rfl)) rfl ?_
      refine q_run (fun _ _ => (r_addW rfl rfl)) rfl ?_
      refine q_ast rfl ?_
      refine q_nil ?_; intro w73 hk73
      have hW73 := hk73.blk' hW52 trivial
      have hV73 := hk73.blk' hV52 trivial
      refine W_seq ?_
      refine W_tail 2 (by kernel_rfl) (by kernel_rfl) ?_; intro w74 hk74 hs74
      have hW74 := hk74.blk' hW73 trivial
      have hV74 := hk74.blk' hV73 trivial
      refine q_run (still1 (r_sliceA_lo rfl rfl rfl ti_u32 (by omega) (by omega))) rfl ?_
      refine q_run (still1 (r_sliceA_hi rfl rfl rfl ti_u32 (by omega) (by omega))) rfl ?_
      refine q_nil ?_
      have hsl74 : Sl w74 (.slice (some ⟨b18, 0, none⟩) 7 8) 7 1 [c32 v.a, c32 v.b, c32 v.c, c32 v.d, c32 v.e, c32 v.f, c32 v.g] := by
        refine ⟨_, 8, rfl, by omega, by unfold maxLen; omega, rfl, (fun e => by cases e), fun x hx i u hu => ?_⟩
        injection hx with hx; subst hx
        refine ⟨rfl, hV74.cell ?_⟩
        have hi7 : i < 7 := (List.getElem?_eq_some_iff.1 hu).1
        show (V8.cells v)[0 + i]? = some u
        rw [Nat.zero_add, ← hu]
        have e : V8.cells v = [c32 v.a, c32 v.b, c32 v.c, c32 v.d, c32 v.e, c32 v.f, c32 v.g] ++ [c32 v.h] := rfl
        rw [e, List.getElem?_append_left hi7]
      refine o_copy (cs := [c32 v.a, c32 v.b, c32 v.c, c32 v.d, c32 v.e, c32 v.f, c32 v.g]) rfl rfl hsl74 rfl ti_u32 hV74 (by exact Nat.le_refl _) rfl rfl ?_; intro w77 hB77 hk77 hs77
      have hV77 : Blk w77 b18 [c32 v.a, c32 v.a, c32 v.b, c32 v.c, c32 v.d, c32 v.e, c32 v.f, c32 v.g] 60 := hB77
      have hW77 := hk77.blk' hW74 (show b3 ≠ b18 by omega)
      refine ops_nil ?_
      refine W_seq ?_
      refine W_region ?_
      refine op_run (r_idxA1 rfl rfl rfl rfl (by omega) (by omega)) rfl ?_
      refine op_run (r_load rfl rfl rfl (hV77.cell rfl)) rfl ?_
      refine o_mvt rfl ?_
      refine op_run (r_addW rfl rfl) rfl ?_
      refine op_run (r_idxA1 rfl rfl rfl rfl (by omega) (by omega)) rfl ?_
      refine o_store (v := (c32 (v.d + one32 v (ks.getD t 0) (ws.getD (t % 16) 0)))) rfl rfl rfl rfl hV77 (by exact Nat.lt_of_sub_eq_succ rfl) rfl ?_; intro w81 hB81 hk81 hs81
      refine ops_nil ?_
      refine W_seq ?_
      refine W_region ?_
      refine o_mvt rfl ?_
      refine o_mvt rfl ?_
      refine op_run (r_addW rfl rfl) rfl ?_
      refine op_run (r_idxA1 rfl rfl rfl rfl (by omega) (by omega)) rfl ?_
      refine o_store (v := (c32 (one32 v (ks.getD t 0) (ws.getD (t % 16) 0) + two32 v))) rfl rfl rfl rfl hB81 (by exact Nat.lt_of_sub_eq_succ rfl) rfl ?_; intro w83 hB83 hk83 hs83
      have hV83 : Blk w83 b18 (nextV v (ks.getD t 0) (ws.getD (t % 16) 0)).cells 60 := hB83
      have hW83 := hk83.blk' (hk81.blk' hW77 (show b3 ≠ b18 by omega)) (show b3 ≠ b18 by omega)
      refine ops_nil ?_
      refine W_tail 27 (by kernel_rfl) (by kernel_rfl) ?_; intro w84 hk84 hs84
      have hW84 := hk84.blk' hW83 trivial
      have hV84 := hk84.blk' hV83 trivial
      refine q_mvt rfl ?_
      refine q_run (still1 ((r_rem rfl rfl (by decide)).val (congrArg (Value.int .i64) (show ((t : Nat) : Int).tmod 16 = ((t % 16 : Nat) : Int) from (Int.ofNat_tmod t 16).symm)))) rfl ?_
      refine q_mvt rfl ?_
      refine q_mvt rfl ?_
      refine q_call rfl rfl rfl (fun _ hk => sh_rotQ (ws.getD ((t + 1) % 16) 0) 7 (by decide) (by decide) hk) ?_
      refine q_mvt rfl ?_
      refine q_call rfl rfl rfl (fun _ hk => sh_rotQ (ws.getD ((t + 1) % 16) 0) 18 (by decide) (by decide) hk) ?_
      refine q_run (still1 (r_xorW rfl rfl)) rfl ?_
      refine q_mvt rfl ?_
      refine q_run (still1 (r_shrW 3 rfl rfl)) rfl ?_
      refine q_run (still1 (r_xorW rfl rfl)) rfl ?_
      refine q_run (still1 (r_addW rfl rfl)) rfl ?_
      refine q_mvt rfl ?_
      refine q_run (still1 ((r_add rfl rfl).val (congrArg (Value.int .i64) (show IntKind.i64.wrap ((t : Int) + 9) = ((t + 9 : Nat) : Int) from (wrap_i64 (by omega) (by omega)).trans (by omega))))) rfl ?_
      refine q_run (still1 ((r_rem rfl rfl (by decide)).val (congrArg (Value.int .i64) (show ((t + 9 : Nat) : Int).tmod 16 = (((t + 9) % 16 : Nat) : Int) from (Int.ofNat_tmod (t + 9) 16).symm)))) rfl ?_
      refine q_run (still1 (r_idxA1 rfl rfl rfl rfl (by omega) (by omega))) rfl ?_
      refine q_run (still1 (r_load rfl rfl rfl (hW84.cell (by rw [Int.toNat_natCast, Nat.zero_add]; exact get32 (by rw [hwl]; omega))))) rfl ?_
      refine q_run (still1 (r_addW rfl rfl)) rfl ?_
      refine q_mvt rfl ?_
      refine q_call rfl rfl rfl (fun _ hk => sh_rotQ (ws.getD ((t + 14) % 16) 0) 17 (by decide) (by decide) hk) ?_
      refine q_mvt rfl ?_
      refine q_call rfl rfl rfl (fun _ hk => sh_rotQ (ws.getD ((t + 14) % 16) 0) 19 (by decide) (by decide) hk) ?_
      refine q_run (still1 (r_xorW rfl rfl)) rfl ?_
      refine q_mvt rfl ?_
      refine q_run (still1 (r_shrW 10 rfl rfl)) rfl ?_
      refine q_run (still1 (r_xorW rfl rfl)) rfl ?_
      refine q_run (still1 (r_addW rfl rfl)) rfl ?_
      refine q_nil ?_
      refine op_run (r_idxA1 rfl rfl rfl rfl (by omega) (by omega)) rfl ?_
      refine o_store (v := c32 (nextW ws t)) rfl rfl rfl rfl hW84 (by rw [List.length_map, hwl]; omega) rfl ?_; intro w92 hB92 hk92 hs92
      refine ops_nil ?_
      refine W_region ?_
      refine op_run (r_add rfl rfl) rfl ?_
      refine o_mvt rfl ?_
      refine ops_nil ?_
      rw [Int.toNat_natCast, Nat.zero_add, map_set32] at hB92
      have hk2092 : Keep (fun k => k ≠ b18 ∧ k ≠ b3) w20 w92 := ((((((((hk27.all.trans hk52.all).trans hk73.all).trans hk74.all).trans (hk77.mono fun k _ h => h.1)).trans (hk81.mono fun k _ h => h.1)).trans (hk83.mono fun k _ h => h.1)).trans hk84.all).trans (hk92.mono fun k _ h => h.2))
      refine ⟨by (repeat (first | with_reducible exact offM_refl _ _ | refine offM_updc rfl ?_ | refine offM_upd rfl ?_ | refine offM_updo rfl ?_ | refine offM_updo_none ?_ | refine offM_head rfl rfl ?_)), ⟨t + 1, ?_, by omega, ?_, ?_, hk20.trans hk2092⟩, ?_⟩
      · rw [← hinct]; rfl
      · rw [hstep]; exact hk92.blk' hV84 (show b18 ≠ b3 by omega)
      · rw [hstep]; exact hB92
      · show 64 - (IntKind.i64.wrap ((t : Int) + 1)).toNat < 64 - (t : Int).toNat
        rw [hinct]; omega
    · refine W_exit ?_
      refine W_seq ?_
      refine W_seq ?_
      refine W_region ?_
      refine o_mvc rfl ?_
      refine ops_nil ?_
      refine W_block ?_
      have e : t = 64 := by omega
      subst e
      have hS20 := hk20.blk' hS19 (show b1 ≠ b18 ∧ b1 ≠ b3 by omega)
      obtain ⟨vf, hvf⟩ : ∃ vf, (rounds ks (s, load16 bs) 64).1 = vf := ⟨_, rfl⟩
      rw [hvf] at hV20
      refine W_loop [164] [18, 164, 165, 166, 167, 168, 169, 170, 171, 172, 173, 174, 175] (fun vs w' => ∃ i : Nat, vs = [.int .i64 i] ∧ i ≤ 8 ∧ Blk w' b1 ((wl 8 (fun j => if j < i then s.ws.getD j 0 + vf.ws.getD j 0 else s.ws.getD j 0)).map c32) 60 ∧ Keep (· ≠ b1) w20 w') (fun vs _ => match vs with | [.int _ i] => 8 - i.toNat | _ => 0) ⟨0, rfl, by omega, hS20, Keep.refl _⟩ ?_
      rintro J94 vs w94 ⟨i, rfl, hi, hS94, hk94⟩ -
      refine W_seq ?_
      refine W_region ?_
      refine op_run (r_lss rfl rfl) rfl ?_
      refine ops_nil ?_
      refine W_seq ?_
      refine W_cond_p rfl (fun h95 => ?_) (fun h95 => ?_)
      · refine W_skip ?_
        refine W_seq ?_
        refine W_block ?_
        refine W_seq ?_
        refine W_region ?_
        refine o_mvt rfl ?_
        refine o_ast rfl ?_
        refine ops_nil ?_
        have hi8 : i < 8 := by omega
        have hinci := inc64' i (by omega)
        refine W_tail 7 (by kernel_rfl) (by kernel_rfl) ?_; intro w96 hk96 hs96
        have hV96 := hk96.blk' (hk94.blk' hV20 (show b18 ≠ b1 by omega)) trivial
        have hS96 := hk96.blk' hS94 trivial
        refine q_mvt rfl ?_
        refine q_run (still1 (r_idxA1 rfl rfl rfl rfl (by omega) (by omega))) rfl ?_
        refine q_run (still1 (r_load rfl rfl rfl (hS96.cell (by rw [Int.toNat_natCast, Nat.zero_add]; exact get32 (by rw [wl_len]; exact hi8))))) rfl ?_
        refine q_mvt rfl ?_
        refine q_run (still1 (r_idxA1 rfl rfl rfl rfl (by omega) (by omega))) rfl ?_
        refine q_run (still1 (r_load rfl rfl rfl (hV96.cell (by rw [Int.toNat_natCast, Nat.zero_add]; exact get32 (xs := vf.ws) hi8)))) rfl ?_
        refine q_run (still1 (r_addW rfl rfl)) rfl ?_
        refine q_nil ?_
        refine op_run (r_idxA1 rfl rfl rfl rfl (by omega) (by omega)) rfl ?_
        refine o_store (v := c32 ((wl 8 (fun j => if j < i then s.ws.getD j 0 + vf.ws.getD j 0 else s.ws.getD j 0)).getD i 0 + vf.ws.getD i 0)) rfl rfl rfl rfl hS96 (by rw [List.length_map, wl_len]; omega) rfl ?_; intro w102 hB102 hk102 hs102
        refine ops_nil ?_
        refine W_region ?_
        refine op_run (r_add rfl rfl) rfl ?_
        refine o_mvt rfl ?_
        refine ops_nil ?_
        have e : wl 8 (fun n => if n = i then ((wl 8 (fun j => if j < i then s.ws.getD j 0 + vf.ws.getD j 0 else s.ws.getD j 0)).getD i 0 + vf.ws.getD i 0) else (if n < i then s.ws.getD n 0 + vf.ws.getD n 0 else s.ws.getD n 0)) = wl 8 (fun j => if j < i + 1 then s.ws.getD j 0 + vf.ws.getD j 0 else s.ws.getD j 0) := wl_congr fun n hn => by
          by_cases hni : n = i
          · subst hni
            rw [if_pos rfl, wl_get hi8, if_neg (Nat.lt_irrefl n), if_pos (by omega)]
          · rw [if_neg hni]
            by_cases h1 : n < i
            · rw [if_pos h1, if_pos (by omega)]
            · rw [if_neg h1, if_neg (by omega)]
        rw [Int.toNat_natCast, Nat.zero_add, map_set32, wl_set, e] at hB102
        refine ⟨by (repeat (first | with_reducible exact offM_refl _ _ | refine offM_updc rfl ?_ | refine offM_upd rfl ?_ | refine offM_updo rfl ?_ | refine offM_updo_none ?_ | refine offM_head rfl rfl ?_)), ⟨i + 1, ?_, by omega, hB102, (hk94.trans hk96.all).trans hk102⟩, ?_⟩
        · rw [← hinci]; rfl
        · show 8 - (IntKind.i64.wrap ((i : Int) + 1)).toNat < 8 - (i : Int).toNat
          rw [hinci]; omega
      · refine W_exit ?_
        refine W_seq ?_
        refine W_region ?_
        have e : i = 8 := by omega
        subst e
        have hS94 : Blk w94 b1 (s.add vf).cells 60 := hS94
        have h2 := hk94.blk' (hk20.blk' (hk19.blk' (hk18.blk' (hk4.blk' (hk3.blk' hB2 trivial) (show b2 ≠ b3 by omega)) trivial) (show b2 ≠ b18 by omega)) (show b2 ≠ b18 ∧ b2 ≠ b3 by omega)) (show b2 ≠ b1 by omega)
        refine op_run (r_loadA (s.add vf).cells rfl rfl rfl rfl hS94.all) rfl ?_
        refine o_storeA (cs := (s.add vf).cells) rfl rfl rfl rfl h2 (Nat.le_refl _) rfl ?_; intro w105 hB105 hk105 hs105
        have hB105 : Blk w105 b2 (s.add vf).cells 60 := hB105
        refine ops_nil ?_
        refine W_ret ?_
        refine retA (s.add vf).cells rfl rfl rfl rfl rfl hB105.all ?_
        have hk20' : Keep All w w20 := hkl19.outA (B := fun k => k = b18 ∨ k = b3) (hk20.mono fun k _ h => ⟨fun e => h (.inl e), fun e => h (.inr e)⟩) (fun k hk => by omega)
        exact ⟨by rw [blockF, hvf], (hk20'.new hk94 (by omega)).new hk105 (by omega)⟩
end Go.Proofs.Ytnjepmdgbkhoaaa.B
