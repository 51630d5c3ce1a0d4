/-
  VolumeTwins.
-/
import Derived.Test.YtkmciohghhffnaaVCop
namespace Go.Proofs.Ytkmciohghhffnaa.B
open Go
set_option linter.unusedVariables false
set_option maxHeartbeats 2000000
set_option maxRecDepth 100000
attribute [local irreducible] W OpsW OpsQ retP
section
variable {P : Program} {F : Fr} {w : World} {dst : Option Tmp} {ty : TypeId} {pos : String} {after : Array Edge} {g : Option (Nat × Bool)}
theorem strA_str (s : ByteArray) : strA s.data.toList = Value.string s := by
  unfold strA; cases s; rfl
theorem r_subStr {x lo hi : Operand} {t : TypeId} {s : ByteArray} {k k' : IntKind} {i j : Int} (hx : ev F x = .string s) (hlo : ev F lo = .int k i) (hhi : ev F hi = .int k' j)
    (ht : P.underlying t = some .string) (h0 : 0 ≤ i) (h1 : i ≤ j) (h2 : j ≤ s.size) :
    Run1 P F ⟨dst, .slice t x (some lo) (some hi) none, ty, pos, after, g⟩ w (strA (s.extract i.toNat j.toNat).data.toList) w := by
  have hj0 : 0 ≤ j := by omega
  have hij : i ≤ (j.toNat : Int) := by omega
  rw [strA_str]
  unfold Run1; simp [execOp, hx, hlo, hhi, Instr.sliceAt, Instr.slice, run_underlying ht, Instr.sliceBounds, run_bound hj0 h2, run_bound h0 hij]
theorem r_addStr {x y : Operand} {t t' : TypeId} {a b : ByteArray} (nm : List UInt8) (hx : ev F x = .string a) (hy : ev F y = .string b) (h : a.size + b.size ≤ 2 ^ 40) (hn : (a ++ b).data.toList = nm) :
    Run1 P F ⟨dst, .binOp .add t x y t', ty, pos, after, g⟩ w (strA nm) w := by
  rw [← hn, strA_str]
  have h2 : ¬ (((a.size + b.size : Nat) : Int) > IntKind.i64.max) := by
    have : IntKind.i64.max = 9223372036854775807 := by decide
    rw [this]; omega
  have e : Op.stringOp .add a b = pure (.string (a ++ b)) := by
    show (if ((a.size + b.size : Nat) : Int) > IntKind.i64.max then _ else _) = _
    rw [if_neg h2]
  unfold Run1; simp [execOp, hx, hy, eqGuard, binOp, e]
end
def alphaB : ByteArray := ⟨#[48, 49, 50, 51, 52, 53, 54, 55, 56, 57, 97, 98, 99, 100, 101, 102, 103, 104, 105, 106, 107, 108, 109, 110, 111, 112, 113, 114, 115, 116, 117, 118, 119, 120, 121, 122]⟩
def chrB (r : Nat) : ByteArray := ⟨(alphaB.extract r (r + 1)).data.toList.toArray⟩
def copC (r : Nat) : List UInt8 := ((⟨#[99, 111, 112, 121]⟩ : ByteArray) ++ chrB r).data.toList
theorem chr_size (r : Nat) : (chrB r).size ≤ 36 := by
  have h1 : (alphaB.extract r (r + 1)).size ≤ 36 := by
    rw [ByteArray.size_extract]
    have : alphaB.size = 36 := rfl
    omega
  have h2 : (chrB r).size = (alphaB.extract r (r + 1)).data.toList.length := baSize _
  rw [h2]
  exact h1
theorem copC_len (r : Nat) : (copC r).length ≤ 2 ^ 40 := by
  have h1 : (copC r).length = ((⟨#[99, 111, 112, 121]⟩ : ByteArray) ++ chrB r).size := rfl
  have h2 := chr_size r
  rw [h1, ByteArray.size_append]
  have : (⟨#[99, 111, 112, 121]⟩ : ByteArray).size = 4 := rfl
  omega
theorem putA_app {A : AL} {nm : List UInt8} {x : VA} (bl : List (Int × Bk)) (h : lookP A nm = none) : putA (A ++ [(nm, x)]) nm bl = A ++ [(nm, { x with bl := bl })] := by
  unfold putA
  rw [List.map_append]
  congr 1
  · conv => rhs; rw [← List.map_id A]
    apply List.map_congr_left
    intro y hy
    rw [if_neg (lookP_none h y hy)]; rfl
  · show [if nm = nm then _ else _] = _
    rw [if_pos rfl]
theorem setR_app {A : AL} {nm : List UInt8} {x : VA} (n : Int) (put : Bool) (f : Bk) (h : lookP A nm = none) : ∃ x', (setR (A ++ [(nm, x)]) nm n put f).2 = A ++ [(nm, x')] := by
  rcases setR_cases (A ++ [(nm, x)]) nm n put f with hh | ⟨v, _, _, _, _, _, ⟨_, e⟩ | ⟨_, _, e⟩⟩
  · exact ⟨x, hh.1⟩
  · exact ⟨_, by rw [e, putA_app _ h]⟩
  · exact ⟨_, by rw [e, putA_app _ h]⟩
theorem delP_app {A : AL} {nm : List UInt8} {x : VA} (h : lookP A nm = none) : delP (A ++ [(nm, x)]) nm = A := by
  have h1 := delP_none (lookP_none h)
  unfold delP at h1 ⊢
  rw [List.filter_append, h1]
  simp
def ffB : Bk := ⟨255 :: List.replicate 31 0, by simp⟩
theorem walk_VolumeTwins (w : World) (v v' : Value) (os os' : List CallV) (hv : CallsIn w v os) (hv' : CallsIn w v' os') : Ret Try.prog 6 [v, v'].toArray w fun r w' => r = .bool true ∧ Keep All w w' := by
  obtain ⟨a0, c0, rfl, hc0, hcm0⟩ := SlR.form hv
  obtain ⟨a1, c1, rfl, hc1, hcm1⟩ := SlR.form hv'
  refine enter (fn := Try.f6) (n := 103) Try.func6 rfl rfl (by simp) ?_
  refine W_seq ?_
  refine W_region ?_
  refine o_asc rfl ?_
  refine ops_nil ?_
  refine W_seq ?_
  refine W_seq ?_
  refine W_region ?_
  refine op_call rfl rfl rfl (lw_speaks w) ?_; rintro v1 w1 ⟨rfl, hk1⟩
  refine op_run (r_not rfl) rfl ?_
  refine ops_nil ?_
  refine W_no rfl (rfl) ?_
  refine W_skip ?_
  refine W_seq ?_
  refine W_cut [24] [19, 20, 21, 22, 23, 24] (fun vs w4 => ∃ g : Bool, vs = [.bool g] ∧ Keep All w1 w4 ∧ (g = false → os.length ≤ 60 ∧ os'.length ≤ 60 ∧ (∀ o ∈ os, o.small) ∧ (∀ o ∈ os', o.small))) ?_ ?_
  · refine W_region ?_
    refine o_mvt rfl ?_
    refine op_call rfl rfl rfl (lw_great w1 _ os (hv.k hk1)) ?_; rintro v5 w5 ⟨⟨g1, rfl, hg1⟩, hk5⟩
    refine o_mvt rfl ?_
    refine g_split rfl rfl rfl (fun g6 => ?_) (fun g6 => ?_)
    · refine o_mvt (g_yes rfl rfl rfl g6) ?_
      refine op_call rfl rfl (g_yes rfl rfl rfl g6) (lw_great w5 _ os' (hv'.k (hk1.trans hk5))) ?_; rintro v7 w7 ⟨⟨g2, rfl, hg2⟩, hk7⟩
      refine o_pkFt rfl g6 rfl ?_
      refine ops_nil ?_
      exact ⟨by (repeat (first | with_reducible exact offM_refl _ _ | refine offM_updc rfl ?_ | refine offM_upd rfl ?_ | refine offM_updo rfl ?_ | refine offM_updo_none ?_ | refine offM_head rfl rfl ?_)), g2, rfl, hk5.trans hk7, fun e => ⟨(hg1 g6).1, (hg2 e).1, (hg1 g6).2, (hg2 e).2⟩⟩
    · refine op_skip (g_no rfl rfl rfl g6) ?_
      refine op_skip (g_no rfl rfl rfl g6) ?_
      refine o_pkTc rfl g6 rfl ?_
      refine ops_nil ?_
      exact ⟨by (repeat (first | with_reducible exact offM_refl _ _ | refine offM_updc rfl ?_ | refine offM_upd rfl ?_ | refine offM_updo rfl ?_ | refine offM_updo_none ?_ | refine offM_head rfl rfl ?_)), true, rfl, hk5, fun e => by cases e⟩
  · rintro J10 vs w10 ⟨g, rfl, hk10, hg⟩ -
    refine W_cond rfl (fun h11 => ?_) (fun h11 => ?_)
    · refine W_seq ?_
      refine W_region ?_
      refine o_asc rfl ?_
      refine ops_nil ?_
      refine W_ret ?_
      refine ret1 (.bool true) rfl ?_ ?_; rfl
      exact ⟨rfl, hk1.trans hk10⟩
    · refine W_skip ?_
      refine W_seq ?_
      refine W_region ?_
      obtain ⟨hlen, hlen', hall, hall'⟩ := hg h11
      have hkA := hk1.trans hk10
      refine op_call rfl rfl rfl (vl_New w10) ?_; rintro v13 w13 ⟨mb, bm, rfl, hmb, M13'⟩
      have M13 : MSv w w13 mb bm [] := ⟨M13'.m, hkA.trans M13'.k, fun z hz => by have := M13'.b z hz; have := hkA.size; omega⟩
      refine o_bs0 rfl rfl rfl ?_; intro w14 b14 e14 hB14 hk14 hs14
      have M14 := M13.keep hk14
      refine o_ast rfl ?_
      refine o_ast rfl ?_
      refine ops_nil ?_
      refine W_seq ?_
      refine W_seq ?_
      refine W_region ?_
      refine o_mvt rfl ?_
      refine op_run (r_len rfl rfl rfl) rfl ?_
      refine o_mvc rfl ?_
      refine ops_nil ?_
      refine W_block ?_
      refine W_loop [6, 29] [6, 8, 29, 30, 31, 32, 33, 34, 35, 36, 37, 38, 39, 40] (fun vs w' => ∃ (u : Value) (k : Nat) (l' : ModL) (ys : List (Img × Value)), vs = [u, .int .i64 k] ∧ k ≤ os.length ∧ abs l' = runD [] (os.take k) ∧ MSv w w' mb bm l' ∧ ImgsS w' u (imgD (abs l')) ys) (fun vs _ => match vs with | [_, .int _ y] => os.length - y.toNat | _ => 0) ⟨_, 0, [], [], rfl, Nat.zero_le _, rfl, M14, ImgsS.nil hB14⟩ ?_
      rintro J15 vs w15 ⟨u, k, l', ys, rfl, hk, ha, M, hI⟩ -
      have hsm : SmallN 60 (abs l') := by rw [ha]; exact small_take hlen k
      have hbn : BlkN 60 (abs l') := by rw [ha]; exact blk_take hlen k
      refine W_seq ?_
      refine W_region ?_
      refine op_run (r_lss rfl rfl) rfl ?_
      refine ops_nil ?_
      refine W_seq ?_
      refine W_cond_p rfl (fun h16 => ?_) (fun h16 => ?_)
      · refine W_skip ?_
        refine W_seq ?_
        refine W_block ?_
        refine W_seq ?_
        refine W_region ?_
        have hkl : k < os.length := by omega
        obtain ⟨c, hc⟩ : ∃ c, os[k]? = some c := ⟨_, List.getElem?_eq_getElem hkl⟩
        obtain ⟨b, off, cp, ev_, _, hcell⟩ := (hv.k M.k).at hc
        cases ev_
        have hinc := inc64' k (by unfold maxLen at hcm0; omega)
        have hcs := hall c (List.mem_of_getElem? hc)
        have htk : runD [] (os.take (k + 1)) = stepD (abs l') c := by
          rw [List.take_succ_eq_append_getElem hkl, (List.getElem?_eq_some_iff.1 hc).2, runD_snoc, ← ha]
        refine op_run (r_idxS rfl rfl rfl rfl (by omega) (by omega)) rfl ?_
        refine op_run (r_loadA (callR c) rfl rfl rfl (by first | rfl | (rw [binV_len]; rfl) | (rw [dgR_len]; rfl) | (rw [refR_len]; rfl) | (rw [secR_len]; rfl) | (rw [List.length_map, tagF_len]; rfl) | (rw [callR_len]; rfl) | (rw [blkR_len]; rfl) | (rw [imR_len]; rfl) | (rw [nbR_len]; rfl)) ((fun j u hj => by rw [Int.toNat_natCast]; exact hcell j u hj))) rfl ?_
        refine o_alloc rfl rfl rfl ?_; intro w19 b19 e19 hB19 hk19 hs19
        have hB19' : Blk w19 b19 (callR CallV.zero) 43 := hB19
        have M19 := M.keep hk19
        have hzk := M.k.size
        refine o_storeA (cs := callR c) rfl rfl (by first | rfl | exact binV_one _ | exact dgR_one _ | exact refR_one _ | exact secR_one _ | exact all_c8 _ | exact callR_one _ | exact blkR_one _ | (exact imR_one1 (by assumption)) | exact nbR_one _) (by first | rfl | (rw [binV_len]; rfl) | (rw [dgR_len]; rfl) | (rw [refR_len]; rfl) | (rw [secR_len]; rfl) | (rw [List.length_map, tagF_len]; rfl) | (rw [callR_len]; rfl) | (rw [blkR_len]; rfl) | (rw [imR_len]; rfl) | (rw [nbR_len]; rfl)) hB19' (by exact Nat.le_of_eq (by simp [callR_len])) rfl ?_; intro w20 hB20 hk20 hs20
        have hB20' := call_st hB20
        have M20 := M19.st hB19' (by decide) hk20 (by omega)
        have hk1520 : Keep All w15 w20 := hk19.new hk20 (by omega)
        refine ops_nil ?_
        refine W_region ?_
        refine o_mvt rfl ?_
        refine o_mvt rfl ?_
        refine op_run (r_loadA (callR c) rfl rfl rfl (by first | rfl | (rw [binV_len]; rfl) | (rw [dgR_len]; rfl) | (rw [refR_len]; rfl) | (rw [secR_len]; rfl) | (rw [List.length_map, tagF_len]; rfl) | (rw [callR_len]; rfl) | (rw [blkR_len]; rfl) | (rw [imR_len]; rfl) | (rw [nbR_len]; rfl)) (hB20'.all)) rfl ?_
        refine op_call rfl rfl rfl (lw_call w20 mb bm l' _ (abs l') ys c M20.m (hI.k hk1520) M.m.nd hcs (by have := hsm.1; omega) (hbn.mono (by decide))) ?_; rintro v22 w22 ⟨v2, ys2, ok, l2, rfl, hI2, ha2, hS2, _⟩
        refine o_mvt rfl ?_
        refine op_run (r_extract rfl rfl) rfl ?_
        refine op_run (r_extract rfl rfl) rfl ?_
        refine o_ast rfl ?_
        refine ops_nil ?_
        refine W_region ?_
        refine op_run (r_add rfl rfl) rfl ?_
        refine o_mvt rfl ?_
        refine ops_nil ?_
        refine ⟨by (repeat (first | with_reducible exact offM_refl _ _ | refine offM_updc rfl ?_ | refine offM_upd rfl ?_ | refine offM_updo rfl ?_ | refine offM_updo_none ?_ | refine offM_head rfl rfl ?_)), ⟨v2, k + 1, l2, ys2, congrArg (fun z : Int => [v2, Value.int .i64 z]) hinc, by omega, by rw [htk]; exact ha2, M20.go hS2, by rw [ha2]; exact hI2⟩, ?_⟩
        show os.length - (IntKind.i64.wrap ((k : Int) + 1)).toNat < os.length - (k : Int).toNat
        rw [hinc]; omega
      · refine W_exit ?_
        refine W_seq ?_
        refine W_region ?_
        refine o_mvt rfl ?_
        refine op_call rfl rfl rfl (vl_Twin w15 mb bm l' M.m) ?_; rintro v24 w24 ⟨mb2, bm2, lt0, rfl, MT⟩
        refine o_ast rfl ?_
        refine ops_nil ?_
        refine W_seq ?_
        refine W_seq ?_
        refine W_region ?_
        refine o_mvt rfl ?_
        refine op_run (r_len rfl rfl rfl) rfl ?_
        refine o_mvc rfl ?_
        refine ops_nil ?_
        refine W_block ?_
        refine W_loop [45] [11, 45, 46, 47, 48, 49, 50, 51, 52] (fun vs w' => ∃ (k2 : Nat) (lt : ModL), vs = [.int .i64 k2] ∧ k2 ≤ os'.length ∧ MSv w15 w' mb2 bm2 lt) (fun vs _ => match vs with | [.int _ y] => os'.length - y.toNat | _ => 0) ⟨0, lt0, rfl, Nat.zero_le _, MT⟩ ?_
        rintro J25 vs w25 ⟨k2, lt, rfl, hk2, M2⟩ -
        refine W_seq ?_
        refine W_region ?_
        refine op_run (r_lss rfl rfl) rfl ?_
        refine ops_nil ?_
        refine W_seq ?_
        refine W_cond_p rfl (fun h26 => ?_) (fun h26 => ?_)
        · refine W_skip ?_
          refine W_seq ?_
          refine W_block ?_
          refine W_seq ?_
          refine W_region ?_
          have hkl : k2 < os'.length := by omega
          obtain ⟨c, hc⟩ : ∃ c, os'[k2]? = some c := ⟨_, List.getElem?_eq_getElem hkl⟩
          obtain ⟨b, off, cp, ev_, _, hcell⟩ := (hv'.k (M.k.trans M2.k)).at hc
          cases ev_
          have hinc := inc64' k2 (by unfold maxLen at hcm1; omega)
          have hcs := hall' c (List.mem_of_getElem? hc)
          refine op_run (r_idxS rfl rfl rfl rfl (by omega) (by omega)) rfl ?_
          refine op_run (r_loadA (callR c) rfl rfl rfl (by first | rfl | (rw [binV_len]; rfl) | (rw [dgR_len]; rfl) | (rw [refR_len]; rfl) | (rw [secR_len]; rfl) | (rw [List.length_map, tagF_len]; rfl) | (rw [callR_len]; rfl) | (rw [blkR_len]; rfl) | (rw [imR_len]; rfl) | (rw [nbR_len]; rfl)) ((fun j u hj => by rw [Int.toNat_natCast]; exact hcell j u hj))) rfl ?_
          refine o_alloc rfl rfl rfl ?_; intro w29 b29 e29 hB29 hk29 hs29
          have hB29' : Blk w29 b29 (callR CallV.zero) 43 := hB29
          have M29 := M2.keep hk29
          have hzk := M2.k.size
          refine o_storeA (cs := callR c) rfl rfl (by first | rfl | exact binV_one _ | exact dgR_one _ | exact refR_one _ | exact secR_one _ | exact all_c8 _ | exact callR_one _ | exact blkR_one _ | (exact imR_one1 (by assumption)) | exact nbR_one _) (by first | rfl | (rw [binV_len]; rfl) | (rw [dgR_len]; rfl) | (rw [refR_len]; rfl) | (rw [secR_len]; rfl) | (rw [List.length_map, tagF_len]; rfl) | (rw [callR_len]; rfl) | (rw [blkR_len]; rfl) | (rw [imR_len]; rfl) | (rw [nbR_len]; rfl)) hB29' (by exact Nat.le_of_eq (by simp [callR_len])) rfl ?_; intro w30 hB30 hk30 hs30
          have hB30' := call_st hB30
          have M30 := M29.st hB29' (by decide) hk30 (by omega)
          refine ops_nil ?_
          refine W_region ?_
          refine o_mvt rfl ?_
          refine op_run (r_loadA (callR c) rfl rfl rfl (by first | rfl | (rw [binV_len]; rfl) | (rw [dgR_len]; rfl) | (rw [refR_len]; rfl) | (rw [secR_len]; rfl) | (rw [List.length_map, tagF_len]; rfl) | (rw [callR_len]; rfl) | (rw [blkR_len]; rfl) | (rw [imR_len]; rfl) | (rw [nbR_len]; rfl)) (hB30'.all)) rfl ?_
          refine op_call rfl rfl rfl (lw_call w30 mb2 bm2 lt (.slice none 0 0) [] [] c M30.m (by rw [imgD_nil]; exact ⟨rfl, Sl.nil _ _, fun y hy => by cases hy⟩) ⟨List.nodup_nil, fun x hx => by cases hx⟩ hcs (Nat.zero_le _) (BlkN.nil.mono (Nat.zero_le _))) ?_; rintro v32 w32 ⟨v3, ys3, ok3, lt2, rfl, _, _, hS3, _⟩
          refine ops_nil ?_
          refine W_region ?_
          refine op_run (r_add rfl rfl) rfl ?_
          refine o_mvt rfl ?_
          refine ops_nil ?_
          refine ⟨by (repeat (first | with_reducible exact offM_refl _ _ | refine offM_updc rfl ?_ | refine offM_upd rfl ?_ | refine offM_updo rfl ?_ | refine offM_updo_none ?_ | refine offM_head rfl rfl ?_)), ⟨k2 + 1, lt2, congrArg (fun z : Int => [Value.int .i64 z]) hinc, by omega, M30.go hS3⟩, ?_⟩
          show os'.length - (IntKind.i64.wrap ((k2 : Int) + 1)).toNat < os'.length - (k2 : Int).toNat
          rw [hinc]; omega
        · refine W_exit ?_
          refine W_seq ?_
          refine W_seq ?_
          refine W_region ?_
          refine o_mvt rfl ?_
          have M25 := M.keep M2.k
          have hI25 := hI.k M2.k
          refine op_call rfl rfl rfl (md_Images w25 mb bm l' M25.m (hsm.m (by decide)) (hbn.mono (by decide))) ?_; rintro v34 w34 ⟨⟨ysA, hOA⟩, hIA, hk34⟩
          have M34 := M25.keep hk34
          have hI34 := hI25.k hk34
          refine o_mvt rfl ?_
          refine op_call rfl rfl rfl (rf12_Same w34 _ _ (imgD (abs l')) ysA ys hOA.s hI34 (imgD_small hbn (by decide))) ?_; rintro v35 w35 ⟨rfl, hk35⟩
          have M35 := M34.keep hk35
          have hI35 := hI34.k hk35
          obtain ⟨aU, cU, rfl, hcU, hcmU⟩ := hI35.o.form
          have hlA := imgD_len (abs l')
          refine op_run (r_not rfl) rfl ?_
          refine ops_nil ?_
          refine W_no rfl (rfl) ?_
          refine W_skip ?_
          refine W_seq ?_
          refine W_seq ?_
          refine W_region ?_
          refine o_mvt rfl ?_
          refine op_run (r_len rfl rfl rfl) rfl ?_
          refine o_mvc rfl ?_
          refine ops_nil ?_
          refine W_block ?_
          refine W_loop [60] [12, 13, 14, 16, 60, 61, 62, 63, 64, 65, 66, 67, 68, 69, 70, 71, 72, 73, 74, 75, 76, 77, 78, 79, 80, 81, 82, 83, 84, 85, 86, 87, 88, 89, 90, 91, 92, 93, 94, 95, 96, 97, 98] (fun vs w' => ∃ (j : Nat) (l3 : ModL), vs = [.int .i64 j] ∧ j ≤ (imgD (abs l')).length ∧ abs l3 = abs l' ∧ MSv w w' mb bm l3 ∧ ImgsS w' (.slice aU (imgD (abs l')).length cU) (imgD (abs l')) ys) (fun vs _ => match vs with | [.int _ y] => (imgD (abs l')).length - y.toNat | _ => 0) ⟨0, l', rfl, Nat.zero_le _, rfl, M35, hI35⟩ ?_
          rintro J38 vs w38 ⟨j, l3, rfl, hj, ha3, M38, hI38⟩ -
          refine W_seq ?_
          refine W_region ?_
          refine op_run (r_lss rfl rfl) rfl ?_
          refine ops_nil ?_
          refine W_seq ?_
          refine W_cond_p rfl (fun h39 => ?_) (fun h39 => ?_)
          · refine W_skip ?_
            refine W_seq ?_
            refine W_block ?_
            refine W_seq ?_
            refine W_region ?_
            refine o_mvt rfl ?_
            have hjl : j < (imgD (abs l')).length := by omega
            obtain ⟨i, x, bi, oi, ci, hy, hi, ei, hci, hbi⟩ := hI38.at hjl
            cases ei
            have hincj := inc64' j (by unfold maxLen at hcmU; omega)
            obtain ⟨r, hr⟩ : ∃ r, j % 36 = r := ⟨_, rfl⟩
            have hr36 : r < 36 := by omega
            have hincr := inc64' r (by omega)
            have hx1 : one x = true := by obtain ⟨_, _, rfl, _⟩ := hbi.form; rfl
            refine op_run (r_idxS rfl rfl rfl rfl (by omega) (by omega)) rfl ?_
            refine op_run (r_loadA (imR (i, x)) rfl rfl rfl (by first | rfl | (rw [binV_len]; rfl) | (rw [dgR_len]; rfl) | (rw [refR_len]; rfl) | (rw [secR_len]; rfl) | (rw [List.length_map, tagF_len]; rfl) | (rw [callR_len]; rfl) | (rw [blkR_len]; rfl) | (rw [imR_len]; rfl) | (rw [nbR_len]; rfl)) ((fun m u hm => by rw [Int.toNat_natCast, Addr.add_lit]; exact hci m u hm))) rfl ?_
            refine o_alloc rfl rfl rfl ?_; intro w42 b42 e42 hB42 hk42 hs42
            have hB42' : Blk w42 b42 (imR (⟨[], 0, false, []⟩, .slice none 0 0)) 55 := hB42
            have M42 := M38.keep hk42
            have hz38 := M38.k.size
            refine o_ast rfl ?_
            refine o_storeA (cs := imR (i, x)) rfl rfl (by first | rfl | exact binV_one _ | exact dgR_one _ | exact refR_one _ | exact secR_one _ | exact all_c8 _ | exact callR_one _ | exact blkR_one _ | (exact imR_one1 (by assumption)) | exact nbR_one _) (by first | rfl | (rw [binV_len]; rfl) | (rw [dgR_len]; rfl) | (rw [refR_len]; rfl) | (rw [secR_len]; rfl) | (rw [List.length_map, tagF_len]; rfl) | (rw [callR_len]; rfl) | (rw [blkR_len]; rfl) | (rw [imR_len]; rfl) | (rw [nbR_len]; rfl)) hB42' (by exact Nat.le_of_eq (by simp [imR_len])) rfl ?_; intro w43 hB43 hk43 hs43
            have hB43' : Blk w43 b42 (imR (i, x)) 55 := by
              have h := hB43
              rwa [splice_all (by rw [imR_len, imR_len])] at h
            have M43 := M42.st hB42' (by decide) hk43 (by omega)
            have hk43' : Keep All w38 w43 := hk42.new hk43 (by omega)
            have hI43 := hI38.k hk43'
            have hb43 := hbi.keep hk43' (fun _ _ => trivial)
            refine ops_nil ?_
            refine W_seq ?_
            refine W_region ?_
            refine o_mvt rfl ?_
            refine op_run ((r_rem rfl rfl (by decide)).val (congrArg (Value.int .i64) (show ((j : Nat) : Int).tmod 36 = ((r : Nat) : Int) from by rw [← hr]; exact (Int.ofNat_tmod j 36).symm))) rfl ?_
            refine o_mvt rfl ?_
            refine op_run ((r_rem rfl rfl (by decide)).val (congrArg (Value.int .i64) (show ((j : Nat) : Int).tmod 36 = ((r : Nat) : Int) from by rw [← hr]; exact (Int.ofNat_tmod j 36).symm))) rfl ?_
            refine op_run ((r_add rfl rfl).val (congrArg (Value.int .i64) (show IntKind.i64.wrap ((r : Int) + 1) = ((r + 1 : Nat) : Int) from hincr))) rfl ?_
            refine op_run (r_subStr (s := alphaB) rfl rfl rfl rfl (by omega) (by omega) (by show ((r + 1 : Nat) : Int) ≤ 36; omega)) rfl ?_
            refine op_run (r_addStr (b := chrB r) (copC r) rfl rfl (by have := chr_size r; show 4 + (chrB r).size ≤ _; omega) rfl) rfl ?_
            refine o_ast rfl ?_
            refine ops_nil ?_
            refine W_seq ?_
            refine W_seq ?_
            refine W_region ?_
            refine o_mvt rfl ?_
            refine op_run (r_fieldAddr rfl rfl rfl rfl rfl) rfl ?_
            refine op_run (r_load rfl rfl rfl (hB43'.cell rfl)) rfl ?_
            refine o_mvt rfl ?_
            refine op_call rfl rfl rfl (vl_Copy w43 mb bm l3 i.nm (copC r) 1048576 false M43.m (copC_len r)) ?_; rintro v47 w47 ⟨rfl, l4, ha4, hS4⟩
            have M47 := M43.go hS4
            have hI47 := hI43.kM M43.m hS4.2.1
            have hB47 := M43.blk hS4 hB43'
            have hb47 := hb43.kM M43.m hS4.2.1
            refine op_run (r_neq rfl rfl) rfl ?_
            refine ops_nil ?_
            refine W_cond_p rfl (fun h48 => ?_) (fun h48 => ?_)
            · refine W_exit ?_
              refine W_region ?_
              refine op_run (r_add rfl rfl) rfl ?_
              refine o_mvt rfl ?_
              refine ops_nil ?_
              refine ⟨by (repeat (first | with_reducible exact offM_refl _ _ | refine offM_updc rfl ?_ | refine offM_upd rfl ?_ | refine offM_updo rfl ?_ | refine offM_updo_none ?_ | refine offM_head rfl rfl ?_)), ⟨j + 1, l4, congrArg (fun z : Int => [Value.int .i64 z]) hincj, by omega, by rw [ha4, copL_err h48, ha3], M47, hI47⟩, ?_⟩
              show (imgD (abs l')).length - (IntKind.i64.wrap ((j : Int) + 1)).toNat < (imgD (abs l')).length - (j : Int).toNat
              rw [hincj]; omega
            · refine W_skip ?_
              refine W_seq ?_
              refine W_region ?_
              refine o_mvt rfl ?_
              refine o_mvt rfl ?_
              have hE : copE (abs l3) i.nm (copC r) 1048576 = 0 := Classical.byContradiction fun hh => h48 hh
              obtain ⟨_, hno, vv, hvv, _⟩ := copE_ok hE
              rw [ha3] at hno
              have hA4 : abs l4 = abs l' ++ [(copC r, ⟨1048576, false, vv.bl⟩)] := by rw [ha4, copL_ok hE hvv, ha3]
              refine op_run (r_buildA (blkR ffB) (_) ([(0, .int .u8 255)]) rfl rfl rfl rfl rfl (rfl)) rfl ?_
              refine op_call rfl rfl rfl (vl_Put w47 mb bm l4 (copC r) 5 ffB M47.m) ?_; rintro v51 w51 ⟨rfl, l5, ha5, hS5⟩
              have M51 := M47.go hS5
              have hI51 := hI47.kM M47.m hS5.2.1
              have hB51 := M47.blk hS5 hB47
              have hb51 := hb47.kM M47.m hS5.2.1
              obtain ⟨x5, hx5⟩ : ∃ x', abs l5 = abs l' ++ [(copC r, x')] := by
                rw [ha5, ← putR_set, hA4]; exact setR_app _ _ _ hno
              obtain ⟨sa, ca, rfl, hca, hcma⟩ := hb51.form
              refine ops_nil ?_
              refine W_seq ?_
              refine W_seq ?_
              refine W_region ?_
              refine op_run (r_fieldAddr rfl rfl rfl rfl rfl) rfl ?_
              refine op_run (r_load rfl rfl rfl (hB51.cell rfl)) rfl ?_
              refine op_run (r_len rfl rfl rfl) rfl ?_
              refine o_mvc rfl ?_
              refine ops_nil ?_
              refine W_block ?_
              refine W_loop [85] [16, 85, 86, 87, 88, 89, 90, 91, 92, 93, 94] (fun vs w' => ∃ (m : Nat) (l6 : ModL) (x6 : VA), vs = [.int .i64 m] ∧ m ≤ i.bl.length ∧ abs l6 = abs l' ++ [(copC r, x6)] ∧ MSv w w' mb bm l6 ∧ ImgsS w' (.slice (some ⟨bi, oi, none⟩) (imgD (abs l')).length cU) (imgD (abs l')) ys ∧ Sl w' (.slice sa i.bl.length ca) i.bl.length 33 (rows nbR i.bl)) (fun vs _ => match vs with | [.int _ y] => i.bl.length - y.toNat | _ => 0) ⟨0, l5, x5, rfl, Nat.zero_le _, hx5, M51, hI51, hb51⟩ ?_
              rintro J53 vs w53 ⟨m, l6, x6, rfl, hm, ha6, M53, hI53, hb53⟩ -
              refine W_seq ?_
              refine W_region ?_
              refine op_run (r_lss rfl rfl) rfl ?_
              refine ops_nil ?_
              refine W_seq ?_
              refine W_cond_p rfl (fun h54 => ?_) (fun h54 => ?_)
              · refine W_skip ?_
                refine W_seq ?_
                refine W_block ?_
                refine W_seq ?_
                refine W_region ?_
                have hml : m < i.bl.length := by omega
                have hincm := inc64' m (by unfold maxLen at hcma; omega)
                obtain ⟨p, pb, po, pc, hp, ep, hcp⟩ := nb_at hb53 hml
                cases ep
                have hz53 := M53.k.size
                refine op_run (r_idxS rfl rfl rfl rfl (by omega) (by omega)) rfl ?_
                refine op_run (r_loadA (nbR p) rfl rfl rfl (by first | rfl | (rw [binV_len]; rfl) | (rw [dgR_len]; rfl) | (rw [refR_len]; rfl) | (rw [secR_len]; rfl) | (rw [List.length_map, tagF_len]; rfl) | (rw [callR_len]; rfl) | (rw [blkR_len]; rfl) | (rw [imR_len]; rfl) | (rw [nbR_len]; rfl)) ((fun m u hm => by rw [Int.toNat_natCast]; exact hcp m u hm))) rfl ?_
                refine o_alloc rfl rfl rfl ?_; intro w57 b57 e57 hB57 hk57 hs57
                have hB57' : Blk w57 b57 (nbR (0, Bk.zero)) 60 := hB57
                have M57 := M53.keep hk57
                refine o_storeA (cs := nbR p) rfl rfl (by first | rfl | exact binV_one _ | exact dgR_one _ | exact refR_one _ | exact secR_one _ | exact all_c8 _ | exact callR_one _ | exact blkR_one _ | (exact imR_one1 (by assumption)) | exact nbR_one _) (by first | rfl | (rw [binV_len]; rfl) | (rw [dgR_len]; rfl) | (rw [refR_len]; rfl) | (rw [secR_len]; rfl) | (rw [List.length_map, tagF_len]; rfl) | (rw [callR_len]; rfl) | (rw [blkR_len]; rfl) | (rw [imR_len]; rfl) | (rw [nbR_len]; rfl)) hB57' (by exact Nat.le_of_eq (by simp [nbR_len])) rfl ?_; intro w58 hB58 hk58 hs58
                have hB58' : Blk w58 b57 (nbR p) 60 := by
                  have h := hB58
                  rwa [splice_all (by rw [nbR_len, nbR_len])] at h
                have M58 := M57.st hB57' (by decide) hk58 (by omega)
                have hk58' : Keep All w53 w58 := hk57.new hk58 (by omega)
                refine ops_nil ?_
                refine W_region ?_
                refine o_mvt rfl ?_
                refine o_mvt rfl ?_
                refine op_run (r_fieldAddr rfl rfl rfl rfl rfl) rfl ?_
                refine op_run (r_load rfl rfl rfl (hB58'.cell rfl)) rfl ?_
                refine op_call rfl rfl rfl (vl_Drop w58 mb bm l6 (copC r) p.1 M58.m) ?_; rintro v60 w60 ⟨_, l7, ha7, hS7⟩
                refine ops_nil ?_
                refine W_region ?_
                refine op_run (r_add rfl rfl) rfl ?_
                refine o_mvt rfl ?_
                refine ops_nil ?_
                obtain ⟨x7, hx7⟩ : ∃ x', abs l7 = abs l' ++ [(copC r, x')] := by
                  rw [ha7, ← dropR_set _ _ _ Bk.zero, ha6]; exact setR_app _ _ _ hno
                refine ⟨by (repeat (first | with_reducible exact offM_refl _ _ | refine offM_updc rfl ?_ | refine offM_upd rfl ?_ | refine offM_updo rfl ?_ | refine offM_updo_none ?_ | refine offM_head rfl rfl ?_)), ⟨m + 1, l7, x7, congrArg (fun z : Int => [Value.int .i64 z]) hincm, by omega, hx7, M58.go hS7, (hI53.k hk58').kM M58.m hS7.2.1, (hb53.keep hk58' (fun _ _ => trivial)).kM M58.m hS7.2.1⟩, ?_⟩
                show i.bl.length - (IntKind.i64.wrap ((m : Int) + 1)).toNat < i.bl.length - (m : Int).toNat
                rw [hincm]; omega
              · refine W_exit ?_
                refine W_region ?_
                refine o_mvt rfl ?_
                refine o_mvt rfl ?_
                refine op_call rfl rfl rfl (vl_Delete w53 mb bm l6 (copC r) M53.m) ?_; rintro v62 w62 ⟨_, l8, ha8, hS8⟩
                refine ops_nil ?_
                refine W_region ?_
                refine op_run (r_add rfl rfl) rfl ?_
                refine o_mvt rfl ?_
                refine ops_nil ?_
                refine ⟨by (repeat (first | with_reducible exact offM_refl _ _ | refine offM_updc rfl ?_ | refine offM_upd rfl ?_ | refine offM_updo rfl ?_ | refine offM_updo_none ?_ | refine offM_head rfl rfl ?_)), ⟨j + 1, l8, congrArg (fun z : Int => [Value.int .i64 z]) hincj, by omega, by rw [ha8, ha6, delP_app hno], M53.go hS8, hI53.kM M53.m hS8.2.1⟩, ?_⟩
                show (imgD (abs l')).length - (IntKind.i64.wrap ((j : Int) + 1)).toNat < (imgD (abs l')).length - (j : Int).toNat
                rw [hincj]; omega
          · refine W_exit ?_
            refine W_seq ?_
            refine W_region ?_
            refine o_mvt rfl ?_
            refine op_call rfl rfl rfl (md_Images w38 mb bm l3 M38.m (by rw [ha3]; exact hsm.m (by decide)) (by rw [ha3]; exact hbn.mono (by decide))) ?_; rintro v64 w64 ⟨⟨ys9, hO9⟩, hI9, hk64⟩
            refine o_mvt rfl ?_
            refine op_call rfl rfl rfl (rf12_Same w64 _ _ (imgD (abs l3)) ys9 ys hO9.s (by rw [ha3]; exact hI38.k hk64) (by rw [ha3]; exact imgD_small hbn (by decide))) ?_; rintro v65 w65 ⟨rfl, hk65⟩
            refine o_ast rfl ?_
            refine ops_nil ?_
            refine W_ret ?_
            refine ret1 (.bool true) rfl ?_ ?_; rfl
            exact ⟨rfl, (M38.keep (hk64.trans hk65)).k⟩
end Go.Proofs.Ytkmciohghhffnaa.B
