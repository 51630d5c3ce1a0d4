/-
  sporranref12.Add.
-/
import Derived.Test.YtkmciohghhffnaaGreatVNam
namespace Go.Proofs.YtkmciohghhffnaaGreat.B
open Go
set_option linter.unusedVariables false
set_option maxHeartbeats 2000000
set_option maxRecDepth 100000
attribute [local irreducible] W OpsW OpsQ retP
theorem imR_one1 {i : Img} {x : Value} (h : one x = true) : (imR (i, x)).all one = true := by show (true && true && true && (one x && true)) = true; rw [h]; rfl
theorem rowsIm_one : ∀ {ys : List (Img × Value)}, (∀ y ∈ ys, one y.2 = true) → (rows imR ys).all one = true
  | [], _ => rfl
  | y :: ys, h => by
    rw [rows_cons, List.all_append, rowsIm_one (fun z hz => h z (List.mem_cons_of_mem _ hz)), Bool.and_true]
    exact imR_one1 (h y (List.mem_cons_self ..))
theorem imgs_ones {w : World} {v : Value} {L : List Img} {ys : List (Img × Value)} (h : ImgsS w v L ys) : ∀ y ∈ ys, one y.2 = true := fun y hy => by
  obtain ⟨_, _, e, _⟩ := (h.b y hy).form
  rw [e]; rfl
theorem ImgsS.takeS {w : World} {a : Option Addr} {L : List Img} {ys : List (Img × Value)} {c k : Nat} (h : ImgsS w (.slice a L.length c) L ys) (hk : k ≤ L.length) : Sl w (subSl a 4 0 k c) k 4 (rows imR (ys.take k)) := by
  obtain ⟨_, _, e, h1, _⟩ := h.o.form
  injection e with _ _ e; subst e
  have := h.o.sub (Nat.zero_le k) hk (Nat.le_trans hk h1) (Nat.le_refl c)
  rw [rows_take imR_len, Nat.zero_mul, List.drop_zero] at this
  exact this
theorem ImgsS.dropS {w : World} {a : Option Addr} {L : List Img} {ys : List (Img × Value)} {c k : Nat} (h : ImgsS w (.slice a L.length c) L ys) (hk : k ≤ L.length) : Sl w (subSl a 4 k L.length c) (L.length - k) 4 (rows imR (ys.drop k)) := by
  obtain ⟨_, _, e, h1, _⟩ := h.o.form
  injection e with _ _ e; subst e
  have := h.o.sub hk (Nat.le_refl _) h1 (Nat.le_refl c)
  rw [← h.len, rows_take imR_len, List.take_length, rows_drop imR_len, h.len] at this
  exact this
/-- Where a name goes. -/
def AtN (L : List Img) (nm : List UInt8) (k : Nat) : Prop := k ≤ L.length ∧ (∀ y ∈ L.take k, y.nm < nm) ∧ ∀ y, L[k]? = some y → ¬ y.nm < nm
theorem rf12_Add (w : World) (v xv : Value) (L : List Img) (ys : List (Img × Value)) (i : Img) (h : ImgsS w v L ys) (hx : Sl w xv i.bl.length 33 (rows nbR i.bl)) (hL : L.length ≤ 1000000) : Ret Tryz.prog 49 [v, .agg (imR (i, xv)).toArray].toArray w fun r w' => (∃ k, AtN L i.nm k ∧ Sl w' r (L.length + 1) 4 (rows imR (ys.take k ++ (i, xv) :: ys.drop k))) ∧ InB (fun z => w.heap.size ≤ z) r ∧ Keep All w w' := by
  obtain ⟨a0, c0, rfl, hc0, hca⟩ := h.o.form
  have hxv : one xv = true := by obtain ⟨_, _, rfl, _⟩ := hx.form; rfl
  refine enter (fn := Tryz.f49) (n := 37) Tryz.func49 rfl rfl (by simp) ?_
  refine W_seq ?_
  refine W_region ?_
  refine o_box rfl rfl rfl ?_; intro w1 b1 e1 hB1 hk1 hs1
  have hB1 : Blk w1 b1 (imR (i, xv)) 69 := hB1
  refine o_asc rfl ?_
  refine ops_nil ?_
  refine W_seq ?_
  refine W_region ?_
  refine o_asc rfl ?_
  refine ops_nil ?_
  refine W_seq ?_
  refine W_block ?_
  refine W_loop [5] [5, 7, 8, 9, 10, 11, 12, 13, 14, 15, 16, 17, 18, 19, 20, 21, 22] (fun vs w' => ∃ k : Nat, vs = [.int .i64 k] ∧ k ≤ L.length ∧ (∀ y ∈ L.take k, y.nm < i.nm) ∧ Keep All w1 w') (fun vs _ => match vs with | [.int _ y] => L.length - y.toNat | _ => 0) ⟨0, rfl, Nat.zero_le _, (fun y hy => by cases hy), Keep.refl _⟩ ?_
  rintro J2 vs w2 ⟨k, rfl, hk, hlt, hkw⟩ -
  have hinc := inc64' k (by unfold maxLen at hca; omega)
  refine W_seq ?_
  refine W_cut [20] [7, 8, 9, 10, 11, 12, 13, 14, 15, 16, 17, 18, 19, 20] (fun vs w3 => ∃ b : Bool, vs = [.bool b] ∧ (b = true → ∃ y, L[k]? = some y ∧ y.nm < i.nm) ∧ (b = false → ∀ y, L[k]? = some y → ¬ y.nm < i.nm) ∧ Keep All w2 w3) ?_ ?_
  · refine W_quiet (Keep All w2) (by kernel_rfl) (by kernel_rfl) (Keep.drawn _) ?_
    refine q_mvt rfl ?_
    refine q_mvt rfl ?_
    refine q_run (fun _ _ => (r_len rfl rfl rfl)) rfl ?_
    refine q_run (fun _ _ => (r_lss rfl rfl)) rfl ?_
    refine q_mvt rfl ?_
    refine q_split rfl rfl rfl (fun g5 => ?_) (fun g5 => ?_)
    · refine q_mvt (g_yes rfl rfl rfl g5) ?_
      refine q_mvt (g_yes rfl rfl rfl g5) ?_
      have hkl : k < L.length := by have := of_decide_eq_true g5; omega
      obtain ⟨i', xa, ba, oa, ca, _, hia, ea, hcxa, hsa⟩ := h.at hkl
      cases ea
      refine q_run (fun _ _ => r_idxS rfl rfl rfl rfl (by omega) (by omega)) (g_yes rfl rfl rfl g5) ?_
      refine q_run (fun _ _ => (r_fieldAddr rfl rfl rfl rfl rfl)) (g_yes rfl rfl rfl g5) ?_
      refine q_run (fun _ hk => r_load rfl rfl rfl (hk.cell (by rw [Int.toNat_natCast]; exact hkw.cell (hk1.cell (hcxa 0 _ rfl) trivial) trivial) trivial)) (g_yes rfl rfl rfl g5) ?_
      refine q_run (fun _ _ => (r_fieldAddr rfl rfl rfl rfl rfl)) (g_yes rfl rfl rfl g5) ?_
      refine q_run (fun _ hk => r_load rfl rfl rfl (hk.cell (hkw.cell (hB1.cell rfl) trivial) trivial)) (g_yes rfl rfl rfl g5) ?_
      refine q_run (fun _ _ => r_lssStr rfl rfl) (g_yes rfl rfl rfl g5) ?_
      refine q_pkTt rfl g5 rfl ?_
      refine q_nil ?_; intro w10 hk10
      exact ⟨by (repeat (first | with_reducible exact offM_refl _ _ | refine offM_updc rfl ?_ | refine offM_upd rfl ?_ | refine offM_updo rfl ?_ | refine offM_updo_none ?_ | refine offM_head rfl rfl ?_)), _, rfl, fun e => ⟨i', hia, of_decide_eq_true e⟩, fun e y hy => by rw [hia] at hy; cases hy; exact of_decide_eq_false e, hk10⟩
    · refine q_skip (g_no rfl rfl rfl g5) ?_
      refine q_skip (g_no rfl rfl rfl g5) ?_
      refine q_skip (g_no rfl rfl rfl g5) ?_
      refine q_skip (g_no rfl rfl rfl g5) ?_
      refine q_skip (g_no rfl rfl rfl g5) ?_
      refine q_skip (g_no rfl rfl rfl g5) ?_
      refine q_skip (g_no rfl rfl rfl g5) ?_
      refine q_skip (g_no rfl rfl rfl g5) ?_
      refine q_pkFc rfl g5 rfl ?_
      refine q_nil ?_; intro w12 hk12
      exact ⟨by (repeat (first | with_reducible exact offM_refl _ _ | refine offM_updc rfl ?_ | refine offM_upd rfl ?_ | refine offM_updo rfl ?_ | refine offM_updo_none ?_ | refine offM_head rfl rfl ?_)), false, rfl, (fun e => by cases e), fun _ y hy => by have := (List.getElem?_eq_some_iff.1 hy).1; have := of_decide_eq_false g5; omega, hk12⟩
  · rintro J14 vs w14 ⟨b, rfl, hbt, hbf, hk14⟩ -
    refine W_cond rfl (fun h15 => ?_) (fun h15 => ?_)
    · refine W_skip ?_
      refine W_block ?_
      refine W_region ?_
      refine o_mvt rfl ?_
      refine op_run (r_add rfl rfl) rfl ?_
      refine o_ast rfl ?_
      refine ops_nil ?_
      obtain ⟨y0, hy0, hy1⟩ := hbt h15
      obtain ⟨hkl, hye⟩ := List.getElem?_eq_some_iff.1 hy0
      refine ⟨by (repeat (first | with_reducible exact offM_refl _ _ | refine offM_updc rfl ?_ | refine offM_upd rfl ?_ | refine offM_updo rfl ?_ | refine offM_updo_none ?_ | refine offM_head rfl rfl ?_)), ⟨k + 1, congrArg (fun z : Int => [Value.int .i64 z]) hinc, hkl, fun y hy => ?_, hkw.trans hk14⟩, ?_⟩
      · rw [List.take_succ_eq_append_getElem hkl, hye] at hy
        rcases List.mem_append.1 hy with h | h
        · exact hlt y h
        · rw [List.mem_singleton.1 h]; exact hy1
      · show L.length - (IntKind.i64.wrap ((k : Int) + 1)).toNat < L.length - (k : Int).toNat
        rw [hinc]; omega
    · refine W_exit ?_
      refine W_seq ?_
      refine W_region ?_
      have hkA := (hk1.trans hkw).trans hk14
      refine o_bs0 rfl rfl rfl ?_; intro w17 b17 e17 hB17 hk17 hs17
      have hB17e : Own w17 69 4 (.slice (some ⟨b17, 0, none⟩) 0 0) 0 [] := Own.blk hB17 rfl (Nat.zero_le _)
      have hk17A := hkA.trans hk17
      have h17 := h.k hk17A
      refine o_mvt rfl ?_
      refine o_mvt rfl ?_
      refine op_run (r_sliceS_hi rfl rfl rfl rfl (by omega) (by omega)) rfl ?_
      refine o_appS (v := .slice (some ⟨b17, 0, none⟩) 0 0) rfl rfl (h17.takeS hk) rfl ti_im rfl rfl hB17e (rowsIm_one fun y hy => imgs_ones h17 y (List.mem_of_mem_take hy)) (by unfold maxLen; omega) (by omega) rfl ?_; intro v19 w19 hown19 hk19 hb19
      have hk19A : Keep All w w19 := hk17A.own hk19 (fun z hz _ => by have hz : some b17 = some z := hz; injection hz with hz; have := hkA.size; omega)
      have hb19' : InB (fun z => w14.heap.size ≤ z) v19 := hb19.mono fun z hz => by
        rcases hz with h | h
        · have h : some b17 = some z := h; injection h with h; omega
        · have := hk17.size; omega
      have hlb1 := hB1.lt
      have hz14 := (hkw.trans hk14).size
      have hB119 : Blk w19 b1 (imR (i, xv)) 69 := hk19.blk' (hk17.blk' (hk14.blk' (hkw.blk' hB1 trivial) trivial) trivial) (fun e => by have e : some b1 = some b17 := e; injection e with e; omega)
      refine o_ast rfl ?_
      refine ops_nil ?_
      refine W_seq ?_
      refine W_region ?_
      refine o_mvt rfl ?_
      refine op_run (r_loadA (imR (i, xv)) rfl rfl rfl (by first | rfl | (rw [binV_len]; rfl) | (rw [dgR_len]; rfl) | (rw [refR_len]; rfl) | (rw [secR_len]; rfl) | (rw [List.length_map, tagF_len]; rfl)) (hB119.all)) rfl ?_
      refine o_bsR imR imR_len [(i, xv)] rfl ti_im rfl rfl rfl rfl rfl rfl ?_; intro w21 b21 e21 hB21 hk21 hs21
      refine o_app (v := v19) (c := 1) (m := 0 + k) (k := 1) (rows imR [(i, xv)]) rfl rfl rfl ti_im rfl (by decide) (hown19.keep hk21 (fun _ _ => trivial)) (by rw [rows_len imR_len]; rfl) hB21.all (rowsIm_one fun y hy => by rw [List.mem_singleton.1 hy]; exact hxv) (by unfold maxLen; omega) (by omega) rfl ?_; intro v22 w22 hown22 hk22 hb22
      have hk22A : Keep All w w22 := (hk19A.trans hk21).own hk22 (fun z hz _ => by have := hb19' z hz; have := hkA.size; omega)
      have hb22' : InB (fun z => w14.heap.size ≤ z) v22 := hb22.mono fun z hz => by
        rcases hz with h | h
        · exact hb19' z h
        · have := hk21.size; have := hk19.size; have := hk17.size; omega
      have h22 := h.k hk22A
      refine o_ast rfl ?_
      refine ops_nil ?_
      refine W_seq ?_
      refine W_region ?_
      refine o_mvt rfl ?_
      refine o_mvt rfl ?_
      refine o_mvt rfl ?_
      refine op_run (r_sliceS_lo rfl rfl rfl rfl (by omega) (by omega)) rfl ?_
      refine o_appS (v := v22) rfl rfl (h22.dropS hk) rfl ti_im rfl rfl hown22 (rowsIm_one fun y hy => imgs_ones h22 y (List.mem_of_mem_drop hy)) (by unfold maxLen; omega) (by omega) rfl ?_; intro v24 w24 hown24 hk24 hb24
      have hk24A : Keep All w w24 := hk22A.own hk24 (fun z hz _ => by have := hb22' z hz; have := hkA.size; omega)
      refine o_ast rfl ?_
      refine ops_nil ?_
      refine W_ret ?_
      refine ret1 v24 rfl ?_ ?_; rfl
      refine ⟨⟨k, ⟨hk, hlt, hbf h15⟩, ?_⟩, fun z hz => ?_, hk24A⟩
      · have e1 : L.length + 1 = 0 + k + 1 + (L.length - k) := by omega
        have e2 : rows imR (ys.take k ++ (i, xv) :: ys.drop k) = ([] ++ rows imR (ys.take k) ++ rows imR [(i, xv)]) ++ rows imR (ys.drop k) := by
          rw [rows_app, rows_cons, rows_cons, rows_nil]; simp
        rw [e1, e2]
        exact hown24.sl
      · rcases hb24 z hz with h | h
        · have := hb22' z h; have := hkA.size; omega
        · have := hk22A.size; omega
/-- Images with one more. -/
theorem ImgsS.ins {w w' : World} {v xv r : Value} {L : List Img} {ys : List (Img × Value)} {i : Img} {k : Nat} (h : ImgsS w v L ys) (hx : Sl w xv i.bl.length 33 (rows nbR i.bl)) (hk : Keep All w w') (hkl : k ≤ L.length) (hr : Sl w' r (L.length + 1) 4 (rows imR (ys.take k ++ (i, xv) :: ys.drop k))) :
    ImgsS w' r (L.take k ++ i :: L.drop k) (ys.take k ++ (i, xv) :: ys.drop k) := by
  have h24 := h.k hk
  refine ⟨by rw [List.map_append, List.map_cons, List.map_take, List.map_drop, h.e], ?_, fun y hy => ?_⟩
  · have e1 : (L.take k ++ i :: L.drop k).length = L.length + 1 := by
      rw [List.length_append, List.length_cons, List.length_take, List.length_drop]; omega
    rw [e1]; exact hr
  · rcases List.mem_append.1 hy with hy | hy
    · exact h24.b y (List.mem_of_mem_take hy)
    · rcases List.mem_cons.1 hy with rfl | hy
      · exact hx.keep hk (fun _ _ => trivial)
      · exact h24.b y (List.mem_of_mem_drop hy)

end Go.Proofs.YtkmciohghhffnaaGreat.B
