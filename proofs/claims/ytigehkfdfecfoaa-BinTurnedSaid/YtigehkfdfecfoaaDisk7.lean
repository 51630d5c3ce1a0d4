/-
  A disk: Set.
-/
import Derived.Test.YtigehkfdfecfoaaMDisk
namespace Go.Proofs.Ytigehkfdfecfoaa.B
open Go
set_option linter.unusedVariables false
set_option maxHeartbeats 2000000
set_option maxRecDepth 100000
attribute [local irreducible] W OpsW OpsQ retP
theorem zc_one {z : List Value} (h : z.all one = true) (h0 : 0 < z.length) (n : Nat) : (Builtin.zeroCells z.toArray n).toList.all one = true := by
  unfold Builtin.zeroCells
  rw [List.all_eq_true] at h ⊢
  intro x hx
  simp only [Array.toList_map, List.mem_map] at hx
  obtain ⟨i, hi, rfl⟩ := hx
  have hlt : i % z.length < z.length := Nat.mod_lt _ h0
  simp only [List.size_toArray, List.getElem!_toArray]
  rw [getElem!_pos z (i % z.length) hlt]
  exact h _ (List.getElem_mem _)
theorem zc_len (z : List Value) (n : Nat) : (Builtin.zeroCells z.toArray n).toList.length = n * z.length := by
  unfold Builtin.zeroCells; simp
section
variable {f0 : Bool} {c0 : Ctx} {P : Program} {n : Nat} {ops : Array Oper} {F : Fr} {w : World} {K : Fr → World → Prop} {rest : List Oper} {dst : Option Tmp} {ty : TypeId} {pos : String} {after : Array Edge} {g : Option (Nat × Bool)}
/-- clear(s) of elements in a block that is known. -/
theorem o_clear {s : Operand} {t e eb : TypeId} {z : Value} {zl : List Value} {sz by_ b off m c : Nat} {l : List Value} (hs : ev F s = .slice (some ⟨b, off, none⟩) m c) (hm : 0 < m) (ht : P.underlying t = some (.slice e))
    (hi : tinfo P e = some (some z, sz, by_)) (hz : z.cells = zl.toArray) (hzl : zl.length = sz) (h0 : 0 < sz) (h1 : zl.all one = true) (hb : Blk w b l eb) (hoff : off + m * sz ≤ l.length) (hg : wantedF ops F ⟨dst, .call ⟨.builtin .clear, #[s], #[t]⟩, ty, pos, after, g⟩ = true)
    (h : ∀ w' zs, zs.length = m * sz → Blk w' b (splice l off zs) eb → Keep (· ≠ b) w w' → w'.heap.size = w.heap.size → OpsW f0 c0 P n ops rest (updo n F dst (.tuple #[])) w' K) :
    OpsW f0 c0 P n ops (⟨dst, .call ⟨.builtin .clear, #[s], #[t]⟩, ty, pos, after, g⟩ :: rest) F w K := by
  subst hzl
  have hlen := zc_len zl m
  have hst := run_storeCells_at (P := P) b off eb (Builtin.zeroCells zl.toArray m).toList 0 l.toArray w hb (by rw [hlen]; simpa using hoff) (fun v hv => one_oneCell (List.all_eq_true.1 (zc_one h1 h0 m) v hv))
  simp only [Nat.add_zero] at hst
  refine op_run0 (v := .tuple #[]) (w' := w.setRow b (splice l off (Builtin.zeroCells zl.toArray m).toList).toArray) ?_ hg (h _ _ hlen (setRow_heap w b _ _ eb _ hb) (Keep.setRow w b _) (by simp [World.setRow]))
  have hm0 : m ≠ 0 := by omega
  obtain ⟨k, rfl⟩ : ∃ k, m = k + 1 := ⟨m - 1, by omega⟩
  (try unfold Run1); simp [execOp, resolve, invoke, builtin, hs, Builtin.clear_, run_underlying ht, run_zero_t hi, hz, splice, hst]
end
theorem Own.cut {w : World} {e : TypeId} {sz g m c : Nat} {xs ys : List Value} (hB : Blk w g (xs ++ ys) e) (hx : xs.length = m * sz) (hl : (xs ++ ys).length = c * sz) (hmc : m ≤ c) (hcm : c ≤ maxLen) : Own w e sz (.slice (some ⟨g, 0, none⟩) m c) m xs :=
  ⟨hx, .inr ⟨g, c, (xs ++ ys).toArray, rfl, Nat.zero_le _, hB, hmc, hcm, by simpa using hl, by simp [← hx]⟩⟩
theorem rowW {w : World} {g : Nat} {l : List (Nat × Sec)} {ex : List Value} {e : TypeId} {j : Nat} {x : Nat × Sec} (hB : Blk w g (rows wrR l ++ ex) e) (hd : l[j]? = some x) : ∀ (u : Nat) (v : Value), (wrR x)[u]? = some v → w.cell? ((⟨g, 0 + j * 65, none⟩ : Addr).add u) = some v := by
  intro u v hu
  obtain ⟨h1, h2⟩ := List.getElem?_eq_some_iff.1 hd
  have hu64 : u < 65 := by have := (List.getElem?_eq_some_iff.1 hu).1; rwa [wrR_len] at this
  have hlt : j * 65 + u < (rows wrR l).length := by rw [rows_len wrR_len]; omega
  rw [Addr.add_lit, Nat.zero_add]
  exact hB.cell (by rw [List.getElem?_append_left hlt, rows_get wrR_len h1 hu64, h2]; exact hu)
/-- A function that tells whether. -/
def Tells (w : World) (fid : FuncId) (first captured : Array Value) (p : Nat × Sec → Bool) : Prop :=
  ∀ (x : Nat × Sec) (w' : World), Keep All w w' → Ret Try.prog fid (first ++ [.agg (wrR x).toArray].toArray ++ captured) w' fun r w2 => r = .bool (p x) ∧ Keep All w' w2
theorem Tells.keep {w w2 : World} {fid : FuncId} {first captured : Array Value} {p : Nat × Sec → Bool} (h : Tells w fid first captured p) (hk : Keep All w w2) : Tells w2 fid first captured p := fun x w' hk' => h x w' (hk.trans hk')
theorem dk_Set1 (w : World) (x : Nat × Sec) (b : Nat) (at_ : Int) (hB : Blk w b [.int .i64 at_] 3) : Ret Try.prog 46 [.agg (wrR x).toArray, .pointer (some ⟨b, 0, none⟩)].toArray w fun r w' => r = .bool (decide ((x.1 : Int) = at_)) ∧ Keep All w w' := by
  refine enter (fn := Try.f46) (n := 8) Try.func46 rfl rfl (by simp) ?_
  refine W_seq ?_
  refine W_region ?_
  refine o_box rfl rfl rfl ?_; intro w1 b1 e1 hB1 hk1 hs1
  refine o_asc rfl ?_
  refine ops_nil ?_
  refine W_seq ?_
  refine W_region ?_
  refine op_run (r_fieldAddr rfl rfl rfl rfl rfl) rfl ?_
  refine op_run (r_load rfl rfl rfl (hB1.cell rfl)) rfl ?_
  refine op_run (r_load rfl rfl rfl ((hk1.blk' hB trivial).cell rfl)) rfl ?_
  refine op_run (r_eql rfl rfl) rfl ?_
  refine o_ast rfl ?_
  refine ops_nil ?_
  refine W_ret ?_
  refine ret1 (.bool (decide ((x.1 : Int) = at_))) rfl ?_ ?_; rfl
  exact ⟨rfl, hk1⟩
theorem sl_IndexW (w : World) (v : Value) (T : List (Nat × Sec)) (fid : FuncId) (first captured : Array Value) (p : Nat × Sec → Bool) (hfn : isFn Try.prog fid = true) (hf : Tells w fid first captured p) (hT : Own w 88 65 v T.length (rows wrR T)) (hTl : T.length < 1000000) :
    Ret Try.prog 71 [v, .func (.func fid) first captured].toArray w fun r w' => ∃ j : Int, r = .int .i64 j ∧ ((j = -1 ∧ ∀ x ∈ T, p x = false) ∨ (∃ k x, j = ((k : Nat) : Int) ∧ T[k]? = some x ∧ p x = true ∧ ∀ x ∈ T.take k, p x = false)) ∧ Keep All w w' := by
  obtain ⟨a0, c0, rfl, hc0, hcm0⟩ := hT.form
  obtain ⟨z, hz, hzs⟩ := ti_wr
  refine enter (fn := Try.f71) (n := 19) Try.func71 rfl rfl (by simp) ?_
  refine W_seq ?_
  refine W_region ?_
  refine o_asc rfl ?_
  refine ops_nil ?_
  refine W_seq ?_
  refine W_seq ?_
  refine W_region ?_
  refine o_mvt rfl ?_
  refine op_run (r_len rfl rfl rfl) rfl ?_
  refine o_mvc rfl ?_
  refine ops_nil ?_
  refine W_block ?_
  refine W_loop [8] [4, 5, 8, 9, 10, 11, 12, 13, 14, 15, 16, 17, 18] (fun vs w' => ∃ k : Nat, vs = [.int .i64 k] ∧ k ≤ T.length ∧ (∀ x ∈ T.take k, p x = false) ∧ Keep All w w') (fun vs _ => match vs with | [.int _ k] => T.length - k.toNat | _ => 0) ⟨0, rfl, Nat.zero_le _, by simp, Keep.refl _⟩ ?_
  rintro J1 vs w1 ⟨k, rfl, hk, hno, hk1⟩ -
  refine W_seq ?_
  refine W_region ?_
  refine op_run (r_lss rfl rfl) rfl ?_
  refine ops_nil ?_
  refine W_seq ?_
  refine W_cond_p rfl (fun h2 => ?_) (fun h2 => ?_)
  · refine W_skip ?_
    refine W_seq ?_
    refine W_block ?_
    refine W_seq ?_
    refine W_region ?_
    refine o_mvt rfl ?_
    refine o_ast rfl ?_
    refine ops_nil ?_
    refine W_seq ?_
    refine W_region ?_
    refine o_mvt rfl ?_
    refine o_mvt rfl ?_
    refine o_mvt rfl ?_
    have hk' : k < T.length := by omega
    obtain ⟨x, hx⟩ : ∃ x, T[k]? = some x := ⟨_, List.getElem?_eq_getElem hk'⟩
    obtain ⟨g, c, ex, ev1, hgc, hgm, hB, hre⟩ := (hT.keep hk1 (fun _ _ => trivial)).open (by omega)
    injection ev1 with ev1 ev2 ev3
    subst ev1; subst ev3
    refine op_run (r_idxS rfl rfl rfl hz (by omega) (by omega)) rfl ?_
    refine op_run (r_loadA (wrR x) rfl rfl rfl (by rw [wrR_len]; exact hz) (by intro u v hu; rw [Int.toNat_natCast]; exact rowW hB hx u v hu)) rfl ?_
    refine op_call (fid := fid) (first := first) (captured := captured) rfl hfn rfl (hf x w1 hk1) ?_; rintro v5 w5 ⟨rfl, hk5⟩
    refine ops_nil ?_
    refine W_cond rfl (fun h6 => ?_) (fun h6 => ?_)
    · refine W_seq ?_
      refine W_region ?_
      refine o_mvt rfl ?_
      refine o_ast rfl ?_
      refine ops_nil ?_
      refine W_ret ?_
      refine ret1 (.int .i64 (k : Int)) rfl ?_ ?_; rfl
      exact ⟨_, rfl, .inr ⟨k, x, rfl, hx, h6, hno⟩, hk1.trans hk5⟩
    · refine W_skip ?_
      refine W_region ?_
      refine op_run (r_add rfl rfl) rfl ?_
      refine o_mvt rfl ?_
      refine ops_nil ?_
      have hinc := inc64' k (by omega)
      refine ⟨by (repeat (first | with_reducible exact offM_refl _ _ | refine offM_updc rfl ?_ | refine offM_upd rfl ?_ | refine offM_updo rfl ?_ | refine offM_updo_none ?_ | refine offM_head rfl rfl ?_)), ⟨k + 1, congrArg (fun z : Int => [Value.int .i64 z]) hinc, by omega, fun y hy => ?_, hk1.trans hk5⟩, ?_⟩
      · obtain ⟨h1, h2⟩ := List.getElem?_eq_some_iff.1 hx
        rw [List.take_succ_eq_append_getElem h1, h2] at hy
        rcases List.mem_append.1 hy with hy | hy
        · exact hno y hy
        · obtain rfl := List.mem_singleton.1 hy; exact h6
      · show T.length - (IntKind.i64.wrap ((k : Int) + 1)).toNat < T.length - (k : Int).toNat
        rw [hinc]; omega
  · refine W_exit ?_
    refine W_seq ?_
    refine W_region ?_
    refine o_asc rfl ?_
    refine ops_nil ?_
    refine W_ret ?_
    refine ret1 (.int .i64 (-1)) rfl ?_ ?_; rfl
    have hke : k = T.length := by omega
    subst hke
    rw [List.take_length] at hno
    exact ⟨_, rfl, .inl ⟨rfl, hno⟩, hk1⟩
theorem ti_wr' : tinfo Try.prog 88 = some (some (.agg (.int .i64 0 :: List.replicate 64 (c8 0)).toArray), 65, 72) := by kernel_rfl
theorem subSl_some {g o sz l h m : Nat} (hne : m ≠ l) : subSl (some ⟨g, o, none⟩) sz l h m = .slice (some ⟨g, o + l * sz, none⟩) (h - l) (m - l) := by
  unfold subSl; rw [if_neg hne, Option.map_some, Addr.add_lit]
theorem subSl_zero {g sz h m : Nat} (hne : m ≠ 0) : subSl (some ⟨g, 0, none⟩) sz 0 h m = .slice (some ⟨g, 0, none⟩) h m := by
  rw [subSl_some hne]; simp
theorem splice_mid {A B zs ex : List Value} {n : Nat} (hA : A.length = n) (hB : B.length = zs.length) : splice (A ++ B ++ ex) n zs = A ++ (zs ++ ex) := by
  rw [List.append_assoc A B ex]
  unfold splice
  rw [List.take_left' hA, ← List.drop_drop, List.drop_left' hA, ← hB, List.drop_left' rfl, List.append_assoc]
theorem filt_snoc (p : Nat × Sec → Bool) {T : List (Nat × Sec)} {j : Nat} {x : Nat × Sec} (hx : T[j]? = some x) : (T.take (j + 1)).filter p = (T.take j).filter p ++ (if p x then [x] else []) := by
  obtain ⟨h1, h2⟩ := List.getElem?_eq_some_iff.1 hx
  rw [List.take_succ_eq_append_getElem h1, h2, List.filter_append]
  congr 1
  by_cases h : p x <;> simp [h]
theorem rows_appW (l m : List (Nat × Sec)) : rows wrR (l ++ m) = rows wrR l ++ rows wrR m := by unfold rows; rw [List.flatMap_append]
theorem sl_DeleteW (w : World) (v : Value) (T : List (Nat × Sec)) (fid : FuncId) (first captured : Array Value) (p : Nat × Sec → Bool) (hfn : isFn Try.prog fid = true) (hf : ∀ (x : Nat × Sec) (w' : World), w.heap.size ≤ w'.heap.size → Keep (fun k => some k ≠ v.ownBlock) w w' → Ret Try.prog fid (first ++ [.agg (wrR x).toArray].toArray ++ captured) w' fun r w2 => r = .bool (p x) ∧ Keep All w' w2) (hT : Own w 88 65 v T.length (rows wrR T)) (hTl : T.length < 1000000) :
    Ret Try.prog 45 [v, .func (.func fid) first captured].toArray w fun r w' => Own w' 88 65 r (T.filter fun x => !p x).length (rows wrR (T.filter fun x => !p x)) ∧ InB (fun k => v.ownBlock = some k) r ∧ Keep (fun k => some k ≠ v.ownBlock) w w' := by
  obtain ⟨z, hz, hzs⟩ := ti_wr
  refine enter (fn := Try.f45) (n := 42) Try.func45 rfl rfl (by simp) ?_
  refine W_seq ?_
  refine W_region ?_
  refine o_asc rfl ?_
  refine ops_nil ?_
  refine W_seq ?_
  refine W_region ?_
  refine o_mvt rfl ?_
  refine o_mvt rfl ?_
  refine op_call rfl rfl rfl (sl_IndexW w v T fid first captured p hfn (fun x w' hk => hf x w' hk.size hk.all) hT hTl) ?_; rintro v1 w1 ⟨j, rfl, hj, hk1⟩
  refine o_ast rfl ?_
  refine ops_nil ?_
  refine W_seq ?_
  refine W_seq ?_
  refine W_region ?_
  refine o_mvt rfl ?_
  refine op_run (r_eql rfl rfl) rfl ?_
  refine ops_nil ?_
  have hT1 := hT.keep hk1 (fun _ _ => trivial)
  refine W_cond_p rfl (fun h2 => ?_) (fun h2 => ?_)
  · refine W_seq ?_
    refine W_region ?_
    refine o_mvt rfl ?_
    refine o_ast rfl ?_
    refine ops_nil ?_
    refine W_ret ?_
    refine ret1 v rfl ?_ ?_; rfl
    have hno : ∀ x ∈ T, p x = false := by
      rcases hj with ⟨_, h⟩ | ⟨k, x, h, _⟩
      · exact h
      · omega
    have e : (T.filter fun x => !p x) = T := List.filter_eq_self.2 fun x hx => by rw [hno x hx]; rfl
    rw [e]
    exact ⟨hT1, fun k hk => hk, hk1.all⟩
  · refine W_skip ?_
    refine W_seq ?_
    refine W_seq ?_
    refine W_region ?_
    refine o_mvt rfl ?_
    refine op_run (r_add rfl rfl) rfl ?_
    refine o_ast rfl ?_
    refine ops_nil ?_
    refine W_block ?_
    obtain ⟨k, x, rfl, hkx, hpx, hno⟩ := hj.resolve_left (fun h => h2 h.1)
    have hkl := (List.getElem?_eq_some_iff.1 hkx).1
    obtain ⟨_, hn | ⟨g, c, cur, hv, _, hg, hnc, hcm, hcs, htake⟩⟩ := hT1
    · omega
    subst hv
    have hcur : cur.toList = rows wrR T ++ cur.toList.drop (T.length * 65) := by rw [← htake, List.take_append_drop]
    obtain ⟨ex, hex⟩ : ∃ ex, ex = cur.toList.drop (T.length * 65) := ⟨_, rfl⟩
    rw [← hex] at hcur
    have hB1 : Blk w1 g (rows wrR T ++ ex) 88 := by
      unfold Blk; rw [← hcur]; simpa using hg
    have hle : (rows wrR T ++ ex).length = c * 65 := by rw [← hcur]; simpa using hcs
    have hk1' : Keep (fun z => some z ≠ (Value.slice (some ⟨g, 0, none⟩) T.length c).ownBlock) w w1 := hk1.all
    have hinck := inc64' k (by omega)
    have hf0 : (T.take (k + 1)).filter (fun x => !p x) = T.take k := by
      rw [filt_snoc (fun x => !p x) hkx, hpx]
      simp only [Bool.not_true, Bool.false_eq_true, if_false, List.append_nil]
      exact List.filter_eq_self.2 fun y hy => by rw [hno y hy]; rfl
    refine W_loop [5, 6] [5, 6, 7, 16, 17, 18, 19, 20, 21, 22, 23, 24, 25, 26, 27, 28, 29, 30, 31, 32, 33, 34, 35] (fun vs w' => ∃ i j : Nat, vs = [.int .i64 i, .int .i64 j] ∧ j ≤ T.length ∧ i < j ∧ i = ((T.take j).filter fun x => !p x).length ∧ Blk w' g (rows wrR ((T.take j).filter (fun x => !p x) ++ T.drop i) ++ ex) 88 ∧ Keep (fun z => some z ≠ (Value.slice (some ⟨g, 0, none⟩) T.length c).ownBlock) w w' ∧ w.heap.size ≤ w'.heap.size) (fun vs _ => match vs with | [_, .int _ k] => T.length - k.toNat | _ => 0) ⟨k, k + 1, congrArg (fun z : Int => [Value.int .i64 (k : Int), Value.int .i64 z]) hinck, by omega, by omega, by rw [hf0, List.length_take]; omega, by rw [hf0, List.take_append_drop]; exact hB1, hk1', hk1.size⟩ ?_
    rintro J4 vs w4 ⟨i, j, rfl, hj, hij, hi, hB, hkw, hsz⟩ -
    refine W_seq ?_
    refine W_seq ?_
    refine W_region ?_
    refine o_mvt rfl ?_
    refine o_mvt rfl ?_
    refine op_run (r_len rfl rfl rfl) rfl ?_
    refine op_run (r_lss rfl rfl) rfl ?_
    refine ops_nil ?_
    refine W_cond_p rfl (fun h5 => ?_) (fun h5 => ?_)
    · refine W_skip ?_
      refine W_seq ?_
      refine W_block ?_
      refine W_seq ?_
      refine W_region ?_
      refine o_mvt rfl ?_
      refine o_mvt rfl ?_
      have hj' : j < T.length := by omega
      obtain ⟨y, hy⟩ : ∃ y, T[j]? = some y := ⟨_, List.getElem?_eq_getElem hj'⟩
      have hrow : ((T.take j).filter (fun x => !p x) ++ T.drop i)[j]? = some y := by
        rw [List.getElem?_append_right (by omega), List.getElem?_drop, ← hi, show i + (j - i) = j by omega, hy]
      have hinc := inc64' j (by omega)
      have hfs := filt_snoc (fun x => !p x) hy
      refine op_run (r_idxS rfl rfl rfl hz (by omega) (by omega)) rfl ?_
      refine op_run (r_loadA (wrR y) rfl rfl rfl (by rw [wrR_len]; exact hz) (by intro u v hu; rw [Int.toNat_natCast]; exact rowW hB hrow u v hu)) rfl ?_
      refine o_alloc rfl rfl rfl ?_; intro w8 b8 e8 hB8 hk8 hs8
      refine o_storeA (cs := wrR y) rfl rfl (wrR_one y) (by rw [wrR_len]; exact hz) hB8 (by rw [wrR_len]; exact Nat.le_refl _) rfl ?_; intro w9 hB9 hk9 hs9
      have hB9 : Blk w9 b8 (wrR y) 88 := by
        have h := hB9
        rwa [splice_all (by rw [wrR_len]; rfl)] at h
      have hk49 : Keep All w4 w9 := hk8.new hk9 (by omega)
      refine ops_nil ?_
      refine W_seq ?_
      refine W_region ?_
      refine o_mvt rfl ?_
      refine op_run (r_loadA (wrR y) rfl rfl rfl (by rw [wrR_len]; exact hz) hB9.all) rfl ?_
      refine op_call (fid := fid) (first := first) (captured := captured) rfl hfn rfl (hf y w9 (by have := hk49.size; omega) (hkw.trans hk49.all)) ?_; rintro v11 w11 ⟨rfl, hk11⟩
      have hkA := hk49.trans hk11
      have hBA := hkA.blk' hB trivial
      have hkwA := hkw.trans hkA.all
      have hszA := hkA.size
      refine op_run (r_not rfl) rfl ?_
      refine ops_nil ?_
      refine W_cond rfl (fun h12 => ?_) (fun h12 => ?_)
      · refine W_seq ?_
        refine W_region ?_
        refine o_mvt rfl ?_
        refine o_mvt rfl ?_
        refine op_run (r_loadA (wrR y) rfl rfl rfl (by rw [wrR_len]; exact hz) (hk11.blk' hB9 trivial).all) rfl ?_
        refine op_run (r_idxS rfl rfl rfl hz (by omega) (by omega)) rfl ?_
        refine o_storeA (cs := wrR y) rfl rfl (wrR_one y) (by rw [wrR_len]; exact hz) hBA (by rw [wrR_len, List.length_append, rows_len wrR_len, List.length_append, List.length_drop, Int.toNat_natCast]; omega) rfl ?_; intro w15 hB15 hk15 hs15
        have hpy : p y = false := by simpa using h12
        have hB15' : Blk w15 g (rows wrR ((T.take (j + 1)).filter (fun x => !p x) ++ T.drop (i + 1)) ++ ex) 88 := by
          have h : Blk w15 g (splice (rows wrR ((T.take j).filter (fun x => !p x) ++ T.drop i) ++ ex) (0 + ((i : Nat) : Int).toNat * 65) (wrR y)) 88 := hB15
          rw [Int.toNat_natCast, Nat.zero_add, splice_app (by rw [rows_len wrR_len, wrR_len, List.length_append, List.length_drop]; omega), rows_set wrR_len (by rw [List.length_append, List.length_drop]; omega)] at h
          have e : ((T.take j).filter (fun x => !p x) ++ T.drop i).set i y = (T.take (j + 1)).filter (fun x => !p x) ++ T.drop (i + 1) := by
            rw [hfs, hpy, List.set_append_right _ _ (by omega), ← hi, Nat.sub_self, List.drop_eq_getElem_cons (by omega : i < T.length), List.set_cons_zero]
            simp
          rw [e] at h; exact h
        have hinci := inc64' i (by omega)
        refine ops_nil ?_
        refine W_region ?_
        refine o_mvt rfl ?_
        refine op_run (r_add rfl rfl) rfl ?_
        refine o_ast rfl ?_
        refine ops_nil ?_
        refine W_region ?_
        refine o_mvt rfl ?_
        refine op_run (r_add rfl rfl) rfl ?_
        refine o_ast rfl ?_
        refine ops_nil ?_
        refine ⟨by (repeat (first | with_reducible exact offM_refl _ _ | refine offM_updc rfl ?_ | refine offM_upd rfl ?_ | refine offM_updo rfl ?_ | refine offM_updo_none ?_ | refine offM_head rfl rfl ?_)), ⟨i + 1, j + 1, congr (congrArg (fun (a b : Int) => [Value.int .i64 a, Value.int .i64 b]) hinci) hinc, by omega, by omega, by rw [hfs, hpy, List.length_append, ← hi]; rfl, hB15', hkwA.trans (hk15.mono fun z _ h e => h (by rw [e]; rfl)), by omega⟩, ?_⟩
        show T.length - (IntKind.i64.wrap ((j : Int) + 1)).toNat < T.length - (j : Int).toNat
        rw [hinc]; omega
      · refine W_skip ?_
        refine W_region ?_
        refine o_mvt rfl ?_
        refine op_run (r_add rfl rfl) rfl ?_
        refine o_ast rfl ?_
        refine ops_nil ?_
        have hpy : p y = true := by simpa using h12
        refine ⟨by (repeat (first | with_reducible exact offM_refl _ _ | refine offM_updc rfl ?_ | refine offM_upd rfl ?_ | refine offM_updo rfl ?_ | refine offM_updo_none ?_ | refine offM_head rfl rfl ?_)), ⟨i, j + 1, congrArg (fun z : Int => [Value.int .i64 (i : Int), Value.int .i64 z]) hinc, by omega, by omega, by rw [hfs, hpy]; simpa using hi, by rw [hfs, hpy]; simpa using hBA, hkwA, by omega⟩, ?_⟩
        show T.length - (IntKind.i64.wrap ((j : Int) + 1)).toNat < T.length - (j : Int).toNat
        rw [hinc]; omega
    · refine W_exit ?_
      refine W_seq ?_
      refine W_region ?_
      refine o_mvt rfl ?_
      refine o_mvt rfl ?_
      have hje : j = T.length := by omega
      subst hje
      rw [List.take_length] at hi hB
      have hle' : (rows wrR ((T.filter fun x => !p x) ++ T.drop i) ++ ex).length = c * 65 := by
        rw [List.length_append, rows_len wrR_len, List.length_append, List.length_drop]
        rw [List.length_append, rows_len wrR_len] at hle
        omega
      have hfl : (T.filter fun x => !p x).length = i := hi.symm
      refine op_run ((r_sliceS_lo rfl rfl rfl hz (by omega) (by omega)).val (show subSl (some ⟨g, 0, none⟩) 65 i T.length c = .slice (some ⟨g, 0 + i * 65, none⟩) (T.length - i) (c - i) from subSl_some (by omega))) rfl ?_
      refine o_clear (zl := .int .i64 0 :: List.replicate 64 (c8 0)) rfl (by omega) rfl ti_wr' rfl (by simp) (by decide) (by decide) hB (by rw [hle']; omega) rfl ?_; intro w19 zs hzl hB19 hk19 hs19
      have hB19' : Blk w19 g (rows wrR (T.filter fun x => !p x) ++ (zs ++ ex)) 88 := by
        have h := hB19
        have e : splice (rows wrR ((T.filter fun x => !p x) ++ T.drop i) ++ ex) (0 + i * 65) zs = rows wrR (T.filter fun x => !p x) ++ (zs ++ ex) := by
          rw [rows_appW, Nat.zero_add]
          exact splice_mid (by rw [rows_len wrR_len, hfl]) (by rw [rows_len wrR_len, List.length_drop, hzl])
        rw [e] at h; exact h
      refine ops_nil ?_
      refine W_seq ?_
      refine W_region ?_
      refine o_mvt rfl ?_
      refine o_mvt rfl ?_
      refine op_run ((r_sliceS_hi rfl rfl rfl hz (by omega) (by omega)).val (show subSl (some ⟨g, 0, none⟩) 65 0 i c = .slice (some ⟨g, 0, none⟩) i c from subSl_zero (by omega))) rfl ?_
      refine o_ast rfl ?_
      refine ops_nil ?_
      refine W_ret ?_
      refine ret1 (.slice (some ⟨g, 0, none⟩) i c) rfl ?_ ?_; rfl
      refine ⟨?_, fun z hz => hz, hkw.trans (hk19.mono fun z _ h e => h (by rw [e]; rfl))⟩
      rw [hfl]
      exact Own.cut hB19' (by rw [rows_len wrR_len, hfl]) (by
        rw [List.length_append, rows_len wrR_len, hfl, List.length_append, hzl]
        rw [List.length_append, rows_len wrR_len, List.length_append, List.length_drop, hfl] at hle'
        omega) (by omega) hcm
end Go.Proofs.Ytigehkfdfecfoaa.B
