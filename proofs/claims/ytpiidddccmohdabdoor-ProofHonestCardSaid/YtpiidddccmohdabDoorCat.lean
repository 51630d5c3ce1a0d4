/-
  slices.Grow of nothing; slices.Concat of bytes.
-/
import Derived.Test.YtpiidddccmohdabDoorRowsK
import Derived.Lib.AppendZeros
namespace Go.Proofs.YtpiidddccmohdabDoor.B
open Go
set_option linter.unusedVariables false
set_option maxHeartbeats 2000000
set_option maxRecDepth 100000
attribute [local irreducible] W OpsW OpsQ retP
section
variable {f0 : Bool} {c0 : Ctx} {P : Program} {n : Nat} {ops : Array Oper} {F : Fr} {w : World} {K : Fr → World → Prop} {rest : List Oper} {dst : Option Tmp} {ty : TypeId} {pos : String} {after : Array Edge} {g : Option (Nat × Bool)}
/-- append of zeros to nothing: 'append(nil, make([]T, k)...)'. -/
theorem o_zeros {s x : Operand} {t tn e : TypeId} {z : Value} {by_ : Nat} {kn : IntKind} {k : Nat}
    (hs : ev F s = .slice none 0 0) (hx : ev F x = .int .i64 k) (ht : P.underlying t = some (.slice e)) (htn : P.underlying tn = some (.int kn)) (hi : tinfo P e = some (some z, 1, by_)) (hz : one z = true) (h0 : 0 < k) (h63 : k ≤ maxLen) (hby : k * by_ ≤ 281474976710656)
    (hg : wantedF ops F ⟨dst, .call ⟨.builtin .append, #[s, x], #[t, tn]⟩, ty, pos, after, g⟩ = true)
    (h : ∀ w' b c l, b = w.heap.size → Blk w' b l e → l.length = c → k ≤ c → c ≤ maxLen → Keep All w w' → w'.heap.size = b + 1 → OpsW f0 c0 P n ops rest (updo n F dst (.slice (some ⟨b, 0, none⟩) k c)) w' K) :
    OpsW f0 c0 P n ops (⟨dst, .call ⟨.builtin .append, #[s, x], #[t, tn]⟩, ty, pos, after, g⟩ :: rest) F w K := by
  obtain ⟨i, hi1, hi2, hi3, hi4⟩ := tinfo_info hi
  have hr := Lib.run_append_nil_zeros (P := P) w t tn ty e i z .i64 kn ht htn hi1 hi2 k h0 (by omega) (by unfold maxLen at h63; omega) (by rw [hi4]; exact hby)
  have hge := grownCap_ge w k 0 e
  have hle := grownCap_le_maxLen w k 0 e (by first | exact h63 | (unfold maxLen at h63; omega))
  have hzs : z.cells.size = 1 := by rw [cells_one hz]; rfl
  refine op_run0 (v := .slice (some ⟨w.heap.size, 0, none⟩) k (grownCap w k 0 e)) ?_ hg (h (w.drew.alloc (.cells (Builtin.zeroCells z.cells k ++ Builtin.zeroCells z.cells (grownCap w k 0 e - k)) e)) w.heap.size (grownCap w k 0 e) (Builtin.zeroCells z.cells k ++ Builtin.zeroCells z.cells (grownCap w k 0 e - k)).toList rfl ?_ ?_ hge hle ((Keep.drawn w).trans (Keep.alloc w.drew _)) ?_)
  · (try unfold Run1); simp [execOp, resolve, invoke, builtin, hs, hx, hr]
  · show _ = _
    rw [Array.toArray_toList]
    exact heap_alloc_new w.drew _
  · simp only [Array.length_toList, Array.size_append, size_zeroCells, hzs]; omega
  · exact size_alloc w.drew _
end
theorem sl_GrowN (w : World) (n : Nat) (hn : n ≤ 2 ^ 40) : Ret Tryd.prog 60 [.slice none 0 0, .int .i64 n].toArray w fun r w' => Own w' 5 1 r 0 [] ∧ InB (fun z => w.heap.size ≤ z) r ∧ Keep All w w' := by
  refine enter (fn := Tryd.f60) (n := 27) Tryd.func60 rfl rfl (by simp) ?_
  refine W_seq ?_
  refine W_region ?_
  refine o_asc rfl ?_
  refine ops_nil ?_
  refine W_seq ?_
  refine W_seq ?_
  refine W_region ?_
  refine o_mvt rfl ?_
  refine op_run (r_lss rfl rfl) rfl ?_
  refine ops_nil ?_
  refine W_no rfl (decide_eq_false (by omega)) ?_
  refine W_skip ?_
  refine W_seq ?_
  refine W_seq ?_
  refine W_region ?_
  refine o_mvt rfl ?_
  refine o_mvt rfl ?_
  refine op_run (r_cap rfl rfl rfl) rfl ?_
  refine o_mvt rfl ?_
  refine op_run (r_len rfl rfl rfl) rfl ?_
  refine op_run ((r_sub rfl rfl).val (congrArg (Value.int .i64) (show IntKind.i64.wrap (((0 : Nat) : Int) - ((0 : Nat) : Int)) = 0 from by decide))) rfl ?_
  refine op_run ((r_sub rfl rfl).val (congrArg (Value.int .i64) (show IntKind.i64.wrap ((n : Int) - 0) = (n : Int) from (wrap_i64 (by omega) (by omega)).trans (by omega)))) rfl ?_
  refine o_ast rfl ?_
  refine ops_nil ?_
  refine W_seq ?_
  refine W_region ?_
  refine o_mvt rfl ?_
  refine op_run (r_gtr rfl rfl) rfl ?_
  refine ops_nil ?_
  refine W_cond_p rfl (fun h10 => ?_) (fun h10 => ?_)
  · refine W_region ?_
    refine o_mvt rfl ?_
    refine o_mvt rfl ?_
    refine op_run (r_cap rfl rfl rfl) rfl ?_
    refine op_run (r_sliceS_hi rfl rfl rfl rfl (by decide) (by decide)) rfl ?_
    refine o_mvt rfl ?_
    refine o_zeros (k := n) rfl rfl rfl rfl ti_u8 rfl (by omega) (by unfold maxLen; omega) (by omega) rfl ?_; intro w12 b12 c12 l12 e12 hB12 hl12 hn12 hm12 hk12 hs12
    refine o_mvt rfl ?_
    refine op_run (r_len rfl rfl rfl) rfl ?_
    refine op_run (r_sliceS_hi rfl rfl rfl rfl (by decide) (by omega)) rfl ?_
    refine o_ast rfl ?_
    refine ops_nil ?_
    refine W_seq ?_
    refine W_region ?_
    refine o_mvt rfl ?_
    refine o_ast rfl ?_
    refine ops_nil ?_
    refine W_ret ?_
    refine ret1 (subSl (some ⟨b12, 0, none⟩) 1 0 0 c12) rfl ?_ ?_; rfl
    have hO : Own w12 5 1 (.slice (some ⟨b12, 0, none⟩) 0 c12) 0 [] := ⟨rfl, .inr ⟨b12, c12, l12.toArray, rfl, Nat.zero_le _, hB12, Nat.zero_le _, hm12, by simpa using hl12, rfl⟩⟩
    have e : subSl (some ⟨b12, 0, none⟩) 1 0 0 c12 = .slice (some ⟨b12, 0, none⟩) 0 c12 := by
      unfold subSl
      split
      · rfl
      · rw [Option.map_some, Nat.zero_mul, Addr.add_zero']; rfl
    rw [e]
    exact ⟨hO, fun z hz => by obtain rfl : b12 = z := Option.some.inj hz; omega, hk12⟩
  · refine W_skip ?_
    refine W_seq ?_
    refine W_region ?_
    refine o_mvt rfl ?_
    refine o_ast rfl ?_
    refine ops_nil ?_
    refine W_ret ?_
    refine ret1 (.slice none 0 0) rfl ?_ ?_; rfl
    exact ⟨own_nil _ _ _, InB.nil, Keep.refl _⟩
/-- Rows, each with the values in it. -/
def Groups (w : World) (gs : List (Value × List Value)) : Prop := ∀ x ∈ gs, Sl w x.1 x.2.length 1 x.2 ∧ x.2.all one = true
theorem Groups.k {w w' : World} {gs : List (Value × List Value)} (h : Groups w gs) (hk : Keep All w w') : Groups w' gs := fun x hx => ⟨(h x hx).1.keepE hk fun _ _ => trivial, (h x hx).2⟩
def flatG (gs : List (Value × List Value)) : List Value := gs.flatMap (·.2)
theorem flatG_s {gs : List (Value × List Value)} {k : Nat} {x : Value × List Value} (h : gs[k]? = some x) : flatG (gs.take (k + 1)) = flatG (gs.take k) ++ x.2 := by
  obtain ⟨h1, h2⟩ := List.getElem?_eq_some_iff.1 h
  unfold flatG; rw [List.take_succ_eq_append_getElem h1, List.flatMap_append, h2]; simp
theorem flatG_le (gs : List (Value × List Value)) (k : Nat) : (flatG (gs.take k)).length ≤ (flatG gs).length := by
  conv => rhs; rw [← List.take_append_drop k gs]
  unfold flatG; rw [List.flatMap_append, List.length_append]; omega
theorem sl_ConcatN (w : World) (v : Value) (gs : List (Value × List Value)) (hv : Sl w v gs.length 1 (gs.map (·.1))) (hg : Groups w gs) (hl : (flatG gs).length ≤ 2 ^ 40) (hgl : gs.length ≤ 2 ^ 40) :
    Ret Tryd.prog 55 [v].toArray w fun r w' => Own w' 5 1 r (flatG gs).length (flatG gs) ∧ InB (fun z => w.heap.size ≤ z) r ∧ Keep All w w' := by
  obtain ⟨a0, c0, rfl, hc0, hcm0⟩ := hv.form
  refine enter (fn := Tryd.f55) (n := 36) Tryd.func55 rfl rfl (by simp) ?_
  refine W_seq ?_
  refine W_region ?_
  refine o_asc rfl ?_
  refine ops_nil ?_
  refine W_seq ?_
  refine W_region ?_
  refine o_asc rfl ?_
  refine ops_nil ?_
  refine W_seq ?_
  refine W_seq ?_
  refine W_region ?_
  refine o_mvt rfl ?_
  refine op_run (r_len rfl rfl rfl) rfl ?_
  refine o_mvc rfl ?_
  refine ops_nil ?_
  refine W_block ?_
  refine W_loop [3, 11] [3, 5, 11, 12, 13, 14, 15, 16, 17, 18, 19, 20, 21, 22] (fun vs w' => ∃ k : Nat, vs = [.int .i64 (flatG (gs.take k)).length, .int .i64 k] ∧ k ≤ gs.length ∧ w' = w) (fun vs _ => match vs with | [_, .int _ y] => gs.length - y.toNat | _ => 0) ⟨0, rfl, Nat.zero_le _, rfl⟩ ?_
  rintro J1 vs w1 ⟨k, rfl, hk, rfl⟩ -
  refine W_seq ?_
  refine W_region ?_
  refine op_run (r_lss rfl rfl) rfl ?_
  refine ops_nil ?_
  refine W_seq ?_
  refine W_cond_p rfl (fun h2 => ?_) (fun h2 => ?_)
  · refine W_skip ?_
    refine W_seq ?_
    refine W_block ?_
    refine W_seq ?_
    refine W_region ?_
    have hkl : k < gs.length := by omega
    obtain ⟨x, hx⟩ : ∃ x, gs[k]? = some x := ⟨_, List.getElem?_eq_getElem hkl⟩
    have hxm := hg x (List.mem_of_getElem? hx)
    obtain ⟨ax, cx, ex, _, _⟩ := hxm.1.form
    obtain ⟨bp, op, cp, ep, _, _, hc⟩ := hv.at (by omega)
    cases ep
    have hcell := hc k x.1 (by rw [List.getElem?_map, hx]; rfl)
    rw [ex] at hcell
    have hle := flatG_le gs (k + 1)
    have hs := flatG_s hx
    have hsl := congrArg List.length hs
    rw [List.length_append] at hsl
    refine op_run (r_idxS1 rfl rfl rfl rfl (by omega) (by omega)) rfl ?_
    refine op_run (r_load rfl rfl rfl (by rw [Int.toNat_natCast]; exact hcell)) rfl ?_
    refine o_ast rfl ?_
    refine ops_nil ?_
    refine W_seq ?_
    refine W_region ?_
    refine o_mvt rfl ?_
    refine o_mvt rfl ?_
    refine op_run (r_len rfl rfl rfl) rfl ?_
    refine op_run ((r_add rfl rfl).val (congrArg (Value.int .i64) (show IntKind.i64.wrap (((flatG (gs.take k)).length : Int) + ((x.2.length : Nat) : Int)) = ((flatG (gs.take (k + 1))).length : Int) from by rw [flatG_s hx, List.length_append]; exact (wrap_i64 (by omega) (by omega)).trans (by omega)))) rfl ?_
    refine o_ast rfl ?_
    refine ops_nil ?_
    refine W_seq ?_
    refine W_region ?_
    refine o_mvt rfl ?_
    refine op_run (r_lss rfl rfl) rfl ?_
    refine ops_nil ?_
    refine W_no rfl (decide_eq_false (by omega)) ?_
    refine W_skip ?_
    refine W_region ?_
    refine op_run (r_add rfl rfl) rfl ?_
    refine o_mvt rfl ?_
    refine ops_nil ?_
    have hinc := inc64' k (by omega)
    refine ⟨by (repeat (first | with_reducible exact offM_refl _ _ | refine offM_updc rfl ?_ | refine offM_upd rfl ?_ | refine offM_updo rfl ?_ | refine offM_updo_none ?_ | refine offM_head rfl rfl ?_)), ⟨k + 1, congrArg (fun z : Int => [Value.int .i64 (flatG (gs.take (k + 1))).length, Value.int .i64 z]) hinc, by omega, rfl⟩, ?_⟩
    show gs.length - (IntKind.i64.wrap ((k : Int) + 1)).toNat < gs.length - (k : Int).toNat
    rw [hinc]; omega
  · refine W_exit ?_
    refine W_seq ?_
    refine W_region ?_
    refine o_mvt rfl ?_
    have hke : k = gs.length := by omega
    subst hke
    have hle0 := flatG_le gs gs.length
    refine op_call rfl rfl rfl (sl_GrowN w1 (flatG (gs.take gs.length)).length (by omega)) ?_; rintro v10 w10 ⟨hO10, hin10, hk10⟩
    refine o_ast rfl ?_
    refine ops_nil ?_
    refine W_seq ?_
    refine W_seq ?_
    refine W_region ?_
    refine o_mvt rfl ?_
    refine op_run (r_len rfl rfl rfl) rfl ?_
    refine o_mvc rfl ?_
    refine ops_nil ?_
    refine W_block ?_
    refine W_loop [6, 27] [6, 8, 27, 28, 29, 30, 31, 32, 33, 34] (fun vs w' => ∃ (k : Nat) (u : Value), vs = [u, .int .i64 k] ∧ k ≤ gs.length ∧ Own w' 5 1 u (flatG (gs.take k)).length (flatG (gs.take k)) ∧ InB (fun z => w1.heap.size ≤ z) u ∧ Keep All w1 w') (fun vs _ => match vs with | [_, .int _ y] => gs.length - y.toNat | _ => 0) ⟨0, _, rfl, Nat.zero_le _, hO10, hin10, hk10⟩ ?_
    rintro J11 vs w11 ⟨k, u, rfl, hk, hO, hin, hkw⟩ -
    refine W_seq ?_
    refine W_region ?_
    refine op_run (r_lss rfl rfl) rfl ?_
    refine ops_nil ?_
    refine W_seq ?_
    refine W_cond_p rfl (fun h12 => ?_) (fun h12 => ?_)
    · refine W_skip ?_
      refine W_seq ?_
      refine W_block ?_
      refine W_seq ?_
      refine W_region ?_
      have hkl : k < gs.length := by omega
      obtain ⟨x, hx⟩ : ∃ x, gs[k]? = some x := ⟨_, List.getElem?_eq_getElem hkl⟩
      have hxm := hg x (List.mem_of_getElem? hx)
      obtain ⟨bp, op, cp, ep, _, _, hc⟩ := hv.at (by omega)
      cases ep
      have hcell := hkw.cell (hc k x.1 (by rw [List.getElem?_map, hx]; rfl)) trivial
      have hle := flatG_le gs (k + 1)
      have hs := flatG_s hx
      have hsl := congrArg List.length hs
      rw [List.length_append] at hsl
      refine op_run (r_idxS1 rfl rfl rfl rfl (by omega) (by omega)) rfl ?_
      refine op_run (r_load rfl rfl rfl (by rw [Int.toNat_natCast]; exact hcell)) rfl ?_
      refine o_ast rfl ?_
      refine ops_nil ?_
      refine W_region ?_
      refine o_mvt rfl ?_
      refine o_mvt rfl ?_
      refine o_appS (v := u) rfl rfl (hxm.1.keepE hkw fun _ _ => trivial) rfl ti_u8 rfl rfl hO hxm.2 (by unfold maxLen; omega) (by omega) rfl ?_; intro v15 w15 hown15 hk15 hb15
      have hO15 : Own w15 5 1 v15 (flatG (gs.take (k + 1))).length (flatG (gs.take (k + 1))) := by rw [hs, List.length_append]; exact hown15
      refine o_ast rfl ?_
      refine ops_nil ?_
      refine W_region ?_
      refine op_run (r_add rfl rfl) rfl ?_
      refine o_mvt rfl ?_
      refine ops_nil ?_
      have hinc := inc64' k (by omega)
      have hzw := hkw.size
      refine ⟨by (repeat (first | with_reducible exact offM_refl _ _ | refine offM_updc rfl ?_ | refine offM_upd rfl ?_ | refine offM_updo rfl ?_ | refine offM_updo_none ?_ | refine offM_head rfl rfl ?_)), ⟨k + 1, v15, congrArg (fun z : Int => [v15, Value.int .i64 z]) hinc, by omega, hO15, fun z hz => ?_, hkw.own hk15 (fun z hz _ => hin z hz)⟩, ?_⟩
      · rcases hb15 z hz with h | h
        · exact hin z h
        · omega
      · show gs.length - (IntKind.i64.wrap ((k : Int) + 1)).toNat < gs.length - (k : Int).toNat
        rw [hinc]; omega
    · refine W_exit ?_
      refine W_seq ?_
      refine W_region ?_
      refine o_mvt rfl ?_
      refine o_ast rfl ?_
      refine ops_nil ?_
      refine W_ret ?_
      have hke : k = gs.length := by omega
      subst hke
      rw [List.take_length] at hO
      refine ret1 u rfl ?_ ?_; rfl
      exact ⟨hO, hin, hkw⟩
theorem flatG_by : ∀ (gs : List (Value × List UInt8)), flatG (gs.map fun x => (x.1, x.2.map c8)) = (gs.flatMap (·.2)).map c8
  | [] => rfl
  | x :: l => by
    have h := flatG_by l
    unfold flatG at h ⊢
    rw [List.map_cons, List.flatMap_cons, List.flatMap_cons, List.map_append, h]
/-- Bytes, one row behind the other. -/
theorem sl_ConcatB (w : World) (v : Value) (gs : List (Value × List UInt8)) (hv : Sl w v gs.length 1 (gs.map (·.1))) (hg : ∀ x ∈ gs, By w x.1 x.2) (hl : (gs.flatMap (·.2)).length ≤ 2 ^ 40) (hgl : gs.length ≤ 2 ^ 40) :
    Ret Tryd.prog 55 [v].toArray w fun r w' => OwnB w' 5 r (gs.flatMap (·.2)) ∧ InB (fun z => w.heap.size ≤ z) r ∧ Keep All w w' := by
  have h := sl_ConcatN w v (gs.map fun x => (x.1, x.2.map c8)) (by rw [List.length_map, List.map_map]; exact hv) (fun x hx => by
    obtain ⟨y, hy, rfl⟩ := List.mem_map.1 hx
    exact ⟨by show Sl w y.1 (y.2.map c8).length 1 (y.2.map c8); rw [List.length_map]; exact hg y hy, all_c8 _⟩) (by rw [flatG_by, List.length_map]; exact hl) (by rw [List.length_map]; exact hgl)
  rw [flatG_by, List.length_map] at h
  exact h
end Go.Proofs.YtpiidddccmohdabDoor.B
