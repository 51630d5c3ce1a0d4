/-
  slices.Concat of rows of bytes.
-/
import Derived.Test.YtigehkfdfecfoaaDoorAud3
namespace Go.Proofs.YtigehkfdfecfoaaDoor.B
open Go
set_option linter.unusedVariables false
set_option maxHeartbeats 2000000
set_option maxRecDepth 100000
attribute [local irreducible] W OpsW OpsQ retP
/-- Rows, each with the values in it. -/
def Groups (w : World) (gs : List (Value × List Value)) : Prop := ∀ x ∈ gs, Sl w x.1 x.2.length 1 x.2 ∧ x.2.all one = true
theorem Groups.k {w w' : World} {gs : List (Value × List Value)} (h : Groups w gs) (hk : Keep All w w') : Groups w' gs := fun x hx => ⟨(h x hx).1.keepE hk fun _ _ => trivial, (h x hx).2⟩
def flatG (gs : List (Value × List Value)) : List Value := gs.flatMap (·.2)
theorem flatG_s {gs : List (Value × List Value)} {k : Nat} {x : Value × List Value} (h : gs[k]? = some x) : flatG (gs.take (k + 1)) = flatG (gs.take k) ++ x.2 := by
  obtain ⟨h1, h2⟩ := List.getElem?_eq_some_iff.1 h
  unfold flatG; rw [List.take_succ_eq_append_getElem h1, List.flatMap_append, h2]; simp
theorem flatG_le (gs : List (Value × List Value)) (k : Nat) : (flatG (gs.take k)).length ≤ (flatG gs).length := by
  conv => rhs; rw [← List.take_append_drop k gs]
  unfold flatG; rw [List.flatMap_append, List.length_append]; omega
theorem sl_ConcatN (w : World) (v : Value) (gs : List (Value × List Value)) (hv : Sl w v gs.length 1 (gs.map (·.1))) (hg : Groups w gs) (hl : (flatG gs).length ≤ 2 ^ 40) (hgl : gs.length ≤ 2 ^ 40) :
    Ret Tryd.prog 20 [v].toArray w fun r w' => Own w' 34 1 r (flatG gs).length (flatG gs) ∧ InB (fun z => w.heap.size ≤ z) r ∧ Keep All w w' := by
  obtain ⟨a0, c0, rfl, hc0, hcm0⟩ := hv.form
  refine enter (fn := Tryd.f20) (n := 36) Tryd.func20 rfl rfl (by simp) ?_
  refine W_seq ?_
  refine W_region ?_
  refine o_asc rfl ?_
  refine ops_nil ?_
  refine W_seq ?_
  refine W_region ?_
  refine o_asc rfl ?_
  refine ops_nil ?_
  refine W_seq ?_
  refine W_seq ?_
  refine W_region ?_
  refine o_mvt rfl ?_
  refine op_run (r_len rfl rfl rfl) rfl ?_
  refine o_mvc rfl ?_
  refine ops_nil ?_
  refine W_block ?_
  refine W_loop [3, 11] [3, 5, 11, 12, 13, 14, 15, 16, 17, 18, 19, 20, 21, 22] (fun vs w' => ∃ k : Nat, vs = [.int .i64 (flatG (gs.take k)).length, .int .i64 k] ∧ k ≤ gs.length ∧ w' = w) (fun vs _ => match vs with | [_, .int _ y] => gs.length - y.toNat | _ => 0) ⟨0, rfl, Nat.zero_le _, rfl⟩ ?_
  rintro J1 vs w1 ⟨k, rfl, hk, rfl⟩ -
  refine W_seq ?_
  refine W_region ?_
  refine op_run (r_lss rfl rfl) rfl ?_
  refine ops_nil ?_
  refine W_seq ?_
  refine W_cond_p rfl (fun h2 => ?_) (fun h2 => ?_)
  · refine W_skip ?_
    refine W_seq ?_
    refine W_block ?_
    refine W_seq ?_
    refine W_region ?_
    have hkl : k < gs.length := by omega
    obtain ⟨x, hx⟩ : ∃ x, gs[k]? = some x := ⟨_, List.getElem?_eq_getElem hkl⟩
    have hxm := hg x (List.mem_of_getElem? hx)
    obtain ⟨ax, cx, ex, _, _⟩ := hxm.1.form
    obtain ⟨bp, op, cp, ep, _, _, hc⟩ := hv.at (by omega)
    cases ep
    have hcell := hc k x.1 (by rw [List.getElem?_map, hx]; rfl)
    rw [ex] at hcell
    have hle := flatG_le gs (k + 1)
    have hs := flatG_s hx
    have hsl := congrArg List.length hs
    rw [List.length_append] at hsl
    refine op_run (r_idxS1 rfl rfl rfl rfl (by omega) (by omega)) rfl ?_
    refine op_run (r_load rfl rfl rfl (by rw [Int.toNat_natCast]; exact hcell)) rfl ?_
    refine o_ast rfl ?_
    refine ops_nil ?_
    refine W_seq ?_
    refine W_region ?_
    refine o_mvt rfl ?_
    refine o_mvt rfl ?_
    refine op_run (r_len rfl rfl rfl) rfl ?_
    refine op_run ((r_add rfl rfl).val (congrArg (Value.int .i64) (show IntKind.i64.wrap (((flatG (gs.take k)).length : Int) + ((x.2.length : Nat) : Int)) = ((flatG (gs.take (k + 1))).length : Int) from by rw [flatG_s hx, List.length_append]; exact (wrap_i64 (by omega) (by omega)).trans (by omega)))) rfl ?_
    refine o_ast rfl ?_
    refine ops_nil ?_
    refine W_seq ?_
    refine W_region ?_
    refine o_mvt rfl ?_
    refine op_run (r_lss rfl rfl) rfl ?_
    refine ops_nil ?_
    refine W_no rfl (decide_eq_false (by omega)) ?_
    refine W_skip ?_
    refine W_region ?_
    refine op_run (r_add rfl rfl) rfl ?_
    refine o_mvt rfl ?_
    refine ops_nil ?_
    have hinc := inc64' k (by omega)
    refine ⟨by (repeat (first | with_reducible exact offM_refl _ _ | refine offM_updc rfl ?_ | refine offM_upd rfl ?_ | refine offM_updo rfl ?_ | refine offM_updo_none ?_ | refine offM_head rfl rfl ?_)), ⟨k + 1, congrArg (fun z : Int => [Value.int .i64 (flatG (gs.take (k + 1))).length, Value.int .i64 z]) hinc, by omega, rfl⟩, ?_⟩
    show gs.length - (IntKind.i64.wrap ((k : Int) + 1)).toNat < gs.length - (k : Int).toNat
    rw [hinc]; omega
  · refine W_exit ?_
    refine W_seq ?_
    refine W_region ?_
    refine o_mvt rfl ?_
    have hke : k = gs.length := by omega
    subst hke
    have hle0 := flatG_le gs gs.length
    refine op_call rfl rfl rfl (sl_GrowN w1 (flatG (gs.take gs.length)).length (by omega)) ?_; rintro v10 w10 ⟨hO10, hin10, hk10⟩
    refine o_ast rfl ?_
    refine ops_nil ?_
    refine W_seq ?_
    refine W_seq ?_
    refine W_region ?_
    refine o_mvt rfl ?_
    refine op_run (r_len rfl rfl rfl) rfl ?_
    refine o_mvc rfl ?_
    refine ops_nil ?_
    refine W_block ?_
    refine W_loop [6, 27] [6, 8, 27, 28, 29, 30, 31, 32, 33, 34] (fun vs w' => ∃ (k : Nat) (u : Value), vs = [u, .int .i64 k] ∧ k ≤ gs.length ∧ Own w' 34 1 u (flatG (gs.take k)).length (flatG (gs.take k)) ∧ InB (fun z => w1.heap.size ≤ z) u ∧ Keep All w1 w') (fun vs _ => match vs with | [_, .int _ y] => gs.length - y.toNat | _ => 0) ⟨0, _, rfl, Nat.zero_le _, hO10, hin10, hk10⟩ ?_
    rintro J11 vs w11 ⟨k, u, rfl, hk, hO, hin, hkw⟩ -
    refine W_seq ?_
    refine W_region ?_
    refine op_run (r_lss rfl rfl) rfl ?_
    refine ops_nil ?_
    refine W_seq ?_
    refine W_cond_p rfl (fun h12 => ?_) (fun h12 => ?_)
    · refine W_skip ?_
      refine W_seq ?_
      refine W_block ?_
      refine W_seq ?_
      refine W_region ?_
      have hkl : k < gs.length := by omega
      obtain ⟨x, hx⟩ : ∃ x, gs[k]? = some x := ⟨_, List.getElem?_eq_getElem hkl⟩
      have hxm := hg x (List.mem_of_getElem? hx)
      obtain ⟨bp, op, cp, ep, _, _, hc⟩ := hv.at (by omega)
      cases ep
      have hcell := hkw.cell (hc k x.1 (by rw [List.getElem?_map, hx]; rfl)) trivial
      have hle := flatG_le gs (k + 1)
      have hs := flatG_s hx
      have hsl := congrArg List.length hs
      rw [List.length_append] at hsl
      refine op_run (r_idxS1 rfl rfl rfl rfl (by omega) (by omega)) rfl ?_
      refine op_run (r_load rfl rfl rfl (by rw [Int.toNat_natCast]; exact hcell)) rfl ?_
      refine o_ast rfl ?_
      refine ops_nil ?_
      refine W_region ?_
      refine o_mvt rfl ?_
      refine o_mvt rfl ?_
      refine o_appS (v := u) rfl rfl (hxm.1.keepE hkw fun _ _ => trivial) rfl ti_bss3 rfl rfl hO hxm.2 (by unfold maxLen; omega) (by omega) rfl ?_; intro v15 w15 hown15 hk15 hb15
      have hO15 : Own w15 34 1 v15 (flatG (gs.take (k + 1))).length (flatG (gs.take (k + 1))) := by rw [hs, List.length_append]; exact hown15
      refine o_ast rfl ?_
      refine ops_nil ?_
      refine W_region ?_
      refine op_run (r_add rfl rfl) rfl ?_
      refine o_mvt rfl ?_
      refine ops_nil ?_
      have hinc := inc64' k (by omega)
      have hzw := hkw.size
      refine ⟨by (repeat (first | with_reducible exact offM_refl _ _ | refine offM_updc rfl ?_ | refine offM_upd rfl ?_ | refine offM_updo rfl ?_ | refine offM_updo_none ?_ | refine offM_head rfl rfl ?_)), ⟨k + 1, v15, congrArg (fun z : Int => [v15, Value.int .i64 z]) hinc, by omega, hO15, fun z hz => ?_, hkw.own hk15 (fun z hz _ => hin z hz)⟩, ?_⟩
      · rcases hb15 z hz with h | h
        · exact hin z h
        · omega
      · show gs.length - (IntKind.i64.wrap ((k : Int) + 1)).toNat < gs.length - (k : Int).toNat
        rw [hinc]; omega
    · refine W_exit ?_
      refine W_seq ?_
      refine W_region ?_
      refine o_mvt rfl ?_
      refine o_ast rfl ?_
      refine ops_nil ?_
      refine W_ret ?_
      have hke : k = gs.length := by omega
      subst hke
      rw [List.take_length] at hO
      refine ret1 u rfl ?_ ?_; rfl
      exact ⟨hO, hin, hkw⟩
end Go.Proofs.YtigehkfdfecfoaaDoor.B
