/-
  model: add, copied.
-/
import Derived.Test.YtkckphbdjkjfgaaMod3
import Derived.Shelf.SlMaps.Clone
import Derived.Ground.SlmcProg
namespace Go.Proofs
open Go.Shelf
def Try.cloneIB_ren : Go.Shelf.Ren := ⟨fun | 5 => 39 | 7 => 47 | n => n, fun | 23 => 61 | 25 => 3 | 3 => 24 | 4 => 4 | 20 => 20 | n => n, fun | n => n⟩
theorem Try.cloneIB : Go.Proofs.SlLaysW.n5 Try.prog Try.cloneIB_ren := {
  mixed := by kernel_rfl
  f5 := ⟨Try.f39.name, by decide, Try.func39.trans (congrArg some (by kernel_rfl))⟩
  f7 := Try.func47.trans (congrArg some (by kernel_rfl))
  t4 := Try.underlying4
  a4 := Try.isAgg4
  z4 := Try.sizeOf4
  v4 := Try.zeroValue4
  t20 := Try.underlying20
  a20 := Try.isAgg20
  z20 := Try.sizeOf20
  v20 := Try.zeroValue20
  t23 := Try.underlying61
  a23 := Try.isAgg61
  z23 := Try.sizeOf61
  v23 := Try.zeroValue61 }
end Go.Proofs
namespace Go.Proofs.Ytkckphbdjkjfgaa.B
open Go
set_option linter.unusedVariables false
set_option maxHeartbeats 2000000
set_option maxRecDepth 100000
attribute [local irreducible] W OpsW OpsQ retP
theorem md_Clone (w : World) (b : Nat) (l : List (Int × Value)) (h : MapG intK w b l) : Ret Try.prog 39 [.map (some b)].toArray w fun r w' => r = .map (some w.heap.size) ∧ MapG intK w' w.heap.size l ∧ Keep All w w' := by
  obtain ⟨es, cl, h1, h2⟩ := h
  refine (AnyW.maps_Clone Try.cloneIB b es cl w h1).mono ?_
  rintro e w' ⟨rfl, rfl⟩
  exact ⟨_, rfl, rfl, ⟨es, cl, heap_alloc_new w _, h2⟩, Keep.alloc w _⟩
def addE {β : Type} (l : List (List UInt8 × β)) (nm : List UInt8) (q : Int) (code : Int) (n : Nat) : Int :=
  if ¬ namedB nm ∨ q < 0 ∨ 1048576 < q then 1 else if code ≠ 0 then code else if (lookP l nm).isSome = true then 6 else if q < n then 8 else 0
theorem addE_ok {β : Type} {l : List (List UInt8 × β)} {nm : List UInt8} {q code : Int} {n : Nat} (h : addE l nm q code n = 0) : code = 0 ∧ namedB nm ∧ 0 ≤ q ∧ q ≤ 1048576 ∧ lookP l nm = none ∧ (n : Int) ≤ q := by
  unfold addE at h
  split at h
  · cases h
  · rename_i h1
    split at h
    · rename_i h2; exact absurd h h2
    · rename_i h2
      split at h
      · cases h
      · rename_i h3
        split at h
        · cases h
        · rename_i h4
          refine ⟨by omega, Classical.byContradiction fun hn => h1 (.inl hn), by omega, by omega, ?_, by omega⟩
          cases hl : lookP l nm with
          | none => rfl
          | some v => rw [hl] at h3; exact absurd rfl h3
theorem md_add (w : World) (mb bm vb : Nat) (l : ModL) (nm : List UInt8) (q code : Int) (fr : Bool) (xo : Option Nat) (n : Nat) (h : ModW w mb bm l) (hl : nm.length ≤ 2 ^ 40) (hV : Blk w vb [.int .i64 q, .bool fr, .map xo] 63) (hX : code = 0 → ∃ xb bl, xo = some xb ∧ MapG intK w xb bl ∧ bl.length = n) :
    Ret Try.prog 24 [.pointer (some ⟨mb, 0, none⟩), strA nm, .pointer (some ⟨vb, 0, none⟩), .int .i64 code].toArray w fun r w' => r = .int .i64 (addE l nm q code n) ∧ (addE l nm q code n ≠ 0 → Keep All w w') ∧ (addE l nm q code n = 0 → MapG strA w' bm (mapP ptrV l ++ [(nm, .pointer (some ⟨vb, 0, none⟩))]) ∧ Keep (· ≠ bm) w w') := by
  obtain ⟨pv, th, hlk, hth⟩ := look_vol l nm
  refine enter (fn := Try.f24) (n := 61) Try.func24 rfl rfl (by simp) ?_
  refine W_seq ?_
  refine W_region ?_
  refine o_asc rfl ?_
  refine ops_nil ?_
  refine W_seq ?_
  refine W_region ?_
  refine o_mvt rfl ?_
  refine op_run (r_nilCheck rfl) rfl ?_
  refine op_run (r_fieldAddr rfl rfl rfl rfl rfl) rfl ?_
  refine op_run (r_load rfl rfl rfl (h.m.cell rfl)) rfl ?_
  refine o_mvt rfl ?_
  refine op_run ((r_lookupGok (a := nm) (keyOk_strA rfl) rfl rfl rfl ti_ptrV (h.vs)).val (hlk)) rfl ?_
  refine o_mvt rfl ?_
  refine op_run (r_extract rfl rfl) rfl ?_
  refine op_run (r_extract rfl rfl) rfl ?_
  refine o_ast rfl ?_
  refine o_ast rfl ?_
  refine ops_nil ?_
  refine W_seq ?_
  refine W_block ?_
  refine W_cut [20] [20, 21, 22, 23, 24, 25, 26, 27, 28, 29, 30, 31, 32, 33, 34, 35, 36, 37] (fun vs w3 => vs = [.bool (decide (¬ namedB nm ∨ q < 0 ∨ 1048576 < q))] ∧ w3 = w) ?_ ?_
  · refine W_region ?_
    refine o_mvt rfl ?_
    refine op_call rfl rfl rfl (md_named w nm hl) ?_; rintro v4 w4 ⟨rfl, rfl⟩
    refine op_run (r_not rfl) rfl ?_
    refine o_mvt rfl ?_
    refine g_split rfl rfl rfl (fun g5 => ?_) (fun g5 => ?_)
    · refine o_mvt (g_yes rfl rfl rfl (by rw [g5] <;> rfl)) ?_
      refine op_run (r_nilCheck rfl) (g_yes rfl rfl rfl (by rw [g5] <;> rfl)) ?_
      refine op_run (r_fieldAddr rfl rfl rfl rfl rfl) (g_yes rfl rfl rfl (by rw [g5] <;> rfl)) ?_
      refine op_run (r_load rfl rfl rfl (hV.cell rfl)) (g_yes rfl rfl rfl (by rw [g5] <;> rfl)) ?_
      refine op_run (r_lss rfl rfl) (g_yes rfl rfl rfl (by rw [g5] <;> rfl)) ?_
      refine o_pkFt rfl (by rw [g5] <;> rfl) rfl ?_
      refine o_mvt rfl ?_
      refine g_split rfl rfl rfl (fun g7 => ?_) (fun g7 => ?_)
      · refine o_mvt (g_yes rfl rfl rfl g7) ?_
        refine op_run (r_nilCheck rfl) (g_yes rfl rfl rfl g7) ?_
        refine op_run (r_fieldAddr rfl rfl rfl rfl rfl) (g_yes rfl rfl rfl g7) ?_
        refine op_run (r_load rfl rfl rfl (hV.cell rfl)) (g_yes rfl rfl rfl g7) ?_
        refine op_run (r_gtr rfl rfl) (g_yes rfl rfl rfl g7) ?_
        refine o_pkFt rfl g7 rfl ?_
        refine o_ast rfl ?_
        refine ops_nil ?_
        exact ⟨by (repeat (first | with_reducible exact offM_refl _ _ | refine offM_updc rfl ?_ | refine offM_upd rfl ?_ | refine offM_updo rfl ?_ | refine offM_updo_none ?_ | refine offM_head rfl rfl ?_)), congrArg (fun b => [Value.bool b]) (by have g := of_decide_eq_false g7; have g' : namedB nm := (by simpa using g5); rw [decide_eq_decide]; constructor <;> intro h; exact .inr (.inr h); rcases h with h | h | h; exact absurd g' h; omega; exact h), rfl⟩
      · refine op_skip (g_no rfl rfl rfl g7) ?_
        refine op_skip (g_no rfl rfl rfl g7) ?_
        refine op_skip (g_no rfl rfl rfl g7) ?_
        refine op_skip (g_no rfl rfl rfl g7) ?_
        refine op_skip (g_no rfl rfl rfl g7) ?_
        refine o_pkTc rfl g7 rfl ?_
        refine o_ast rfl ?_
        refine ops_nil ?_
        exact ⟨by (repeat (first | with_reducible exact offM_refl _ _ | refine offM_updc rfl ?_ | refine offM_upd rfl ?_ | refine offM_updo rfl ?_ | refine offM_updo_none ?_ | refine offM_head rfl rfl ?_)), congrArg (fun b => [Value.bool b]) (by have g := of_decide_eq_true g7; symm; apply decide_eq_true; exact .inr (.inl g)), rfl⟩
    · refine op_skip (g_no rfl rfl rfl (by rw [g5] <;> rfl)) ?_
      refine op_skip (g_no rfl rfl rfl (by rw [g5] <;> rfl)) ?_
      refine op_skip (g_no rfl rfl rfl (by rw [g5] <;> rfl)) ?_
      refine op_skip (g_no rfl rfl rfl (by rw [g5] <;> rfl)) ?_
      refine op_skip (g_no rfl rfl rfl (by rw [g5] <;> rfl)) ?_
      refine o_pkTc rfl (by rw [g5] <;> rfl) rfl ?_
      refine o_mvt rfl ?_
      refine op_skip (g_no rfl rfl rfl rfl) ?_
      refine op_skip (g_no rfl rfl rfl rfl) ?_
      refine op_skip (g_no rfl rfl rfl rfl) ?_
      refine op_skip (g_no rfl rfl rfl rfl) ?_
      refine op_skip (g_no rfl rfl rfl rfl) ?_
      refine o_pkTc rfl rfl rfl ?_
      refine o_ast rfl ?_
      refine ops_nil ?_
      exact ⟨by (repeat (first | with_reducible exact offM_refl _ _ | refine offM_updc rfl ?_ | refine offM_upd rfl ?_ | refine offM_updo rfl ?_ | refine offM_updo_none ?_ | refine offM_head rfl rfl ?_)), congrArg (fun b => [Value.bool b]) (by have g' : ¬ namedB nm := (by simpa using g5); symm; apply decide_eq_true; exact .inl g'), rfl⟩
  · rintro J12 vs w12 ⟨rfl, rfl⟩ -
    refine W_cond_p rfl (fun h13 => ?_) (fun h13 => ?_)
    · refine W_seq ?_
      refine W_region ?_
      refine o_asc rfl ?_
      refine ops_nil ?_
      refine W_ret ?_
      refine ret1 (.int .i64 1) rfl ?_ ?_; rfl
      have he : addE l nm q code n = 1 := if_pos h13
      rw [he]
      exact ⟨rfl, fun _ => Keep.refl _, fun e => by cases e⟩
    · refine W_seq ?_
      refine W_region ?_
      refine o_mvt rfl ?_
      refine op_run (r_neq rfl rfl) rfl ?_
      refine o_ast rfl ?_
      refine ops_nil ?_
      refine W_cond_p rfl (fun h15 => ?_) (fun h15 => ?_)
      · refine W_seq ?_
        refine W_region ?_
        refine o_mvt rfl ?_
        refine o_ast rfl ?_
        refine ops_nil ?_
        refine W_ret ?_
        refine ret1 (.int .i64 code) rfl ?_ ?_; rfl
        have he : addE l nm q code n = code := by unfold addE; rw [if_neg h13, if_pos h15]
        rw [he]
        exact ⟨rfl, fun _ => Keep.refl _, fun e => absurd e h15⟩
      · refine W_seq ?_
        refine W_region ?_
        refine o_mvt rfl ?_
        refine o_ast rfl ?_
        refine ops_nil ?_
        refine W_cond rfl (fun h17 => ?_) (fun h17 => ?_)
        · refine W_seq ?_
          refine W_region ?_
          refine o_asc rfl ?_
          refine ops_nil ?_
          refine W_ret ?_
          refine ret1 (.int .i64 6) rfl ?_ ?_; rfl
          have hs : (lookP l nm).isSome = true := by
            rcases hth with ⟨rfl, _⟩ | ⟨_, v, hv, _⟩
            · cases h17
            · rw [hv]; rfl
          have he : addE l nm q code n = 6 := by unfold addE; rw [if_neg h13, if_neg h15, if_pos hs]
          rw [he]
          exact ⟨rfl, fun _ => Keep.refl _, fun e => by cases e⟩
        · refine W_seq ?_
          have hno : lookP l nm = none := by
            rcases hth with ⟨_, hv⟩ | ⟨rfl, _⟩
            · exact hv
            · cases h17
          obtain ⟨xb, bl, rfl, hX, hn⟩ := hX (by omega)
          refine W_quiet (Keep All w12) (by kernel_rfl) (by kernel_rfl) (Keep.drawn _) ?_
          refine q_mvt rfl ?_
          refine q_run (fun _ _ => (r_nilCheck rfl)) rfl ?_
          refine q_run (fun _ _ => (r_fieldAddr rfl rfl rfl rfl rfl)) rfl ?_
          refine q_run (fun _ hk => r_load rfl rfl rfl (hk.cell (hV.cell rfl) trivial)) rfl ?_
          refine q_run (fun _ hk => r_lenMapG rfl rfl ((hX.keep hk trivial))) rfl ?_
          refine q_mvt rfl ?_
          refine q_run (fun _ _ => (r_nilCheck rfl)) rfl ?_
          refine q_run (fun _ _ => (r_fieldAddr rfl rfl rfl rfl rfl)) rfl ?_
          refine q_run (fun _ hk => r_load rfl rfl rfl (hk.cell (hV.cell rfl) trivial)) rfl ?_
          refine q_run (fun _ _ => (r_gtr rfl rfl)) rfl ?_
          refine q_ast rfl ?_
          refine q_nil ?_; intro w23 hk23
          refine W_cond_p rfl (fun h24 => ?_) (fun h24 => ?_)
          · refine W_seq ?_
            refine W_region ?_
            refine o_asc rfl ?_
            refine ops_nil ?_
            refine W_ret ?_
            refine ret1 (.int .i64 8) rfl ?_ ?_; rfl
            have he : addE l nm q code n = 8 := by unfold addE; rw [if_neg h13, if_neg h15, if_neg (by rw [hno]; simp), if_pos (by omega)]
            rw [he]
            exact ⟨rfl, fun _ => hk23, fun e => by cases e⟩
          · refine W_skip ?_
            refine W_seq ?_
            refine W_region ?_
            refine o_mvt rfl ?_
            refine op_run (r_nilCheck rfl) rfl ?_
            refine op_run (r_fieldAddr rfl rfl rfl rfl rfl) rfl ?_
            refine op_run (r_load rfl rfl rfl ((hk23.blk' h.m trivial).cell rfl)) rfl ?_
            refine o_mvt rfl ?_
            refine o_mvt rfl ?_
            refine o_mapUpdG (a := nm) (v := (.pointer (some ⟨vb, 0, none⟩))) (keyOk_strA rfl) rfl rfl rfl rfl ((h.vs.keep hk23 trivial)) rfl ?_; intro w27 hM27 hk27 hs27
            refine ops_nil ?_
            refine W_seq ?_
            refine W_region ?_
            refine o_asc rfl ?_
            refine ops_nil ?_
            refine W_ret ?_
            refine ret1 (.int .i64 0) rfl ?_ ?_; rfl
            have he : addE l nm q code n = 0 := by unfold addE; rw [if_neg h13, if_neg h15, if_neg (by rw [hno]; simp), if_neg (by omega)]
            rw [he]
            refine ⟨rfl, fun e => absurd rfl e, fun _ => ⟨?_, hk23.all.trans hk27⟩⟩
            have hset : setA (mapP ptrV l) nm (.pointer (some ⟨vb, 0, none⟩)) = mapP ptrV l ++ [(nm, .pointer (some ⟨vb, 0, none⟩))] := by
              unfold setA; rw [getA_look, hno]; rfl
            rw [← hset]; exact hM27
end Go.Proofs.Ytkckphbdjkjfgaa.B
