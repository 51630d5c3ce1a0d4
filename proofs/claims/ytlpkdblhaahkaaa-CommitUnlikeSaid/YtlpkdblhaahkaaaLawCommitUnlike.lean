/-
  CommitUnlike holds for all commits and cuts: the law's call returns true. (No condition.)
-/
import Derived.Test.YtlpkdblhaahkaaaRows
import Derived.Test.YtlpkdblhaahkaaaCom10
import Derived.Test.YtlpkdblhaahkaaaTrC
import Derived.WalkKit
import Derived.ProofKit
import Derived.OpenShut
import Derived.ChangeOld
import Derived.Below
namespace Go.Proofs.Ytlpkdblhaahkaaa.lawCommitUnlike
open Go Go.ChangeShapes Go.WideShapes Go.ChangeAt Go.RowKit B
set_option linter.unusedVariables false
theorem own : ownKnob Try.prog.godebug = none := by kernel_rfl
theorem laidOut : laidOutB Try.prog = true := by kernel_rfl
set_option maxRecDepth 100000 in
theorem lifted (os : Os) (started : os.Started) (H : Type) (enc : TypeId × Value → H) :
    ReturnsInHanded {} Try.checked os 4 .any (Rows.commitUnlikeSpec.pre6 enc Try.prog Try.f4 Rows.commitUnlikeRow.domain false) (Rows.commitUnlikeSpec.post enc Try.prog Try.f4 false true false false) := by
  refine returnsInHanded_of_change (C := Try.checked) own started (by kernel_rfl) Try.func4
    (ChangeSpec.witness6 (enc := enc) (C := Try.checked) false ⟨#[], #[.agg (#[.int .u64 0] ++ ((Array.replicate 32 (.int .u8 0)) ++ #[.int .i64 0, .int .i64 0]) ++ ((Array.replicate 32 (.int .u8 0)) ++ #[.int .i64 0, .int .i64 0]) ++ ((Array.replicate 32 (.int .u8 0)) ++ #[.int .i64 0, .int .i64 0]) ++ #[.slice none 0 0] ++ (Array.replicate 32 (.int .u8 0)) ++ #[.slice none 0 0]), .agg (#[.int .u64 0] ++ ((Array.replicate 32 (.int .u8 0)) ++ #[.int .i64 0, .int .i64 0]) ++ ((Array.replicate 32 (.int .u8 0)) ++ #[.int .i64 0, .int .i64 0]) ++ ((Array.replicate 32 (.int .u8 0)) ++ #[.int .i64 0, .int .i64 0]) ++ #[.slice none 0 0] ++ (Array.replicate 32 (.int .u8 0)) ++ #[.slice none 0 0]), .int .i64 0], []⟩ 8 (by kernel_rfl) (by kernel_rfl) (by kernel_rfl) (by kernel_rfl)) ?_
  intro W base args ds gs before hval0 hW hcnd _
  have hval : ∀ (j : Nat) t v, Try.f4.params[j]? = some t → args[j]? = some v → Value.okWide Try.prog W .any base t v := hval0
  have hW' := hW
  obtain ⟨p, q, hA0, hV, rfl, hfz, hnd⟩ := hW
  have hA : DataW.TrodAll enc Try.prog W 0 (fun _ => true) true Try.f4.params.toList args.toList ds p := hA0
  rw [Try.params4] at hA hval
  obtain ⟨v0, vs0, d0, ds0, p0, q0, hargs, rfl, rfl, h0, r0⟩ := trodAll_cons hA
  obtain ⟨v1, vs1, d1, ds1, p1, q1, rfl, rfl, rfl, h1, r1⟩ := trodAll_cons r0
  obtain ⟨v2, vs2, d2, ds2, p2, q2, rfl, rfl, rfl, h2, r2⟩ := trodAll_cons r1
  obtain ⟨rfl, rfl, rfl⟩ := trodAll_nil r2
  obtain rfl : args = #[v0, v1, v2] := by cases args; simp_all
  obtain ⟨rfl, rfl⟩ := trodVars_none hV
  have k0 := h0
  have lt0 : ∀ x ∈ p0, x.block < W.heap.size := by obtain ⟨m, hm⟩ := k0; exact DataW.trod_lt m _ _ _ hm
  obtain ⟨cs0, rfl⟩ := okW_struct Try.underlying32 (hval 0 32 v0 rfl rfl)
  have h0 := Tr.of h0
  have h0 : Tr Try.prog W 32 cs0 := h0
  have k1 := h1
  have lt1 : ∀ x ∈ p1, x.block < W.heap.size := by obtain ⟨m, hm⟩ := k1; exact DataW.trod_lt m _ _ _ hm
  obtain ⟨cs1, rfl⟩ := okW_struct Try.underlying32 (hval 1 32 v1 rfl rfl)
  have h1 := Tr.of h1
  have h1 : Tr Try.prog W 32 cs1 := h1
  obtain ⟨x2, rfl, rfl, rfl, w2⟩ := open_int Try.underlying3 (hval 2 3 v2 rfl rfl) h2
  have b2 := bounds_i64 w2
  clear hA0 hval0
  obtain ⟨c, vb, ve, vks, rfl, hC, h64⟩ := h0.commit
  obtain ⟨d, wb, we, wks, rfl, hD, h642⟩ := h1.commit
  refine (walk_CommitUnlike W c d vb ve wb we vks wks x2 hC hD h64 h642).mono fun e W' ⟨v, he, hv, hk⟩ => ?_
  subst he; subst hv
  have bel : Below W.heap.size W W' := hk.below (Nat.le_refl _) (fun _ _ => trivial)
  exact ⟨_, rfl, _, _, _, [], _, [], hW', trodAll_mk1 (shut_bool Try.underlying4 _), (trodAll_cons_mk (Below.trod laidOut (by kernel_rfl) (of_decide_eq_true (by kernel_rfl)) k0 bel lt0) (trodAll_cons_mk (Below.trod laidOut (by kernel_rfl) (of_decide_eq_true (by kernel_rfl)) k1 bel lt1) (trodAll_cons_mk (shut_int Try.underlying3 w2) trodAll_mk0))), rfl, bel.frame _, fun h => by cases h⟩
theorem over : Rows.commitUnlikeRow.holds Try.pinned (OpenSpec.ofChange Rows.commitUnlikeSpec) :=
  OpenClaim.holds_of_wide 4 Try.f4 rfl rfl rfl rfl rfl rfl rfl ⟨rfl, rfl, rfl, rfl, rfl⟩ rfl rfl rfl rfl rfl (by kernel_rfl) Try.func4 (by kernel_rfl)
    (of_decide_eq_true (by kernel_rfl)) (by unfold Func.isWrapper; first | (rw [if_pos (by decide +kernel)]; kernel_rfl) | (rw [if_neg (by decide +kernel)]; exact ⟨rfl, rfl⟩))
    (fun os started H enc _ => lifted os started H enc)
theorem proved : Rows.CommitUnlikeSaid := over
end Go.Proofs.Ytlpkdblhaahkaaa.lawCommitUnlike
