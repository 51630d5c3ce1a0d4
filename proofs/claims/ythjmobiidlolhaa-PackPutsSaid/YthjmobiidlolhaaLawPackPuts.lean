/-
  PackPuts holds for every list of things: the law's call returns true, whatever the list is. (No condition.)
-/
import Derived.Test.YthjmobiidlolhaaRows
import Derived.Test.YthjmobiidlolhaaPackPuts
import Derived.WalkKit
import Derived.ProofKit
import Derived.OpenShut
import Derived.ChangeOld
import Derived.Below
namespace Go.Proofs.Ythjmobiidlolhaa.lawPackPuts
open Go Go.ChangeShapes Go.WideShapes Go.ChangeAt Go.RowKit B
set_option linter.unusedVariables false
theorem rth {W : World} (cs : List Value) (hl : cs.length = 5) (h : Tr Try.prog W 30 cs) : ∃ y, RTh W cs y := by
  obtain ⟨_, hf⟩ := h.struct Try.underlying30
  match cs, hl with
  | [c0, c1, c2, c3, c4], _ =>
    obtain ⟨n0, e0, w0⟩ := (hf 0 _ rfl).int Try.underlying3
    obtain ⟨n1, e1, w1⟩ := (hf 1 _ rfl).int Try.underlying3
    obtain ⟨n2, e2, w2⟩ := (hf 2 _ rfl).int Try.underlying22
    obtain ⟨n3, e3, w3⟩ := (hf 3 _ rfl).int Try.underlying22
    obtain ⟨vb, xs, e4, hb⟩ := (hf 4 _ rfl).bytes Try.underlying24 Try.underlying5 (by kernel_rfl)
    obtain rfl := one_inj (show [c0] = [_] from e0)
    obtain rfl := one_inj (show [c1] = [_] from e1)
    obtain rfl := one_inj (show [c2] = [_] from e2)
    obtain rfl := one_inj (show [c3] = [_] from e3)
    obtain rfl := one_inj (show [c4] = [_] from e4)
    have b1 := bounds_i64 w1
    have b2 := bounds_u64 w2
    have b3 := bounds_u64 w3
    obtain ⟨m2, rfl⟩ := Int.eq_ofNat_of_zero_le b2.1
    obtain ⟨m3, rfl⟩ := Int.eq_ofNat_of_zero_le b3.1
    exact ⟨⟨n0, n1, m2, m3, xs⟩, c4, rfl, hb, by simp only; omega, by simp only; omega, b1.1, b1.2⟩
theorem own : ownKnob Try.prog.godebug = none := by kernel_rfl
theorem laidOut : laidOutB Try.prog = true := by kernel_rfl
set_option maxRecDepth 100000 in
theorem lifted (os : Os) (started : os.Started) (H : Type) (enc : TypeId × Value → H) :
    ReturnsInHanded {} Try.checked os 4 .any (Rows.packPutsSpec.pre6 enc Try.prog Try.f4 Rows.packPutsRow.domain false) (Rows.packPutsSpec.post enc Try.prog Try.f4 false true false false) := by
  refine returnsInHanded_of_change (C := Try.checked) own started (by kernel_rfl) Try.func4
    (ChangeSpec.witness6 (enc := enc) (C := Try.checked) false ⟨#[], #[.slice none 0 0], []⟩ 8 (by kernel_rfl) (by kernel_rfl) (by kernel_rfl) (by kernel_rfl)) ?_
  intro W base args ds gs before hval0 hW hcnd _
  have hval : ∀ (j : Nat) t v, Try.f4.params[j]? = some t → args[j]? = some v → Value.okWide Try.prog W .any base t v := hval0
  have hW' := hW
  obtain ⟨p, q, hA0, hV, rfl, hfz, hnd⟩ := hW
  have hA : DataW.TrodAll enc Try.prog W 0 (fun _ => true) true Try.f4.params.toList args.toList ds p := hA0
  rw [Try.params4] at hA hval
  obtain ⟨v0, vs0, d0, ds0, p0, q0, hargs, rfl, rfl, h0, r0⟩ := trodAll_cons hA
  obtain ⟨rfl, rfl, rfl⟩ := trodAll_nil r0
  obtain rfl : args = #[v0] := by cases args; simp_all
  obtain ⟨rfl, rfl⟩ := trodVars_none hV
  have k0 := h0
  have lt0 : ∀ x ∈ p0, x.block < W.heap.size := by obtain ⟨m, hm⟩ := k0; exact DataW.trod_lt m _ _ _ hm
  obtain ⟨a0, len0, cap0, rfl⟩ := okWide_slice Try.underlying27 (hval 0 27 v0 rfl rfl)
  have h0 := Tr.of h0
  clear hA0 hval0
  obtain ⟨v, xs, e, hx⟩ := h0.rows (R := RTh W) Try.underlying27 (fun cs' hl h' => rth cs' (hl.trans (by kernel_rfl)) h')
  obtain rfl := one_inj (show [Value.slice a0 len0 cap0] = [v] from e)
  have hx : Ths W (.slice a0 len0 cap0) xs := by
    have hc : Try.prog.cellsOf 30 = 5 := by kernel_rfl
    rw [hc] at hx; exact hx
  refine (walk_PackPuts W _ xs hx).mono fun e W' ⟨v, he, hv, hk⟩ => ?_
  subst he; subst hv
  have bel : Below W.heap.size W W' := hk.below (Nat.le_refl _) (fun _ _ => trivial)
  exact ⟨_, rfl, _, _, _, [], _, [], hW', trodAll_mk1 (shut_bool Try.underlying4 _), (trodAll_cons_mk (Below.trod laidOut (by kernel_rfl) (of_decide_eq_true (by kernel_rfl)) k0 bel lt0) trodAll_mk0), rfl, bel.frame _, fun h => by cases h⟩
theorem over : Rows.packPutsRow.holds Try.pinned (OpenSpec.ofChange Rows.packPutsSpec) :=
  OpenClaim.holds_of_wide 4 Try.f4 rfl rfl rfl rfl rfl rfl rfl ⟨rfl, rfl, rfl, rfl, rfl⟩ rfl rfl rfl rfl rfl (by kernel_rfl) Try.func4 (by kernel_rfl)
    (of_decide_eq_true (by kernel_rfl)) (by unfold Func.isWrapper; first | (rw [if_pos (by decide +kernel)]; kernel_rfl) | (rw [if_neg (by decide +kernel)]; exact ⟨rfl, rfl⟩))
    (fun os started H enc _ => lifted os started H enc)
theorem proved : Rows.PackPutsSaid := over
end Go.Proofs.Ythjmobiidlolhaa.lawPackPuts
