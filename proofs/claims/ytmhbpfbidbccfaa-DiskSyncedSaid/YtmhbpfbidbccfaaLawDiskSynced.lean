/-
  DiskSynced holds for every first and later calls and all picks: the law's call returns true. (No condition.)
-/
import Derived.Test.YtmhbpfbidbccfaaRows
import Derived.Test.YtmhbpfbidbccfaaDiskSynced
import Derived.WalkKit
import Derived.ProofKit
import Derived.OpenShut
import Derived.ChangeOld
import Derived.Below
namespace Go.Proofs.Ytmhbpfbidbccfaa.lawDiskSynced
open Go Go.ChangeShapes Go.WideShapes Go.ChangeAt Go.RowKit B
set_option linter.unusedVariables false
theorem dcs {W : World} {n c : Nat} {a : Option Addr} (h : Tr Try.prog W 22 [Value.slice a n c]) : ∃ xs, DCs W (.slice a n c) xs := by
  obtain ⟨v, xs, e, hx⟩ := h.rows (R := fun cs (y : DCall) => ∃ a n c, cs = dcR y (.slice a n c)) Try.underlying22 (fun cs' hl h' => by
    have hl : cs'.length = 68 := hl.trans (by kernel_rfl)
    obtain ⟨_, hf⟩ := h'.struct Try.underlying32
    match cs', hl with
    | c0 :: c1 :: c2 :: rest, hl =>
      have hl : rest.length = 65 := by simpa using hl
      obtain ⟨n0, e0, _⟩ := (hf 0 _ rfl).int Try.underlying3
      obtain ⟨n1, e1, _⟩ := (hf 1 _ rfl).int Try.underlying3
      obtain ⟨n2, e2, _⟩ := (hf 2 _ rfl).int Try.underlying3
      have h3 : Tr Try.prog W 30 (rest.take 64) := by
        have h := hf 3 _ rfl
        have hc : Try.prog.cellsOf 30 = 64 := by kernel_rfl
        rw [show (List.drop _ (c0 :: c1 :: c2 :: rest)).take (Try.prog.cellsOf _) = rest.take 64 from congrArg (fun k => rest.take k) hc] at h
        exact h
      obtain ⟨ss, hsl, hss⟩ := h3.bytesA Try.underlying30 Try.underlying5 (by kernel_rfl) (by kernel_rfl)
      obtain ⟨a4, n4, c4, e4, _⟩ := (hf 4 _ rfl).slice Try.underlying23
      obtain rfl := one_inj (show [c0] = [_] from e0)
      obtain rfl := one_inj (show [c1] = [_] from e1)
      obtain rfl := one_inj (show [c2] = [_] from e2)
      have e4 : (rest.drop 64).take 1 = [Value.slice a4 n4 c4] := e4
      refine ⟨⟨n0, n1, n2, ⟨ss, hsl⟩⟩, a4, n4, c4, ?_⟩
      show _ :: _ :: _ :: rest = _ :: _ :: _ :: (secR ⟨ss, hsl⟩ ++ [_])
      have e5 : rest.drop 64 = [Value.slice a4 n4 c4] := by rw [← e4, List.take_of_length_le (by rw [List.length_drop]; omega)]
      rw [← List.take_append_drop 64 rest, hss, e5]; rfl)
  obtain rfl := one_inj (show [Value.slice a n c] = [v] from e)
  have hc : Try.prog.cellsOf 32 = 68 := by kernel_rfl
  rw [hc] at hx; exact ⟨xs, hx⟩
theorem own : ownKnob Try.prog.godebug = none := by kernel_rfl
theorem laidOut : laidOutB Try.prog = true := by kernel_rfl
set_option maxRecDepth 100000 in
theorem lifted (os : Os) (started : os.Started) (H : Type) (enc : TypeId × Value → H) :
    ReturnsInHanded {} Try.checked os 3 .any (Rows.diskSyncedSpec.pre6 enc Try.prog Try.f3 Rows.diskSyncedRow.domain false) (Rows.diskSyncedSpec.post enc Try.prog Try.f3 false true false false) := by
  refine returnsInHanded_of_change (C := Try.checked) own started (by kernel_rfl) Try.func3
    (ChangeSpec.witness6 (enc := enc) (C := Try.checked) false ⟨#[], #[.slice none 0 0, .slice none 0 0, .slice none 0 0], []⟩ 8 (by kernel_rfl) (by kernel_rfl) (by kernel_rfl) (by kernel_rfl)) ?_
  intro W base args ds gs before hval0 hW hcnd _
  have hval : ∀ (j : Nat) t v, Try.f3.params[j]? = some t → args[j]? = some v → Value.okWide Try.prog W .any base t v := hval0
  have hW' := hW
  obtain ⟨p, q, hA0, hV, rfl, hfz, hnd⟩ := hW
  have hA : DataW.TrodAll enc Try.prog W 0 (fun _ => true) true Try.f3.params.toList args.toList ds p := hA0
  rw [Try.params3] at hA hval
  obtain ⟨v0, vs0, d0, ds0, p0, q0, hargs, rfl, rfl, h0, r0⟩ := trodAll_cons hA
  obtain ⟨v1, vs1, d1, ds1, p1, q1, rfl, rfl, rfl, h1, r1⟩ := trodAll_cons r0
  obtain ⟨v2, vs2, d2, ds2, p2, q2, rfl, rfl, rfl, h2, r2⟩ := trodAll_cons r1
  obtain ⟨rfl, rfl, rfl⟩ := trodAll_nil r2
  obtain rfl : args = #[v0, v1, v2] := by cases args; simp_all
  obtain ⟨rfl, rfl⟩ := trodVars_none hV
  have k0 := h0
  have lt0 : ∀ x ∈ p0, x.block < W.heap.size := by obtain ⟨m, hm⟩ := k0; exact DataW.trod_lt m _ _ _ hm
  obtain ⟨a0, len0, cap0, rfl⟩ := okWide_slice Try.underlying22 (hval 0 22 v0 rfl rfl)
  have h0 := Tr.of h0
  have k1 := h1
  have lt1 : ∀ x ∈ p1, x.block < W.heap.size := by obtain ⟨m, hm⟩ := k1; exact DataW.trod_lt m _ _ _ hm
  obtain ⟨a1, len1, cap1, rfl⟩ := okWide_slice Try.underlying22 (hval 1 22 v1 rfl rfl)
  have h1 := Tr.of h1
  have k2 := h2
  have lt2 : ∀ x ∈ p2, x.block < W.heap.size := by obtain ⟨m, hm⟩ := k2; exact DataW.trod_lt m _ _ _ hm
  obtain ⟨a2, len2, cap2, rfl⟩ := okWide_slice Try.underlying23 (hval 2 23 v2 rfl rfl)
  have h2 := Tr.of h2
  clear hA0 hval0
  obtain ⟨xs, hx⟩ := dcs h0
  obtain ⟨ys, hy⟩ := dcs h1
  obtain ⟨v, ps, e, hv⟩ := h2.bytes Try.underlying23 Try.underlying5 (by kernel_rfl)
  obtain rfl := one_inj (show [Value.slice a2 len2 cap2] = [v] from e)
  refine (walk_DiskSynced W _ _ _ xs ys ps hx hy hv).mono fun e W' ⟨v, he, hv, hk⟩ => ?_
  subst he; subst hv
  have bel : Below W.heap.size W W' := hk.below (Nat.le_refl _) (fun _ _ => trivial)
  exact ⟨_, rfl, _, _, _, [], _, [], hW', trodAll_mk1 (shut_bool Try.underlying4 _), (trodAll_cons_mk (Below.trod laidOut (by kernel_rfl) (of_decide_eq_true (by kernel_rfl)) k0 bel lt0) (trodAll_cons_mk (Below.trod laidOut (by kernel_rfl) (of_decide_eq_true (by kernel_rfl)) k1 bel lt1) (trodAll_cons_mk (Below.trod laidOut (by kernel_rfl) (of_decide_eq_true (by kernel_rfl)) k2 bel lt2) trodAll_mk0))), rfl, bel.frame _, fun h => by cases h⟩
theorem over : Rows.diskSyncedRow.holds Try.pinned (OpenSpec.ofChange Rows.diskSyncedSpec) :=
  OpenClaim.holds_of_wide 3 Try.f3 rfl rfl rfl rfl rfl rfl rfl ⟨rfl, rfl, rfl, rfl, rfl⟩ rfl rfl rfl rfl rfl (by kernel_rfl) Try.func3 (by kernel_rfl)
    (of_decide_eq_true (by kernel_rfl)) (by unfold Func.isWrapper; first | (rw [if_pos (by decide +kernel)]; kernel_rfl) | (rw [if_neg (by decide +kernel)]; exact ⟨rfl, rfl⟩))
    (fun os started H enc _ => lifted os started H enc)
theorem proved : Rows.DiskSyncedSaid := over
end Go.Proofs.Ytmhbpfbidbccfaa.lawDiskSynced
