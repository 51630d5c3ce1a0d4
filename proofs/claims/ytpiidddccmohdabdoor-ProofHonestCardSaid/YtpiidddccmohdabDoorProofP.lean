/-
  What nodes show: the plain law; bytes.HasPrefix.
-/
import Derived.Test.YtpiidddccmohdabDoorNode1
import Derived.Test.YtpiidddccmohdabDoorMSha
import Derived.Test.YtpiidddccmohdabDoorRowsK
import Derived.Test.YtpiidddccmohdabDoorNibs
import Derived.Test.YtpiidddccmohdabDoorEqB
namespace Go.Proofs.YtpiidddccmohdabDoor.B
open Go
set_option linter.unusedVariables false
set_option maxHeartbeats 2000000
set_option maxRecDepth 100000
attribute [local irreducible] W OpsW OpsQ retP
theorem by_HasPrefix (w : World) (va vb : Value) (a b : List UInt8) (ha : By w va a) (hb : By w vb b) : Ret Tryd.prog 24 [va, vb].toArray w fun r w' => r = .bool (decide (b <+: a)) ∧ w' = w := by
  obtain ⟨a0, c0, rfl, hc0, hcm0⟩ := ha.form
  obtain ⟨b0, d0, rfl, hd0, hdm0⟩ := hb.form
  refine enter (fn := Tryd.f24) (n := 18) Tryd.func24 rfl rfl (by simp) ?_
  refine W_seq ?_
  refine W_region ?_
  refine o_asc rfl ?_
  refine ops_nil ?_
  refine W_seq ?_
  refine W_region ?_
  refine o_mvt rfl ?_
  refine op_run (r_len rfl rfl rfl) rfl ?_
  refine o_mvt rfl ?_
  refine op_run (r_len rfl rfl rfl) rfl ?_
  refine op_run (r_geq rfl rfl) rfl ?_
  refine o_mvt rfl ?_
  refine g_split rfl rfl rfl (fun g1 => ?_) (fun g1 => ?_)
  · refine o_mvt (g_yes rfl rfl rfl g1) ?_
    refine o_mvt (g_yes rfl rfl rfl g1) ?_
    refine op_run (r_len rfl rfl rfl) (g_yes rfl rfl rfl g1) ?_
    have hle : b.length ≤ a.length := by have := of_decide_eq_true g1; omega
    refine op_run (r_sliceS_hi rfl rfl rfl rfl (by omega) (by omega)) (g_yes rfl rfl rfl g1) ?_
    refine o_mvt (g_yes rfl rfl rfl g1) ?_
    refine op_call rfl rfl (g_yes rfl rfl rfl g1) (by_Equal _ _ _ (a.take b.length) b (by have h := By.sub (l := 0) (h := b.length) (m := c0) ha (Nat.zero_le _) hle (by omega) (Nat.le_refl _); rw [List.drop_zero] at h; rw [Int.toNat_natCast]; exact h) hb) ?_; rintro v3 w3 ⟨rfl, hw3⟩
    refine o_pkTt rfl g1 rfl ?_
    refine o_ast rfl ?_
    refine ops_nil ?_
    refine W_ret ?_
    refine ret1 (.bool (decide (a.take b.length = b))) rfl ?_ ?_; rfl
    exact ⟨congrArg Value.bool (by rw [decide_eq_decide, List.prefix_iff_eq_take]; exact ⟨fun h => h.symm, fun h => h.symm⟩), hw3⟩
  · refine op_skip (g_no rfl rfl rfl g1) ?_
    refine op_skip (g_no rfl rfl rfl g1) ?_
    refine op_skip (g_no rfl rfl rfl g1) ?_
    refine op_skip (g_no rfl rfl rfl g1) ?_
    refine op_skip (g_no rfl rfl rfl g1) ?_
    refine op_skip (g_no rfl rfl rfl g1) ?_
    refine o_pkFc rfl g1 rfl ?_
    refine o_ast rfl ?_
    refine ops_nil ?_
    refine W_ret ?_
    refine ret1 (.bool false) rfl ?_ ?_; rfl
    exact ⟨congrArg Value.bool (by have g := of_decide_eq_false g1; symm; exact decide_eq_false fun h => g (by have := h.length_le; omega)), rfl⟩
/-- The digest that a branch has for what is left of a key. -/
def nextD (rest : List UInt8) (n : Nd) : Option Dig := if n.beg <+: rest then (match rest[n.beg.length]? with | some x => n.kids x.toNat | none => none) else none
/-- What nodes show. -/
def chkR : Dig → List UInt8 → List (List UInt8) → Option (Bool × List UInt8)
  | _, _, [] => none
  | want, rest, b :: bs =>
    if ¬ (okN rest.length (ndR ndM b) ∧ tagD 4 [b] = want) then none
    else if (ndR ndM b).1.leaf = true then (if bs ≠ [] then none else if (ndR ndM b).1.beg <+: rest then some (true, (ndR ndM b).1.val) else some (false, []))
    else match nextD rest (ndR ndM b).1 with
      | none => if bs = [] then some (false, []) else none
      | some d => chkR d (rest.drop ((ndR ndM b).1.beg.length + 1)) bs
def chk (root : Dig) (key : List UInt8) (nodes : List (List UInt8)) : Option (Bool × List UInt8) :=
  if nodes = [] then (if root = tagD 5 [] then some (false, []) else none) else chkR root (nibs key) nodes
theorem chkR_bad {want : Dig} {rest b : List UInt8} {bs : List (List UInt8)} (h : ¬ (okN rest.length (ndR ndM b) ∧ tagD 4 [b] = want)) : chkR want rest (b :: bs) = none := by
  unfold chkR; rw [if_pos h]
theorem chkR_leaf {want : Dig} {rest b : List UInt8} {bs : List (List UInt8)} (h : okN rest.length (ndR ndM b) ∧ tagD 4 [b] = want) (hl : (ndR ndM b).1.leaf = true) :
    chkR want rest (b :: bs) = if bs ≠ [] then none else if (ndR ndM b).1.beg <+: rest then some (true, (ndR ndM b).1.val) else some (false, []) := by
  conv => lhs; unfold chkR
  rw [if_neg (fun hh => hh h), if_pos hl]
theorem chkR_none {want : Dig} {rest b : List UInt8} {bs : List (List UInt8)} (h : okN rest.length (ndR ndM b) ∧ tagD 4 [b] = want) (hl : (ndR ndM b).1.leaf = false) (hn : nextD rest (ndR ndM b).1 = none) :
    chkR want rest (b :: bs) = if bs = [] then some (false, []) else none := by
  conv => lhs; unfold chkR
  rw [if_neg (fun hh => hh h), if_neg (by rw [hl]; simp), hn]
theorem chkR_some {want d : Dig} {rest b : List UInt8} {bs : List (List UInt8)} (h : okN rest.length (ndR ndM b) ∧ tagD 4 [b] = want) (hl : (ndR ndM b).1.leaf = false) (hn : nextD rest (ndR ndM b).1 = some d) :
    chkR want rest (b :: bs) = chkR d (rest.drop ((ndR ndM b).1.beg.length + 1)) bs := by
  conv => lhs; unfold chkR
  rw [if_neg (fun hh => hh h), if_neg (by rw [hl]; simp), hn]
end Go.Proofs.YtpiidddccmohdabDoor.B
