/-
  slices.Clone of bytes (where pack.In isn't there).
-/
import Derived.Test.YtpiidddccmohdabDoorRowsK
namespace Go.Proofs.YtpiidddccmohdabDoor.B
open Go
set_option linter.unusedVariables false
set_option maxHeartbeats 2000000
set_option maxRecDepth 100000
attribute [local irreducible] W OpsW OpsQ retP
theorem sl_CloneO (w : World) (v : Value) (xs : List UInt8) (hx : By w v xs) (hl : xs.length ≤ 2 ^ 46) :
    Ret Tryd.prog 18 [v].toArray w fun r w' => OwnB w' 5 r xs ∧ InB (fun b => w.heap.size ≤ b ∧ b < w'.heap.size) r ∧ Keep All w w' := by
  obtain ⟨a, c, rfl, hc, hcm⟩ := hx.form
  have hxl := hx.len_le
  refine enter (fn := Tryd.f18) (n := 8) Tryd.func18 rfl rfl (by simp) ?_
  refine W_seq ?_
  refine W_region ?_
  refine o_asc rfl ?_
  refine ops_nil ?_
  refine W_seq ?_
  refine W_seq ?_
  refine W_region ?_
  refine o_mvt rfl ?_
  refine op_run (r_isNilS rfl rfl) rfl ?_
  refine ops_nil ?_
  refine W_cond rfl (fun h1 => ?_) (fun h1 => ?_)
  · refine W_seq ?_
    refine W_region ?_
    refine o_asc rfl ?_
    refine ops_nil ?_
    refine W_ret ?_
    have e : xs = [] := by
      obtain ⟨a', c', e, h6, h7, h8, h9, _⟩ := hx
      cases e
      cases a with
      | none => have := h9 rfl; exact List.eq_nil_of_length_eq_zero (by omega)
      | some y => cases h1
    subst e
    refine ret1 (.slice none 0 0) rfl ?_ ?_; rfl
    exact ⟨own_nil _ _ _, InB.nil, Keep.refl _⟩
  · refine W_skip ?_
    refine W_seq ?_
    refine W_region ?_
    refine o_bs0 rfl rfl rfl ?_; intro w3 b3 e3 hB3 hk3 hs3
    refine o_mvt rfl ?_
    refine o_appS (v := .slice (some ⟨b3, 0, none⟩) 0 0) rfl rfl (hx.keep hk3 (fun _ _ => trivial)) rfl ti_u8 rfl rfl (Own.blk hB3 rfl (by unfold maxLen; omega)) (all_c8 _) (by unfold maxLen; omega) (by omega) rfl ?_; intro v4 w4 hown4 hk4 hb4
    refine o_ast rfl ?_
    refine ops_nil ?_
    refine W_ret ?_
    refine ret1 v4 rfl ?_ ?_; rfl
    refine ⟨?_, fun b hb => ⟨?_, hown4.lt b hb⟩, hk3.own hk4 ?_⟩
    · have h := OwnB.app (xs := []) (e := 5) hown4
      exact h
    · rcases hb4 b hb with h | h
      · cases h; show w.heap.size ≤ b3; omega
      · omega
    · intro b h; cases h; intro _; show w.heap.size ≤ b3; omega
theorem sl_CloneT (w : World) (v : Value) (xs : List UInt8) (hx : By w v xs) (hl : xs.length ≤ 2 ^ 46) :
    Ret Tryd.prog 18 [v].toArray w fun r w' => By w' r xs ∧ InB (fun b => w.heap.size ≤ b ∧ b < w'.heap.size) r ∧ Keep All w w' :=
  (sl_CloneO w v xs hx hl).mono fun _ _ ⟨v, he, h1, h2⟩ => ⟨v, he, OwnB.by_ h1, h2⟩
end Go.Proofs.YtpiidddccmohdabDoor.B
