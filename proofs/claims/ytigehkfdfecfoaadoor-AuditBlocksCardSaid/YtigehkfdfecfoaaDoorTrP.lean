/-
  Arguments that are digests, or rows of bytes; the table that start-up lays.
-/
import Derived.Test.YtigehkfdfecfoaaDoorBits
import Derived.Test.YtigehkfdfecfoaaDoorTrod
import Derived.Test.YtigehkfdfecfoaaDoorRowsK
import Derived.Test.YtigehkfdfecfoaaDoorRows
import Derived.Lib.LaidTab
import Derived.LaidMore
import Derived.OpenShut
import Derived.Stop.Joined
namespace Go.Proofs.YtigehkfdfecfoaaDoor.B
open Go
set_option linter.unusedVariables false
set_option maxHeartbeats 2000000
set_option maxRecDepth 100000
attribute [local irreducible] W OpsW OpsQ retP
theorem Tr.dig {W : World} {cs : List Value} (h : Tr Tryd.prog W 28 cs) : ∃ d : Dig, cs = dgR d := by
  obtain ⟨ss, hsl, hss⟩ := h.bytesA Tryd.underlying28 Tryd.underlying5 (by kernel_rfl) (by kernel_rfl)
  exact ⟨⟨ss, hsl⟩, hss⟩
theorem trRowsBP {W : World} {cs : List Value} (h : Tr Tryd.prog W 24 cs) : ∃ v xs, cs = [v] ∧ SlR W v 1 (RowB W) xs := by
  obtain ⟨v, xs, e, hx⟩ := h.rows (R := RowB W) Tryd.underlying24 (fun cs' hl h' => by
    obtain ⟨v, ps, e, hv⟩ := h'.bytes Tryd.underlying34 Tryd.underlying5 (by kernel_rfl)
    exact ⟨ps, v, e, hv⟩)
  have hc : Tryd.prog.cellsOf 34 = 1 := by kernel_rfl
  rw [hc] at hx; exact ⟨v, xs, e, hx⟩
theorem SlR.sl {α : Type} {w : World} {v : Value} {sz : Nat} {row : α → List Value} {xs : List α} (h : SlR w v sz (fun cs x => cs = row x) xs) (hrow : ∀ x, (row x).length = sz) (h0 : 0 < sz) : Sl w v xs.length sz (rows row xs) := by
  obtain ⟨a, c, rfl, h1, h2, h3, h4⟩ := h
  refine ⟨a, c, rfl, h1, h2, rows_len hrow xs, fun e => h3 e, fun x hx i u hu => ?_⟩
  have hi := (List.getElem?_eq_some_iff.1 hu).1
  rw [rows_len hrow] at hi
  have hq : i / sz < xs.length := Nat.div_lt_of_lt_mul (by rw [Nat.mul_comm]; exact hi)
  have hr : i % sz < sz := Nat.mod_lt _ h0
  have hiq : i / sz * sz + i % sz = i := by rw [Nat.mul_comm]; exact Nat.div_add_mod i sz
  have h00 : 0 < xs.length := Nat.lt_of_le_of_lt (Nat.zero_le _) hq
  obtain ⟨b, o, sp⟩ := x
  have hsp : sp = none := by
    obtain ⟨cs0, hl0, hc0, _⟩ := h4 _ hx 0 xs[0] (List.getElem?_eq_getElem h00)
    have h5 := hc0 0 cs0[0] (List.getElem?_eq_getElem (by omega))
    simp only [Nat.zero_mul, Addr.add_zero'] at h5
    exact World.cell?_spot h5
  subst hsp
  obtain ⟨cs, hl, hc, rfl⟩ := h4 _ hx (i / sz) xs[i / sz] (List.getElem?_eq_getElem hq)
  have hu' : (row xs[i / sz])[i % sz]? = some u := by rw [← rows_get hrow hq hr, hiq]; exact hu
  have := hc _ u hu'
  simp only [Addr.add_lit] at this
  rw [Nat.add_assoc, hiq] at this
  exact ⟨rfl, this⟩

theorem trDigsP {W : World} {n c : Nat} {a : Option Addr} (h : Tr Tryd.prog W 22 [Value.slice a n c]) : ∃ ds, Sl W (.slice a n c) ds.length 32 (rows dgR ds) := by
  obtain ⟨v, xs, e, hx⟩ := h.rows (R := fun cs x => cs = dgR x) Tryd.underlying22 (fun cs' hl h' => h'.dig)
  obtain rfl := one_inj (show [Value.slice a n c] = [v] from e)
  have hc : Tryd.prog.cellsOf 28 = 32 := by kernel_rfl
  rw [hc] at hx; exact ⟨xs, hx.sl dgR_len (by decide)⟩
def laidTabB : List (String × DataW Unit) := [("math/bits.deBruijn32tab", Rows.laid_math_bits_deBruijn32tab)]
theorem gTab : Tryd.prog.globalNamed "math/bits.deBruijn32tab" = some 0 := by kernel_rfl
theorem tTab : (Tryd.prog.globals[0]?).map (·.type) = some 27 := by kernel_rfl
theorem tab_of {W : World} (h : laidMetH Tryd.prog laidTabB W) : TabB W := by
  rw [MakeChecks.laidMetH_plain _ _ _ (by kernel_rfl)] at h
  have hI := Lib.tabIs_of_head (k := .u8) (zs := deB) (rest := []) gTab tTab Tryd.underlying27 Tryd.underlying5 (by kernel_rfl) (by kernel_rfl) h
  exact fun i hi => hI.cell gTab i hi
/-- The door's own heap meets the condition. -/
theorem door_met (os : Os) (args : Array Value) : laidMetH Tryd.prog laidTabB ((World.doorLaid Tryd.prog 14 os).forCall (fun _ _ => 0) ⟨#[], args, []⟩).memory :=
  laidMetH_of_parts3 (fuel := 8) (laidMet_of_run' 8 (by kernel_rfl) (by kernel_rfl)) (by kernel_rfl) (by kernel_rfl)
end Go.Proofs.YtigehkfdfecfoaaDoor.B
