/-
  Texts merged (mtpl.py): TrR TrS.
-/
import Derived.Test.YtdjndaodggecjaaMRef
import Derived.Test.YtdjndaodggecjaaTrod
import Derived.Test.YtdjndaodggecjaaMDisk
import Derived.Test.YtdjndaodggecjaaMLib
/-! Arguments that are Refs, digests or sectors. -/
namespace Go.Proofs.Ytdjndaodggecjaa.B
open Go
set_option linter.unusedVariables false
set_option maxHeartbeats 2000000
set_option maxRecDepth 100000
attribute [local irreducible] W OpsW OpsQ retP
theorem Tr.dig {W : World} {cs : List Value} (h : Tr Try.prog W 24 cs) : ∃ d : Dig, cs = dgR d := by
  obtain ⟨ss, hsl, hss⟩ := h.bytesA Try.underlying24 Try.underlying5 (by kernel_rfl) (by kernel_rfl)
  exact ⟨⟨ss, hsl⟩, hss⟩
theorem Tr.ref {W : World} {cs : List Value} (h : Tr Try.prog W 26 cs) : ∃ r : Rf, cs = refR r ∧ (-9223372036854775808 ≤ r.at_ ∧ r.at_ ≤ 9223372036854775807) ∧ (-9223372036854775808 ≤ r.len ∧ r.len ≤ 9223372036854775807) := by
  obtain ⟨hl, hf⟩ := h.struct Try.underlying26
  have hl : cs.length = 34 := hl.trans (by kernel_rfl)
  have c0 : Try.prog.cellsOf 24 = 32 := by kernel_rfl
  have c1 : Try.prog.cellsOf 3 = 1 := by kernel_rfl
  have h0 : Tr Try.prog W 24 ((cs.drop 0).take (Try.prog.cellsOf 24)) := hf 0 _ rfl
  have h1 : Tr Try.prog W 3 ((cs.drop 32).take (Try.prog.cellsOf 3)) := hf 1 _ rfl
  have h2 : Tr Try.prog W 3 ((cs.drop 33).take (Try.prog.cellsOf 3)) := hf 2 _ rfl
  rw [c0] at h0; rw [c1] at h1 h2
  obtain ⟨d, hd⟩ := h0.dig
  obtain ⟨n1, e1, w1⟩ := h1.int Try.underlying3
  obtain ⟨n2, e2, w2⟩ := h2.int Try.underlying3
  have b1 := bounds_i64 w1
  have b2 := bounds_i64 w2
  refine ⟨⟨d, n1, n2⟩, ?_, ⟨b1.1, by have := b1.2; omega⟩, ⟨b2.1, by have := b2.2; omega⟩⟩
  show cs = dgR d ++ [.int .i64 n1, .int .i64 n2]
  have e3 : cs.drop 32 = [.int .i64 n1, .int .i64 n2] := by
    rw [← List.take_append_drop 1 (cs.drop 32), e1, List.drop_drop, show 32 + 1 = 33 from rfl]
    rw [List.take_of_length_le (by rw [List.length_drop]; omega)] at e2
    rw [e2]; rfl
  rw [← hd, ← e3, List.drop_zero, List.take_append_drop]
end Go.Proofs.Ytdjndaodggecjaa.B
/-! Arguments that are sectors, and rows of them. -/
namespace Go.Proofs.Ytdjndaodggecjaa.B
open Go
set_option linter.unusedVariables false
set_option maxHeartbeats 2000000
set_option maxRecDepth 100000
attribute [local irreducible] W OpsW OpsQ retP
/-- Rows, each of which is told by its cells, are one row of cells. -/
theorem SlR.sl {α : Type} {w : World} {v : Value} {sz : Nat} {row : α → List Value} {xs : List α} (h : SlR w v sz (fun cs x => cs = row x) xs) (hrow : ∀ x, (row x).length = sz) (h0 : 0 < sz) : Sl w v xs.length sz (rows row xs) := by
  obtain ⟨a, c, rfl, h1, h2, h3, h4⟩ := h
  refine ⟨a, c, rfl, h1, h2, rows_len hrow xs, fun e => h3 e, fun x hx i u hu => ?_⟩
  have hi := (List.getElem?_eq_some_iff.1 hu).1
  rw [rows_len hrow] at hi
  have hq : i / sz < xs.length := Nat.div_lt_of_lt_mul (by rw [Nat.mul_comm]; exact hi)
  have hr : i % sz < sz := Nat.mod_lt _ h0
  have hiq : i / sz * sz + i % sz = i := by rw [Nat.mul_comm]; exact Nat.div_add_mod i sz
  have h00 : 0 < xs.length := Nat.lt_of_le_of_lt (Nat.zero_le _) hq
  obtain ⟨b, o, sp⟩ := x
  have hsp : sp = none := by
    obtain ⟨cs0, hl0, hc0, _⟩ := h4 _ hx 0 xs[0] (List.getElem?_eq_getElem h00)
    have h5 := hc0 0 cs0[0] (List.getElem?_eq_getElem (by omega))
    simp only [Nat.zero_mul, Addr.add_zero'] at h5
    exact World.cell?_spot h5
  subst hsp
  obtain ⟨cs, hl, hc, rfl⟩ := h4 _ hx (i / sz) xs[i / sz] (List.getElem?_eq_getElem hq)
  have hu' : (row xs[i / sz])[i % sz]? = some u := by rw [← rows_get hrow hq hr, hiq]; exact hu
  have := hc _ u hu'
  simp only [Addr.add_lit] at this
  rw [Nat.add_assoc, hiq] at this
  exact ⟨rfl, this⟩

theorem Tr.sec {W : World} {cs : List Value} (h : Tr Try.prog W 33 cs) : ∃ s : Sec, cs = secR s := by
  obtain ⟨ss, hsl, hss⟩ := h.bytesA Try.underlying33 Try.underlying5 (by kernel_rfl) (by kernel_rfl)
  exact ⟨⟨ss, hsl⟩, hss⟩
theorem trSecs {W : World} {n c : Nat} {a : Option Addr} (h : Tr Try.prog W 22 [Value.slice a n c]) : ∃ M : List Sec, Sl W (.slice a n c) M.length 64 (rows secR M) := by
  obtain ⟨v, xs, e, hx⟩ := h.rows (R := fun cs x => cs = secR x) Try.underlying22 (fun cs' hl h' => h'.sec)
  obtain rfl := one_inj (show [Value.slice a n c] = [v] from e)
  have hc : Try.prog.cellsOf 33 = 64 := by kernel_rfl
  rw [hc] at hx; exact ⟨xs, hx.sl secR_len (by decide)⟩
end Go.Proofs.Ytdjndaodggecjaa.B
