/-
  A string's bytes; arrays that are given back with other values.
-/
import Derived.Test.YtkmciohghhffnaaMBase
import Derived.Lib.ConvBytes
namespace Go.Proofs.Ytkmciohghhffnaa.B
open Go
set_option linter.unusedVariables false
set_option maxHeartbeats 2000000
set_option maxRecDepth 100000
attribute [local irreducible] W OpsW OpsQ retP
section
variable {f0 : Bool} {c0 : Ctx} {P : Program} {n : Nat} {ops : Array Oper} {F : Fr} {w : World} {K : Fr → World → Prop} {rest : List Oper} {dst : Option Tmp} {ty : TypeId} {pos : String} {after : Array Edge} {g : Option (Nat × Bool)}
theorem bytesWorld_keep (w : World) (e : TypeId) (s : ByteArray) : Keep All w (Lib.bytesWorld w e s) := by
  have hf : (Lib.bytesWorld w e s).os = w.os ∧ (Lib.bytesWorld w e s).tape = w.tape ∧ (Lib.bytesWorld w e s).output = w.output := by
    unfold Lib.bytesWorld World.freeze
    split <;> exact ⟨rfl, rfl, rfl⟩
  exact ⟨hf.1, hf.2.1, hf.2.2, by rw [Lib.bytesWorld_size]; omega, fun k hk _ => Lib.bytesWorld_at_old w e s k hk⟩
/-- A string's bytes, as a new row. -/
theorem o_strB {s t e : TypeId} {x : Operand} {u : TypeDesc} {bs : List UInt8} (hx : ev F x = .string ⟨bs.toArray⟩) (hs : P.underlying s = some u) (ht : P.underlying t = some (.slice e)) (he : P.underlying e = some (.int .u8)) (hl : bs.length ≤ maxLen)
    (hg : wantedF ops F ⟨dst, .convert s t x, ty, pos, after, g⟩ = true)
    (h : ∀ w' b c, By w' (.slice (some ⟨b, 0, none⟩) bs.length c) bs → b = w.heap.size → Keep All w w' → w'.heap.size = b + 1 → OpsW f0 c0 P n ops rest (updo n F dst (.slice (some ⟨b, 0, none⟩) bs.length c)) w' K) :
    OpsW f0 c0 P n ops (⟨dst, .convert s t x, ty, pos, after, g⟩ :: rest) F w K := by
  have hsz : (⟨bs.toArray⟩ : ByteArray).size = bs.length := by show bs.toArray.size = _; simp
  have hge := grownCap_ge w bs.length 0 e
  have hle := grownCap_le_maxLen w bs.length 0 e hl
  have hby : By (Lib.bytesWorld w e ⟨bs.toArray⟩) (.slice (some ⟨w.heap.size, 0, none⟩) bs.length (grownCap w bs.length 0 e)) bs := by
    refine ⟨some ⟨w.heap.size, 0, none⟩, _, rfl, hge, hle, by rw [List.length_map, Nat.mul_one], (fun h => by cases h), fun x hx i v hi => ?_⟩
    injection hx with hx
    subst hx
    refine ⟨rfl, ?_⟩
    have hi' := (List.getElem?_eq_some_iff.1 hi).1
    rw [List.length_map] at hi'
    rw [List.getElem?_map, List.getElem?_eq_getElem hi'] at hi
    injection hi with hi
    subst hi
    rw [Nat.zero_add, Lib.bytesWorld_cell w e ⟨bs.toArray⟩ i (by rw [hsz]; exact hi')]
    show some (Value.int .u8 ((bs.getD i 0).toNat : Int)) = _
    rw [List.getD_eq_getElem?_getD, List.getElem?_eq_getElem hi']
    rfl
  refine op_run0 (v := .slice (some ⟨w.heap.size, 0, none⟩) bs.length (grownCap w bs.length 0 e)) (w' := Lib.bytesWorld w e ⟨bs.toArray⟩) ?_ hg (h _ _ _ hby rfl (bytesWorld_keep w e _) (Lib.bytesWorld_size w e _))
  have hr := Lib.run_convert_string_bytes (P := P) w s t e ⟨bs.toArray⟩ hs ht he
  rw [hsz] at hr
  unfold Run1; simp [execOp, hx, hr]
/-- An array or struct that lies in memory, and two values. -/
theorem retATT {fn : Func} {S : Value → World → Prop} {t u u2 : Tmp} {ty : TypeId} {d : TypeDesc} {a : Addr} {z : Option Value} {by_ : Nat} (cs : List Value) (v2 v3 : Value) (h : fn.results = #[.cell t ty, .tmp u, .tmp u2]) (ha : F t = .pointer (some a)) (hv2 : F u = v2) (hv3 : F u2 = v3) (ht : P.underlying ty = some d) (hd : aggD d = true)
    (hi : tinfo P ty = some (z, cs.length, by_)) (hc : ∀ (j : Nat) (v : Value), cs[j]? = some v → w.cell? (a.add j) = some v) (hS : S (.tuple #[.agg cs.toArray, v2, v3]) w) : retP P fn S .ret F w := by
  unfold retP
  exact ⟨_, fun tmps htm => by
    have h1 : tmps.getD t undef = .pointer (some a) := by rw [htm, ha]
    have h2 : tmps.getD u undef = v2 := by rw [htm, hv2]
    have h3 : tmps.getD u2 undef = v3 := by rw [htm, hv3]
    simp only [Array.getD_eq_getD_getElem?] at h1 h2 h3
    simp [results, h, h1, h2, h3, asAddr, loadVar, run_isAgg ht, hd, run_sizeOf_t hi, run_loadCells_list w a cs hc], hS⟩
end
end Go.Proofs.Ytkmciohghhffnaa.B
