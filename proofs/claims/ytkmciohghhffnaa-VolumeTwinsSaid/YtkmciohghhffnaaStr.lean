/-
  Bytes as strings; a slice of bytes that is converted to its own type; rows built of constants.
-/
import Derived.Test.YtkmciohghhffnaaMLib
import Derived.Laws.IdiomStrings
namespace Go.Proofs.Ytkmciohghhffnaa.B
open Go
section
variable {f0 : Bool} {c0 : Ctx} {P : Program} {F : Fr} {w : World} {dst : Option Tmp} {ty : TypeId} {pos : String} {after : Array Edge} {g : Option (Nat × Bool)}
theorem r_cap {x : Operand} {t e : TypeId} {a : Option Addr} {n c : Nat} {ts : Array TypeId} (hx : ev F x = .slice a n c) (h0 : ts[0]? = some t) (ht : P.underlying t = some (.slice e)) :
    Run1 P F ⟨dst, .call ⟨.builtin .cap, #[x], ts⟩, ty, pos, after, g⟩ w (.int .i64 c) w := by
  (try unfold Run1); simp [execOp, resolve, invoke, builtin, hx, Builtin.cap_, h0, underlying, program, ht, Sem.run, bind, Sem.bind, pure, goInt]
theorem run_bytesStr {s t e : TypeId} {v : Value} {bs : List UInt8} (hv : By w v bs) (hs : P.underlying s = some (.slice e)) (he : P.underlying e = some (.int .u8)) (ht : P.underlying t = some .string) :
    (convert s t v).run P w = .ok (.string ⟨bs.toArray⟩) w := by
  obtain ⟨a, c, rfl, h1, h2, h3, h4, h5⟩ := hv
  cases a with
  | none =>
    have h0 : bs = [] := by have := h4 rfl; exact List.length_eq_zero_iff.1 (by omega)
    subst h0
    rw [run_convert_bytes_string w s t e none _ c hs he ht]
    simp [Conv.bytesToString]
    rfl
  | some x =>
    refine run_convert_bytes_back w s t e x c bs hs he ht fun j hj => ?_
    obtain ⟨hsp, hc⟩ := h5 x rfl j (c8 bs[j]) (get_c8 hj)
    obtain ⟨b, o, sp⟩ := x
    cases hsp
    rw [Addr.add_lit]
    exact hc
theorem r_bytesStr {s t e : TypeId} {x : Operand} {v : Value} {bs : List UInt8} (hx : ev F x = v) (hv : By w v bs) (hs : P.underlying s = some (.slice e)) (he : P.underlying e = some (.int .u8)) (ht : P.underlying t = some .string) :
    Run1 P F ⟨dst, .convert s t x, ty, pos, after, g⟩ w (.string ⟨bs.toArray⟩) w := by
  subst hx
  unfold Run1; simp [execOp, run_bytesStr hv hs he ht]
theorem r_eqlStr {t t' : TypeId} {x y : Operand} {a b : List UInt8} (hx : ev F x = .string ⟨a.toArray⟩) (hy : ev F y = .string ⟨b.toArray⟩) : Run1 P F ⟨dst, .binOp .eql t x y t', ty, pos, after, g⟩ w (.bool (decide (a = b))) w := by
  unfold Run1; simp [execOp, hx, hy, eqGuard, binOp, Op.stringOp]
  rw [Bool.eq_iff_iff]; simp
theorem fill_ones {place : Nat → Option (Nat × Nat)} (hp : ∀ i, place i = some (i * 1, 1)) : ∀ (vs : List Value) (k : Nat) (pre zs : List Value), pre.length = k → zs.length = vs.length → vs.all one = true →
    Instr.fill place (pre ++ zs).toArray ((vs.zipIdx k).map fun p => (p.2, p.1)) = some (pre ++ vs).toArray
  | [], k, pre, zs, _, hz, _ => by
    obtain rfl : zs = [] := List.length_eq_zero_iff.1 (by simpa using hz)
    rfl
  | v :: vs, k, pre, zs, hk, hz, hv => by
    obtain ⟨z, zs, rfl⟩ : ∃ z zs', zs = z :: zs' := by
      cases zs with
      | nil => simp at hz
      | cons z zs => exact ⟨z, zs, rfl⟩
    rw [List.all_cons, Bool.and_eq_true] at hv
    have ih := fill_ones hp vs (k + 1) (pre ++ [v]) zs (by simp [hk]) (by simpa using hz) hv.2
    rw [List.zipIdx_cons, List.map_cons]
    simp only [Instr.fill, hp, cells_one hv.1]
    rw [if_neg (by simp; omega)]
    have e : (#[v].zipIdx.foldl (fun cs (x : Value × Nat) => cs.setIfInBounds (k * 1 + x.2) x.1) (pre ++ z :: zs).toArray) = (pre ++ [v] ++ zs).toArray := by
      simp [hk]
    refine Eq.trans ?_ (ih.trans (by simp))
    exact congrArg (fun c => Instr.fill place c ((vs.zipIdx (k + 1)).map fun p => (p.2, p.1))) e
theorem run_buildSlice1 {t e : TypeId} {z : Value} {by_ : Nat} (vs : List Value) (ht : P.underlying t = some (.slice e)) (hi : tinfo P e = some (some z, 1, by_)) (hz : one z = true) (hv : vs.all one = true) (h0 : Nat.ble 1 vs.length = true) (h24 : Nat.ble vs.length (2 ^ 24) = true) :
    (Instr.buildSlice t vs.length ((vs.zipIdx.map fun p => (p.2, p.1)).toArray)).run P w = .ok (.slice (some ⟨w.heap.size, 0, none⟩) vs.length vs.length) (w.alloc (.cells vs.toArray e)) := by
  have h0' := Nat.le_of_ble_eq_true h0
  have h24' := Nat.le_of_ble_eq_true h24
  have hr : ((Array.range (vs.length * 1)).map fun i => #[z][i % #[z].size]!) = ([] ++ List.replicate vs.length z).toArray := by
    apply Array.ext
    · simp
    · intro i h1 h2
      simp [Nat.mod_one]
  have hf := fill_ones (place := fun i => some (i * 1, 1)) (fun _ => rfl) vs 0 [] (List.replicate vs.length z) rfl (by simp) hv
  rw [← hr] at hf
  have hne : ¬ vs.length * 1 = 0 := by omega
  simp only [Instr.buildSlice, Sem.run_bind, run_underlying ht, Result.andThen, run_sizeOf_t hi]
  rw [if_neg (by omega), if_neg hne]
  simp only [Sem.run_bind, Sem.run_pure, run_zero_t hi, Result.andThen, cells_one hz]
  simp only [hf, newRow, Sem.run_bind, Result.andThen, Sem.run_pure, List.nil_append]
  simp
section
variable {n : Nat} {ops : Array Oper} {K : Fr → World → Prop} {rest : List Oper}
theorem o_bsL {t e : TypeId} {z : Value} {by_ len : Nat} {parts : List (Nat × Operand)} (vs : List Value) (ht : P.underlying t = some (.slice e)) (hi : tinfo P e = some (some z, 1, by_)) (hz : one z = true) (hv : vs.all one = true) (h0 : Nat.ble 1 vs.length = true) (h24 : Nat.ble vs.length (2 ^ 24) = true)
    (hlen : len = vs.length) (hp : (parts.map fun p => (p.1, ev F p.2)) = vs.zipIdx.map fun p => (p.2, p.1)) (hg : wantedF ops F ⟨dst, .buildSlice t len parts.toArray, ty, pos, after, g⟩ = true)
    (h : ∀ w' b, b = w.heap.size → Blk w' b vs e → Keep All w w' → w'.heap.size = b + 1 → OpsW f0 c0 P n ops rest (updo n F dst (.slice (some ⟨b, 0, none⟩) len len)) w' K) : OpsW f0 c0 P n ops (⟨dst, .buildSlice t len parts.toArray, ty, pos, after, g⟩ :: rest) F w K := by
  subst hlen
  exact o_bs vs ht hi (by rw [hp]; exact run_buildSlice1 vs ht hi hz hv h0 h24) hg h
/-- A slice of bytes, converted to its own type: its row is marked. -/
theorem o_convB {t e : TypeId} {x : Operand} {b m c : Nat} {cs : List Value} (hx : ev F x = .slice (some ⟨b, 0, none⟩) m c) (hB : Blk w b cs e) (ht : P.underlying t = some (.slice e)) (he : P.underlying e = some (.int .u8))
    (hg : wantedF ops F ⟨dst, .convert t t x, ty, pos, after, g⟩ = true)
    (h : ∀ w', (∀ (j : Nat) (v : Value), cs[j]? = some v → w'.cell? ⟨b, j, none⟩ = some v) → Keep (· ≠ b) w w' → w'.heap.size = w.heap.size → OpsW f0 c0 P n ops rest (updo n F dst (.slice (some ⟨b, 0, none⟩) m c)) w' K) :
    OpsW f0 c0 P n ops (⟨dst, .convert t t x, ty, pos, after, g⟩ :: rest) F w K := by
  have hsh : w.shape? b = some (e, cs.length) := by unfold World.shape?; rw [hB]; simp
  have hblt := hB.lt
  have hfr : (w.freeze ⟨b, cs.length, none⟩ 1).heap = w.heap.modify b fun
      | .cells c elem (lo, hi) => .cells c elem (if lo == hi then (cs.length, cs.length + 1) else (min lo cs.length, max hi (cs.length + 1)))
      | o => o := by
    unfold World.freeze; rw [if_neg (by decide)]; rfl
  refine op_run0 (v := .slice (some ⟨b, 0, none⟩) m c) (w' := w.freeze ⟨b, cs.length, none⟩ 1) ?_ hg (h _ (fun j v hj => ?_) ⟨?_, ?_, ?_, ?_, fun k hk hne => ?_⟩ ?_)
  · (try unfold Run1); simp [execOp, hx, convert, run_underlying ht, run_underlying he, markStringish, hsh]
  · unfold World.cell?
    rw [hfr, Array.getElem?_modify, if_pos rfl, hB]
    simpa using hj
  · unfold World.freeze; rw [if_neg (by decide)]
  · unfold World.freeze; rw [if_neg (by decide)]
  · unfold World.freeze; rw [if_neg (by decide)]
  · rw [hfr]; simp
  · rw [hfr, Array.getElem?_modify, if_neg (fun e => hne e.symm)]
  · rw [hfr]; simp
end
end
end Go.Proofs.Ytkmciohghhffnaa.B
