/-
  trie: the way to a key; nodes in blocks that are known.
-/
import Derived.Test.YtpiidddccmohdaaDoorMTreW
import Derived.Test.YtpiidddccmohdaaDoorRangeA
import Derived.Test.YtpiidddccmohdaaDoorEqB
namespace Go.Proofs.YtpiidddccmohdaaDoor.B
open Go
section
variable {P : Program} {fn : Func} {S : Value → World → Prop} {w : World}
/-- One result that lies in memory: one cell. -/
theorem retC {F : Fr} {t : Tmp} {ty : TypeId} {d : TypeDesc} {a : Addr} (v : Value) (h : fn.results = #[.cell t ty]) (ha : F t = .pointer (some a)) (ht : P.underlying ty = some d) (hd : aggD d = false)
    (hv : w.cell? a = some v) (hS : S v w) : retP P fn S .ret F w :=
  ⟨_, fun tmps htm => by
    have h1 : tmps.getD t undef = .pointer (some a) := by rw [htm, ha]
    simp only [Array.getD_eq_getD_getElem?] at h1
    simp [results, h, h1, asAddr, loadVar, run_isAgg ht, hd, hv], hS⟩
end
section
variable {f0 : Bool} {c0 : Ctx} {P : Program} {F : Fr} {w : World} {dst : Option Tmp} {ty : TypeId} {pos : String} {after : Array Edge} {g : Option (Nat × Bool)}
theorem r_notNilP {x : Operand} {t t' : TypeId} {e : TypeId} {a : Option Addr} (hx : ev F x = .pointer a) (ht : P.underlying t = some (.pointer e)) :
    Run1 P F ⟨dst, .binOp .neq t x (.const (.pointer none)) t', ty, pos, after, g⟩ w (.bool (!a.isNone)) w := by
  have h1 : (Op.equal t (.pointer a) (.pointer none)).run P w = .ok a.isNone w := by
    unfold Op.equal
    rw [show Op.maxDepth = 9999 + 1 from rfl, Op.equalIn]
    cases a <;> simp [run_underlying ht]
  have hy : ev F (.const (.pointer none)) = .pointer none := rfl
  (try unfold Run1); simp [execOp, hx, hy, eqGuard, binOp, h1]
end
set_option linter.unusedVariables false
set_option maxHeartbeats 2000000
set_option maxRecDepth 100000
attribute [local irreducible] W OpsW OpsQ retP
/-! ### The way -/
def wayT : Tre → List UInt8 → List (Tre × List UInt8)
  | .no, _ => []
  | .leaf b v, r => [(.leaf b v, r)]
  | .branch b k, r => (.branch b k, r) :: (if comm b r < b.length then [] else wayT (k (r.getD b.length 0).toNat) (r.drop (b.length + 1)))
def hitT : Tre × List UInt8 → Option (List UInt8)
  | (.leaf b v, r) => if b = r then some v else none
  | _ => none
def hitS (o : Option (List UInt8)) (x : Tre × List UInt8) : Option (List UInt8) := match hitT x with
  | some v => some v
  | none => o
theorem wayT_head {T : Tre} (r : List UInt8) (h : T ≠ .no) : ∃ t, wayT T r = (T, r) :: t := by
  cases T with
  | no => exact absurd rfl h
  | leaf b v => exact ⟨_, rfl⟩
  | branch b k => exact ⟨_, by rw [wayT]⟩
theorem wayT_go {beg : List UInt8} {kids : Nat → Tre} {y : UInt8} {rs : List UInt8} : wayT (.branch beg kids) (beg ++ y :: rs) = (.branch beg kids, beg ++ y :: rs) :: wayT (kids y.toNat) rs := by
  rw [wayT, comm_pre (List.prefix_append _ _), if_neg (Nat.lt_irrefl _), getD_mid, drop_mid]
theorem wayT_stop {beg : List UInt8} {kids : Nat → Tre} {r : List UInt8} (h : comm beg r < beg.length) : wayT (.branch beg kids) r = [(.branch beg kids, r)] := by
  rw [wayT, if_pos h]
theorem comm_lt {beg r : List UInt8} (h : comm beg r < beg.length) : ¬ beg <+: r := fun hp => by rw [comm_pre hp] at h; omega
theorem comm_ge {beg r : List UInt8} (h : ¬ comm beg r < beg.length) : beg <+: r := comm_full (by have := (comm_le beg r).1; omega)
theorem get_way : ∀ (T : Tre) (r : List UInt8) (L : Nat), T.wf L → r.length = L → (wayT T r).foldl hitS none = T.get r := by
  intro T
  induction T with
  | no => intro r L _ _; rfl
  | leaf b v =>
    intro r L _ _
    show hitS none (.leaf b v, r) = (if b = r then some v else none)
    unfold hitS hitT
    by_cases e : b = r
    · simp [e]
    · simp [e]
  | branch beg kids ih =>
    intro r L hw hr
    by_cases hc : comm beg r < beg.length
    · rw [wayT_stop hc, Tre.get_eq, if_neg (comm_lt hc)]; rfl
    · obtain ⟨t, rfl⟩ := comm_ge hc
      cases t with
      | nil => rw [List.append_nil] at hr; have := hw.1; omega
      | cons y rs =>
        rw [wayT_go, Tre.get_br, List.foldl_cons]
        rw [List.length_append, List.length_cons] at hr
        exact ih y.toNat rs _ (hw.2.2.1 _) (by omega)
/-! ### Nodes in blocks that are known -/
theorem By.keepN {C : Nat → Prop} {w w' : World} {v : Value} {bs : List UInt8} (h : By w v bs) (hk : Keep C w w') (hC : bs ≠ [] → InB C v) : By w' v bs := by
  cases bs with
  | nil =>
    obtain ⟨x0, c, rfl, h5, h6, h7, h8, h9⟩ := h
    exact ⟨x0, c, rfl, h5, h6, h7, h8, fun x hx i u hu => by cases hu⟩
  | cons y ys => exact h.keep hk (hC (by simp))
theorem By.inC {w : World} {v : Value} {bs : List UInt8} (h : By w v bs) (x : Nat) (hx : x < w.heap.size → ∃ a e, Blk w x [.pointer a] e) : bs ≠ [] → InB (fun z => z < w.heap.size ∧ z ≠ x) v := by
  intro hne b hb
  obtain ⟨x0, c, rfl, h5, h6, h7, h8, h9⟩ := h
  cases x0 with
  | none => cases hb
  | some y =>
    obtain rfl : y.block = b := Option.some.inj hb
    cases bs with
    | nil => exact absurd rfl hne
    | cons u us =>
      have hc := (h9 y rfl 0 (c8 u) rfl).2
      refine ⟨World.block_lt_of_cell? w ⟨y.block, y.off + 0, none⟩ hc, fun e => ?_⟩
      rw [e] at hc
      obtain ⟨o, ho⟩ : ∃ o, o = y.off + 0 := ⟨_, rfl⟩
      rw [← ho] at hc
      have hlt := World.block_lt_of_cell? w ⟨x, o, none⟩ hc
      obtain ⟨a, ty, hB⟩ := hx hlt
      rw [cell_of_row w x o _ ty (0, 0) hB] at hc
      cases o with
      | zero => cases hc
      | succ n => simp at hc
end Go.Proofs.YtpiidddccmohdaaDoor.B
