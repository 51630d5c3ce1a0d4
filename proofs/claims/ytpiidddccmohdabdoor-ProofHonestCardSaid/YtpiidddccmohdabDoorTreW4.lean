/-
  trie: the way to a key; nodes in blocks that are known.
-/
import Derived.Test.YtpiidddccmohdabDoorMTreW
import Derived.Test.YtpiidddccmohdabDoorRangeA
import Derived.Test.YtpiidddccmohdabDoorEqB
namespace Go.Proofs.YtpiidddccmohdabDoor.B
open Go
section
variable {P : Program} {fn : Func} {S : Value → World → Prop} {w : World}
/-- One result that lies in memory: one cell. -/
theorem retC {F : Fr} {t : Tmp} {ty : TypeId} {d : TypeDesc} {a : Addr} (v : Value) (h : fn.results = #[.cell t ty]) (ha : F t = .pointer (some a)) (ht : P.underlying ty = some d) (hd : aggD d = false)
    (hv : w.cell? a = some v) (hS : S v w) : retP P fn S .ret F w :=
  ⟨_, fun tmps htm => by
    have h1 : tmps.getD t undef = .pointer (some a) := by rw [htm, ha]
    simp only [Array.getD_eq_getD_getElem?] at h1
    simp [results, h, h1, asAddr, loadVar, run_isAgg ht, hd, hv], hS⟩
end
section
variable {f0 : Bool} {c0 : Ctx} {P : Program} {F : Fr} {w : World} {dst : Option Tmp} {ty : TypeId} {pos : String} {after : Array Edge} {g : Option (Nat × Bool)}
theorem r_notNilP {x : Operand} {t t' : TypeId} {e : TypeId} {a : Option Addr} (hx : ev F x = .pointer a) (ht : P.underlying t = some (.pointer e)) :
    Run1 P F ⟨dst, .binOp .neq t x (.const (.pointer none)) t', ty, pos, after, g⟩ w (.bool (!a.isNone)) w := by
  have h1 : (Op.equal t (.pointer a) (.pointer none)).run P w = .ok a.isNone w := by
    unfold Op.equal
    rw [show Op.maxDepth = 9999 + 1 from rfl, Op.equalIn]
    cases a <;> simp [run_underlying ht]
  have hy : ev F (.const (.pointer none)) = .pointer none := rfl
  (try unfold Run1); simp [execOp, hx, hy, eqGuard, binOp, h1]
end
set_option linter.unusedVariables false
set_option maxHeartbeats 2000000
set_option maxRecDepth 100000
attribute [local irreducible] W OpsW OpsQ retP
/-! ### The way -/
def wayT : Tre → List UInt8 → List (Tre × List UInt8)
  | .no, _ => []
  | .leaf b v, r => [(.leaf b v, r)]
  | .branch b k, r => (.branch b k, r) :: (if comm b r < b.length then [] else wayT (k (r.getD b.length 0).toNat) (r.drop (b.length + 1)))
def hitT : Tre × List UInt8 → Option (List UInt8)
  | (.leaf b v, r) => if b = r then some v else none
  | _ => none
def hitS (o : Option (List UInt8)) (x : Tre × List UInt8) : Option (List UInt8) := match hitT x with
  | some v => some v
  | none => o
theorem wayT_head {T : Tre} (r : List UInt8) (h : T ≠ .no) : ∃ t, wayT T r = (T, r) :: t := by
  cases T with
  | no => exact absurd rfl h
  | leaf b v => exact ⟨_, rfl⟩
  | branch b k => exact ⟨_, by rw [wayT]⟩
theorem wayT_go {beg : List UInt8} {kids : Nat → Tre} {y : UInt8} {rs : List UInt8} : wayT (.branch beg kids) (beg ++ y :: rs) = (.branch beg kids, beg ++ y :: rs) :: wayT (kids y.toNat) rs := by
  rw [wayT, comm_pre (List.prefix_append _ _), if_neg (Nat.lt_irrefl _), getD_mid, drop_mid]
theorem wayT_stop {beg : List UInt8} {kids : Nat → Tre} {r : List UInt8} (h : comm beg r < beg.length) : wayT (.branch beg kids) r = [(.branch beg kids, r)] := by
  rw [wayT, if_pos h]
theorem comm_lt {beg r : List UInt8} (h : comm beg r < beg.length) : ¬ beg <+: r := fun hp => by rw [comm_pre hp] at h; omega
theorem comm_ge {beg r : List UInt8} (h : ¬ comm beg r < beg.length) : beg <+: r := comm_full (by have := (comm_le beg r).1; omega)
theorem get_way : ∀ (T : Tre) (r : List UInt8) (L : Nat), T.wf L → r.length = L → (wayT T r).foldl hitS none = T.get r := by
  intro T
  induction T with
  | no => intro r L _ _; rfl
  | leaf b v =>
    intro r L _ _
    show hitS none (.leaf b v, r) = (if b = r then some v else none)
    unfold hitS hitT
    by_cases e : b = r
    · simp [e]
    · simp [e]
  | branch beg kids ih =>
    intro r L hw hr
    by_cases hc : comm beg r < beg.length
    · rw [wayT_stop hc, Tre.get_eq, if_neg (comm_lt hc)]; rfl
    · obtain ⟨t, rfl⟩ := comm_ge hc
      cases t with
      | nil => rw [List.append_nil] at hr; have := hw.1; omega
      | cons y rs =>
        rw [wayT_go, Tre.get_br, List.foldl_cons]
        rw [List.length_append, List.length_cons] at hr
        exact ih y.toNat rs _ (hw.2.2.1 _) (by omega)
/-! ### Nodes in blocks that are known -/
theorem By.keepN {C : Nat → Prop} {w w' : World} {v : Value} {bs : List UInt8} (h : By w v bs) (hk : Keep C w w') (hC : bs ≠ [] → InB C v) : By w' v bs := by
  cases bs with
  | nil =>
    obtain ⟨x0, c, rfl, h5, h6, h7, h8, h9⟩ := h
    exact ⟨x0, c, rfl, h5, h6, h7, h8, fun x hx i u hu => by cases hu⟩
  | cons y ys => exact h.keep hk (hC (by simp))
theorem By.inC {w : World} {v : Value} {bs : List UInt8} (h : By w v bs) (x : Nat) (hx : x < w.heap.size → ∃ a e, Blk w x [.pointer a] e) : bs ≠ [] → InB (fun z => z < w.heap.size ∧ z ≠ x) v := by
  intro hne b hb
  obtain ⟨x0, c, rfl, h5, h6, h7, h8, h9⟩ := h
  cases x0 with
  | none => cases hb
  | some y =>
    obtain rfl : y.block = b := Option.some.inj hb
    cases bs with
    | nil => exact absurd rfl hne
    | cons u us =>
      have hc := (h9 y rfl 0 (c8 u) rfl).2
      refine ⟨World.block_lt_of_cell? w ⟨y.block, y.off + 0, none⟩ hc, fun e => ?_⟩
      rw [e] at hc
      obtain ⟨o, ho⟩ : ∃ o, o = y.off + 0 := ⟨_, rfl⟩
      rw [← ho] at hc
      have hlt := World.block_lt_of_cell? w ⟨x, o, none⟩ hc
      obtain ⟨a, ty, hB⟩ := hx hlt
      rw [cell_of_row w x o _ ty (0, 0) hB] at hc
      cases o with
      | zero => cases hc
      | succ n => simp at hc
def NodeB (B : Nat → Prop) (w : World) : Tre → Value → Prop
  | .no, v => v = .pointer none
  | .leaf beg val, v => ∃ b vb vv, v = .pointer (some ⟨b, 0, none⟩) ∧ Blk w b [vb, vv, .pointer none] 69 ∧ By w vb beg ∧ By w vv val ∧ B b ∧ (beg ≠ [] → InB B vb) ∧ (val ≠ [] → InB B vv)
  | .branch beg kids, v => ∃ b vb vv bk ps, v = .pointer (some ⟨b, 0, none⟩) ∧ Blk w b [vb, vv, .pointer (some ⟨bk, 0, none⟩)] 69 ∧ By w vb beg ∧ one vv = true ∧ Blk w bk ps 71 ∧ ps.length = 16 ∧ B b ∧ B bk ∧ (beg ≠ [] → InB B vb) ∧ ∀ (i : Nat) (p : Value), ps[i]? = some p → NodeB B w (kids i) p
theorem NodeB.toIn {B : Nat → Prop} {w : World} : ∀ {T : Tre} {v : Value}, NodeB B w T v → NodeIn w T v := by
  intro T
  induction T with
  | no => intro v h; exact h
  | leaf beg val => rintro v ⟨b, vb, vv, e, h1, h2, h3, _⟩; exact ⟨b, vb, vv, e, h1, h2, h3⟩
  | branch beg kids ih => rintro v ⟨b, vb, vv, bk, ps, e, h1, h2, h3, h4, h5, _, _, _, h6⟩; exact ⟨b, vb, vv, bk, ps, e, h1, h2, h3, h4, h5, fun i p hp => ih i (h6 i p hp)⟩
theorem NodeB.k {B C : Nat → Prop} {w w' : World} (hk : Keep C w w') (hB : ∀ z, B z → C z) : ∀ {T : Tre} {v : Value}, NodeB B w T v → NodeB B w' T v := by
  intro T
  induction T with
  | no => intro v h; exact h
  | leaf beg val => rintro v ⟨b, vb, vv, e, h1, h2, h3, h4, h5, h6⟩; exact ⟨b, vb, vv, e, hk.blk' h1 (hB _ h4), h2.keepN hk (fun h => (h5 h).mono hB), h3.keepN hk (fun h => (h6 h).mono hB), h4, h5, h6⟩
  | branch beg kids ih => rintro v ⟨b, vb, vv, bk, ps, e, h1, h2, h3, h4, h5, h7, h8, h9, h6⟩; exact ⟨b, vb, vv, bk, ps, e, hk.blk' h1 (hB _ h7), h2.keepN hk (fun h => (h9 h).mono hB), h3, hk.blk' h4 (hB _ h8), h5, h7, h8, h9, fun i p hp => ih i (h6 i p hp)⟩
/-- All its blocks were there; none of them is one with a pointer alone. -/
theorem NodeIn.toB {w : World} (x : Nat) (hx : x < w.heap.size → ∃ a e, Blk w x [.pointer a] e) : ∀ {T : Tre} {v : Value}, NodeIn w T v → NodeB (fun z => z < w.heap.size ∧ z ≠ x) w T v := by
  have hb : ∀ {b l e}, Blk w b l e → 1 < l.length → b < w.heap.size ∧ b ≠ x := fun {b l e} h hl => ⟨h.lt, fun eq => by
    subst eq
    obtain ⟨a, ty, hB⟩ := hx h.lt
    have h1 : some (Obj.cells _ _ _) = some (Obj.cells _ _ _) := h.symm.trans hB
    injection h1 with h1; injection h1 with h1
    have := congrArg Array.size h1
    simp at this; omega⟩
  intro T
  induction T with
  | no => intro v h; exact h
  | leaf beg val => rintro v ⟨b, vb, vv, e, h1, h2, h3⟩; exact ⟨b, vb, vv, e, h1, h2, h3, hb h1 (by simp), h2.inC x hx, h3.inC x hx⟩
  | branch beg kids ih => rintro v ⟨b, vb, vv, bk, ps, e, h1, h2, h3, h4, h5, h6⟩; exact ⟨b, vb, vv, bk, ps, e, h1, h2, h3, h4, h5, hb h1 (by simp), hb h4 (by omega), h2.inC x hx, fun i p hp => ih i (h6 i p hp)⟩
theorem NodeIn.toB0 {w : World} {T : Tre} {v : Value} (h : NodeIn w T v) : NodeB (fun z => z < w.heap.size ∧ z ≠ w.heap.size) w T v := h.toB w.heap.size fun h => absurd h (Nat.lt_irrefl _)
theorem NodeB.open {B : Nat → Prop} {w : World} {T : Tre} {v : Value} (h : NodeB B w T v) (hn : T ≠ .no) : ∃ b vb vv pk, v = .pointer (some ⟨b, 0, none⟩) ∧ Blk w b [vb, vv, .pointer pk] 69 ∧ By w vb (begT T) ∧ one vv = true ∧
    ((pk = none ∧ ∃ beg val, T = .leaf beg val ∧ By w vv val) ∨ ∃ beg kids bk ps, T = .branch beg kids ∧ pk = some ⟨bk, 0, none⟩ ∧ Blk w bk ps 71 ∧ ps.length = 16 ∧ ∀ (i : Nat) (p : Value), ps[i]? = some p → NodeB B w (kids i) p) := by
  cases T with
  | no => exact absurd rfl hn
  | leaf beg val =>
    obtain ⟨b, vb, vv, e, h1, h2, h3, _⟩ := h
    exact ⟨b, vb, vv, none, e, h1, h2, h3.one1, .inl ⟨rfl, beg, val, rfl, h3⟩⟩
  | branch beg kids =>
    obtain ⟨b, vb, vv, bk, ps, e, h1, h2, h3, h4, h5, _, _, _, h6⟩ := h
    exact ⟨b, vb, vv, _, e, h1, h2, h3, .inr ⟨beg, kids, bk, ps, rfl, rfl, h4, h5, h6⟩⟩
/-! ### The iterator -/
def wayR (T0 : Tre) (key : Dig) (B : Nat → Prop) (b bK bT : Nat) (w : World) : Prop :=
  Blk w bK (dgR key) 24 ∧ Blk w bT [.pointer (some ⟨b, 0, none⟩)] 28 ∧ ∃ v, Blk w b [v] 49 ∧ NodeB B w T0 v
def wayE (T0 : Tre) (key : Dig) (B : Nat → Prop) (k : Nat) (args : Array Value) (w : World) : Prop :=
  ∃ p vr T r, (wayT T0 (nibs key.val))[k]? = some (T, r) ∧ args = #[p, vr] ∧ NodeB B w T p ∧ By w vr r
def wayM : List Value → Nat
  | [.slice _ n _, _] => n
  | _ => 0
theorem tw_walk (T0 : Tre) (key : Dig) (B : Nat → Prop) (b bK bT : Nat) (hwf : T0.wf 64) (l : Nat) (J : Nat → Nat → World → Prop) (Jx : World → Prop) (w : World) (hR : wayR T0 key B b bK bT w) (hBz : ∀ z, B z → z < w.heap.size)
    (hJ : ∀ hi k w1 w2, J hi k w1 → Keep All w1 w2 → J hi k w2) (hJx : ∀ w1 w2, Jx w1 → Keep All w1 w2 → Jx w2)
    (hY : ∀ hi k args w1, J hi k w1 → w.heap.size ≤ hi → hi ≤ w1.heap.size → k < (wayT T0 (nibs key.val)).length → wayE T0 key B k args w1 → YieldsB Tryd.prog l args w1 fun b w2 => (b = true → J hi (k + 1) w2 ∧ Keep (fun z => B z ∨ (w.heap.size ≤ z ∧ z < hi)) w1 w2) ∧ (b = false → Jx w2))
    (h0 : ∀ w1, Keep All w w1 → J w1.heap.size 0 w1) :
    Ret Tryd.prog 31 [.func (.yield l) #[] #[], .pointer (some ⟨bK, 0, none⟩), .pointer (some ⟨bT, 0, none⟩)].toArray w fun _ w' => (∃ hi, J hi (wayT T0 (nibs key.val)).length w') ∨ Jx w' := by
  obtain ⟨hRk, hRt, v, hRv, hRn⟩ := hR
  obtain ⟨a, rfl, _⟩ := hRn.toIn.ptr
  obtain ⟨N0, hN0⟩ : ∃ N0, N0 = wayT T0 (nibs key.val) := ⟨_, rfl⟩
  refine enter (fn := Tryd.f31) (n := 56) Tryd.func31 rfl rfl (by simp) ?_
  refine W_seq ?_
  refine W_region ?_
  refine op_run (r_loadA (dgR key) rfl rfl rfl (by first | rfl | (rw [binV_len]; rfl) | (rw [dgR_len]; rfl) | (rw [refR_len]; rfl) | (rw [secR_len]; rfl) | (rw [List.length_map, tagF_len]; rfl) | rfl) (hRk.all)) rfl ?_
  refine op_call rfl rfl rfl (tr_nibbles w key) ?_; rintro v2 w2 ⟨hO2, hin2, hk2⟩
  obtain ⟨a2, c2, rfl, _, _⟩ := (OwnB.by_ hO2).form
  obtain ⟨hi, hhi⟩ : ∃ hi, hi = w2.heap.size := ⟨_, rfl⟩
  have hlo : w.heap.size ≤ hi := by rw [hhi]; exact hk2.size
  have hn64 : (nibs key.val).length = 64 := by rw [nibs_len, key.2]
  refine o_ast rfl ?_
  refine ops_nil ?_
  refine W_seq ?_
  refine W_region ?_
  refine op_run (r_load rfl rfl rfl ((hk2.blk' hRt trivial).cell rfl)) rfl ?_
  refine op_run (r_nilCheck rfl) rfl ?_
  refine op_run (r_fieldAddr rfl rfl rfl rfl rfl) rfl ?_
  refine op_run (r_load rfl rfl rfl ((hk2.blk' hRv trivial).cell rfl)) rfl ?_
  refine o_ast rfl ?_
  refine ops_nil ?_
  refine W_block ?_
  refine W_loop [4, 5] [4, 5, 6, 13, 14, 15, 16, 17, 18, 19, 20, 21, 22, 23, 24, 25, 26, 27, 28, 29, 30, 31, 32, 33, 34, 35, 36, 37, 38, 39, 40, 41, 42, 43, 44, 45, 46, 47, 48, 49, 50, 51, 52, 53, 54, 55] (fun vs w' => ∃ (k : Nat) (a : Option Addr) (ar : Option Addr) (cr : Nat) (T : Tre) (rest : List UInt8), vs = [.slice ar rest.length cr, .pointer a] ∧ T.wf rest.length ∧ rest.length ≤ 64 ∧ nib16 rest ∧ wayT T rest = N0.drop k ∧ k ≤ N0.length ∧
    NodeB B w' T (.pointer a) ∧ By w' (.slice ar rest.length cr) rest ∧ (rest ≠ [] → InB (fun z => w.heap.size ≤ z ∧ z < hi) (.slice ar rest.length cr)) ∧ J hi k w' ∧ hi ≤ w'.heap.size) (fun vs _ => wayM vs)
    ⟨0, a, a2, c2, T0, nibs key.val, rfl, by rw [hn64]; exact hwf, by omega, nibs_16 _, by rw [List.drop_zero, hN0], Nat.zero_le _, hRn.k hk2 (fun _ _ => trivial), OwnB.by_ hO2, fun _ z hz => ⟨hin2 z hz, by rw [hhi]; exact hO2.lt z hz⟩, by rw [hhi]; exact h0 w2 hk2, by rw [hhi]; exact Nat.le_refl _⟩ ?_
  rintro J5 vs w5 ⟨k, a, ar, cr, T, rest, rfl, hwfT, hr64, hr16, hway, hkN, hN5, hby5, hin5, hJ5, hhi5⟩ -
  refine W_seq ?_
  refine W_cut [20] [13, 14, 15, 16, 17, 18, 19, 20] (fun vs w6 => ∃ go : Bool, vs = [.bool go] ∧ (go = true → T ≠ .no ∧ J hi (k + 1) w6 ∧ Keep (fun z => B z ∨ (w.heap.size ≤ z ∧ z < hi)) w5 w6) ∧ (go = false → (T = .no ∧ J hi k w6) ∨ Jx w6)) ?_ ?_
  · refine W_region ?_
    refine o_mvt rfl ?_
    refine op_run (r_notNilP rfl rfl) rfl ?_
    refine o_mvt rfl ?_
    refine g_split rfl rfl rfl (fun g8 => ?_) (fun g8 => ?_)
    · refine o_mvt (g_yes rfl rfl rfl g8) ?_
      refine o_mvt (g_yes rfl rfl rfl g8) ?_
      refine o_mvt (g_yes rfl rfl rfl g8) ?_
      have hTn : T ≠ .no := fun e => by
        obtain ⟨_, e1, e2⟩ := hN5.toIn.ptr
        injection e1 with e1; subst e1
        rw [e2.2 e] at g8; cases g8
      obtain ⟨tl, htl⟩ := wayT_head rest hTn
      have hkl : k < N0.length := Nat.lt_of_not_le fun h => by rw [List.drop_eq_nil_of_le h, htl] at hway; cases hway
      have hget : N0[k]? = some (T, rest) := by rw [List.drop_eq_getElem_cons hkl, htl] at hway; injection hway with h1 h2; rw [List.getElem?_eq_getElem hkl, h1]
      refine op_yield rfl (g_yes rfl rfl rfl g8) (hY hi k _ w5 hJ5 hlo hhi5 (by rw [← hN0]; exact hkl) ⟨.pointer a, .slice ar rest.length cr, T, rest, by rw [← hN0]; exact hget, rfl, hN5, hby5⟩) ?_; rintro b9 w9 ⟨hT9, hF9⟩
      refine o_pkTt rfl g8 rfl ?_
      refine ops_nil ?_
      exact ⟨by (repeat (first | with_reducible exact offM_refl _ _ | refine offM_updc rfl ?_ | refine offM_upd rfl ?_ | refine offM_updo rfl ?_ | refine offM_updo_none ?_ | refine offM_head rfl rfl ?_)), b9, rfl, fun h => ⟨hTn, hT9 h⟩, fun h => .inr (hF9 h)⟩
    · refine op_skip (g_no rfl rfl rfl g8) ?_
      refine op_skip (g_no rfl rfl rfl g8) ?_
      refine op_skip (g_no rfl rfl rfl g8) ?_
      refine op_skip (g_no rfl rfl rfl g8) ?_
      refine o_pkFc rfl g8 rfl ?_
      refine ops_nil ?_
      exact ⟨by (repeat (first | with_reducible exact offM_refl _ _ | refine offM_updc rfl ?_ | refine offM_upd rfl ?_ | refine offM_updo rfl ?_ | refine offM_updo_none ?_ | refine offM_head rfl rfl ?_)), false, rfl, (fun h => by cases h), fun _ => .inl ⟨by
        obtain ⟨_, e1, e2⟩ := hN5.toIn.ptr
        injection e1 with e1; subst e1
        exact e2.1 (by cases a with
          | none => rfl
          | some x => cases g8), hJ5⟩⟩
  · rintro J12 vs w12 ⟨go, rfl, hgo, hngo⟩ -
    refine W_cond rfl (fun h13 => ?_) (fun h13 => ?_)
    · refine W_skip ?_
      refine W_block ?_
      refine W_seq ?_
      refine W_region ?_
      obtain ⟨hTn, hJ12, hk12⟩ := hgo h13
      have hN12 := hN5.k hk12 (fun z hz => .inl hz)
      have hby12 := hby5.keepN hk12 (fun h => (hin5 h).mono fun z hz => .inr hz)
      have hhi12 : hi ≤ w12.heap.size := Nat.le_trans hhi5 hk12.size
      obtain ⟨bn, vb, vvn, pk, ev_, hB, hb, hvn, hcase⟩ := hN12.open hTn
      cases ev_
      obtain ⟨ab, cb, rfl, hcb0, hcbm⟩ := hb.form
      have hcl := comm_le (begT T) rest
      obtain ⟨tl, htl⟩ := wayT_head rest hTn
      have hkl : k < N0.length := Nat.lt_of_not_le fun h => by rw [List.drop_eq_nil_of_le h, htl] at hway; cases hway
      have htl2 : tl = N0.drop (k + 1) := by rw [List.drop_eq_getElem_cons hkl, htl] at hway; injection hway
      refine o_mvt rfl ?_
      refine op_run (r_nilCheck rfl) rfl ?_
      refine op_run (r_fieldAddr rfl rfl rfl rfl rfl) rfl ?_
      refine op_run (r_load rfl rfl rfl (hB.cell rfl)) rfl ?_
      refine op_run (r_len rfl rfl rfl) rfl ?_
      refine o_ast rfl ?_
      refine ops_nil ?_
      refine W_seq ?_
      refine W_cut [40] [26, 27, 28, 29, 30, 31, 32, 33, 34, 35, 36, 37, 38, 39, 40] (fun vs w15 => ∃ d : Bool, vs = [.bool d] ∧ (d = true ↔ (pk.isNone = true ∨ comm (begT T) rest < (begT T).length)) ∧ Keep All w12 w15) ?_ ?_
      · refine W_region ?_
        refine o_mvt rfl ?_
        refine op_run (r_nilCheck rfl) rfl ?_
        refine op_run (r_fieldAddr rfl rfl rfl rfl rfl) rfl ?_
        refine op_run (r_load rfl rfl rfl (hB.cell rfl)) rfl ?_
        refine op_run (r_isNilP rfl rfl) rfl ?_
        refine o_mvt rfl ?_
        refine g_split rfl rfl rfl (fun g17 => ?_) (fun g17 => ?_)
        · refine o_mvt (g_yes rfl rfl rfl g17) ?_
          refine op_run (r_nilCheck rfl) (g_yes rfl rfl rfl g17) ?_
          refine op_run (r_fieldAddr rfl rfl rfl rfl rfl) (g_yes rfl rfl rfl g17) ?_
          refine op_run (r_load rfl rfl rfl (hB.cell rfl)) (g_yes rfl rfl rfl g17) ?_
          refine o_mvt (g_yes rfl rfl rfl g17) ?_
          refine op_call rfl rfl (g_yes rfl rfl rfl g17) (tr_common w12 _ _ (begT T) rest hb hby12) ?_; rintro v19 w19 ⟨rfl, hk19⟩
          refine o_mvt (g_yes rfl rfl rfl g17) ?_
          refine op_run (r_lss rfl rfl) (g_yes rfl rfl rfl g17) ?_
          refine o_pkFt rfl g17 rfl ?_
          refine ops_nil ?_
          exact ⟨by (repeat (first | with_reducible exact offM_refl _ _ | refine offM_updc rfl ?_ | refine offM_upd rfl ?_ | refine offM_updo rfl ?_ | refine offM_updo_none ?_ | refine offM_head rfl rfl ?_)), decide (comm (begT T) rest < (begT T).length), congrArg (fun b => [Value.bool b]) (by rw [decide_eq_decide]; omega), by rw [g17]; simp, hk19⟩
        · refine op_skip (g_no rfl rfl rfl g17) ?_
          refine op_skip (g_no rfl rfl rfl g17) ?_
          refine op_skip (g_no rfl rfl rfl g17) ?_
          refine op_skip (g_no rfl rfl rfl g17) ?_
          refine op_skip (g_no rfl rfl rfl g17) ?_
          refine op_skip (g_no rfl rfl rfl g17) ?_
          refine op_skip (g_no rfl rfl rfl g17) ?_
          refine op_skip (g_no rfl rfl rfl g17) ?_
          refine o_pkTc rfl g17 rfl ?_
          refine ops_nil ?_
          exact ⟨by (repeat (first | with_reducible exact offM_refl _ _ | refine offM_updc rfl ?_ | refine offM_upd rfl ?_ | refine offM_updo rfl ?_ | refine offM_updo_none ?_ | refine offM_head rfl rfl ?_)), true, congrArg (fun b => [Value.bool b]) (by simp), by simp at g17; simp [g17], Keep.refl _⟩
      · rintro J22 vs w22 ⟨d, rfl, hd, hk22⟩ -
        refine W_cond rfl (fun h23 => ?_) (fun h23 => ?_)
        · refine W_ret ?_
          refine ret0' rfl ?_
          have hone : tl = [] := by
            rcases hcase with ⟨_, beg, val, rfl, _⟩ | ⟨beg, kids, bk, ps, rfl, rfl, _⟩
            · have h : [((Tre.leaf beg val, rest) : Tre × List UInt8)] = _ := htl; injection h with _ h; exact h.symm
            · rcases hd.1 h23 with h | h
              · cases h
              · have h' : comm beg rest < beg.length := h
                rw [wayT_stop h'] at htl; injection htl with _ h; exact h.symm
          refine .inl ⟨hi, ?_⟩
          rw [← hN0]
          have e : k + 1 = N0.length := by
            rw [hone] at htl2
            have := congrArg List.length htl2
            rw [List.length_drop] at this
            simp at this; omega
          rw [← e]; exact hJ _ _ _ _ hJ12 hk22
        · refine W_skip ?_
          have hdn : ¬ (pk.isNone = true ∨ comm (begT T) rest < (begT T).length) := fun h => by rw [hd.2 h] at h23; cases h23
          obtain ⟨beg, kids, bk, ps, rfl, rfl, hBk, hps, hkids⟩ : ∃ beg kids bk ps, T = .branch beg kids ∧ pk = some ⟨bk, 0, none⟩ ∧ Blk w12 bk ps 71 ∧ ps.length = 16 ∧ ∀ (i : Nat) (p : Value), ps[i]? = some p → NodeB B w12 (kids i) p := by
            rcases hcase with ⟨rfl, _⟩ | h
            · exact absurd (.inl rfl) hdn
            · exact h
          have hb : By w12 (.slice ab beg.length cb) beg := hb
          have hB : Blk w12 bn [.slice ab beg.length cb, vvn, .pointer (some ⟨bk, 0, none⟩)] 69 := hB
          obtain ⟨rr, hrr⟩ := comm_ge (beg := beg) (r := rest) (fun h => hdn (.inr h))
          subst hrr
          obtain ⟨y, rs, rfl⟩ : ∃ y rs, rr = y :: rs := by
            cases rr with
            | nil => rw [List.append_nil] at hwfT; have := hwfT.1; omega
            | cons y rs => exact ⟨y, rs, rfl⟩
          have hbl := hwfT.1
          have hy16 : y.toNat < 16 := hr16 y (List.mem_append.2 (.inr (List.mem_cons_self ..)))
          obtain ⟨q, hq⟩ : ∃ q, ps[y.toNat]? = some q := ⟨_, List.getElem?_eq_getElem (by omega)⟩
          have hNq := hkids _ _ hq
          obtain ⟨aq, rfl, _⟩ := hNq.toIn.ptr
          obtain ⟨bq, oq, cq, eq_, hcq, _, hcy⟩ := hby12.at (by rw [List.length_append, List.length_cons]; omega)
          cases eq_
          have hgy : ((beg ++ y :: rs).map c8)[beg.length]? = some (c8 y) := by rw [List.getElem?_map, List.getElem?_append_right (Nat.le_refl _), Nat.sub_self]; rfl
          have hd2 := By.dropS (k := beg.length + 1) hby12 (by omega)
          rw [drop_mid] at hd2
          have hinc := inc64' beg.length (by omega)
          refine W_quiet (Keep All w22) (by kernel_rfl) (by kernel_rfl) (Keep.drawn _) ?_
          refine q_mvt rfl ?_
          refine q_run (fun _ _ => (r_nilCheck rfl)) rfl ?_
          refine q_run (fun _ _ => (r_fieldAddr rfl rfl rfl rfl rfl)) rfl ?_
          refine q_run (fun _ hk => r_load rfl rfl rfl (hk.cell ((hk22.blk' hB trivial).cell rfl) trivial)) rfl ?_
          refine q_mvt rfl ?_
          refine q_mvt rfl ?_
          refine q_run (fun _ _ => r_idxS1 rfl rfl rfl rfl (by (show (0 : Int) ≤ (beg.length : Int); omega)) (by (show (beg.length : Int) < _; omega))) rfl ?_
          refine q_run (fun _ hk => r_load (v := c8 y) rfl rfl rfl (hk.cell (hk22.cell (show w12.cell? ⟨bq, oq + ((beg.length : Nat) : Int).toNat, none⟩ = _ from by rw [Int.toNat_natCast]; exact hcy _ _ hgy) trivial) trivial)) rfl ?_
          refine q_run (fun _ _ => (r_nilCheck rfl)) rfl ?_
          refine q_run (fun _ _ => r_idxA1 rfl rfl rfl rfl (by omega) (by omega)) rfl ?_
          refine q_run (fun _ hk => r_load (v := .pointer aq) rfl rfl rfl (hk.cell ((hk22.blk' hBk trivial).cell (by rw [Int.toNat_natCast, Nat.zero_add]; exact hq)) trivial)) rfl ?_
          refine q_mvt rfl ?_
          refine q_mvt rfl ?_
          refine q_run (fun _ _ => ((r_add rfl rfl).val (congrArg (Value.int .i64) hinc))) rfl ?_
          refine q_run (fun _ _ => (r_sliceS_lo rfl rfl rfl rfl (by omega) (by (show ((beg.length + 1 : Nat) : Int) ≤ _; omega)))) rfl ?_
          refine q_ast rfl ?_
          refine q_ast rfl ?_
          refine q_nil ?_; intro w32 hk32
          have hd3 := Sl.k hd2 (hk22.trans hk32)
          obtain ⟨aX, cX, eX, _⟩ := hd3.form
          refine ⟨by (repeat (first | with_reducible exact offM_refl _ _ | refine offM_updc rfl ?_ | refine offM_upd rfl ?_ | refine offM_updo rfl ?_ | refine offM_updo_none ?_ | refine offM_head rfl rfl ?_)), ?_, ?_⟩
          ·
            have hJ32 := hJ _ _ _ _ hJ12 (hk22.trans hk32)
            refine ⟨k + 1, aq, aX, cX, kids y.toNat, rs, congrArg (fun z => [z, Value.pointer aq]) eX, ?_, ?_, fun z hz => hr16 z (List.mem_append.2 (.inr (List.mem_cons_of_mem _ hz))), ?_, hkl, hNq.k (hk22.trans hk32) (fun _ _ => trivial), by rw [← eX]; exact hd3, ?_, hJ32, Nat.le_trans hhi12 (hk22.trans hk32).size⟩
            · have := hwfT.2.2.1 y.toNat
              rwa [show (beg ++ y :: rs).length - beg.length - 1 = rs.length by rw [List.length_append, List.length_cons]; omega] at this
            · rw [List.length_append, List.length_cons] at hr64; omega
            · rw [wayT_go] at htl; injection htl with _ h; rw [h, htl2]
            · intro hne
              have hb2 : ∃ z, (subSl (some ⟨bq, oq, none⟩) 1 (beg.length + 1) (beg ++ y :: rs).length cr).ownBlock = some z ∧ z = bq := by
                unfold subSl
                rw [if_neg (by intro e; have := List.length_pos_iff.2 hne; rw [List.length_append, List.length_cons] at hcq; omega)]
                exact ⟨bq, rfl, rfl⟩
              rw [← eX]
              obtain ⟨z0, hz0, rfl⟩ := hb2
              intro z hz
              rw [hz0] at hz
              injection hz with hz
              rw [← hz]
              exact hin5 (by simp) _ rfl
          · show wayM [subSl (some ⟨bq, oq, none⟩) 1 (beg.length + 1) (beg ++ y :: rs).length cr, Value.pointer aq] < (beg ++ y :: rs).length
            rw [eX]
            show rs.length < (beg ++ y :: rs).length
            rw [List.length_append, List.length_cons]; omega
    · refine W_exit ?_
      refine ret0 rfl ?_
      rcases hngo (by simpa using h13) with ⟨h, hJ12⟩ | h
      · refine .inl ⟨hi, ?_⟩
        rw [← hN0]
        have e : k = N0.length := by
          rw [h] at hway
          have := congrArg List.length hway
          rw [List.length_drop] at this
          have e0 : (wayT .no rest).length = 0 := rfl
          omega
        rw [← e]; exact hJ12
      · exact .inr h
end Go.Proofs.YtpiidddccmohdabDoor.B
