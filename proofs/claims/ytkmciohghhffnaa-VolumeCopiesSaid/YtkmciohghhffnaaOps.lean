/-
  The operations that touch no memory, or read it, one lemma each: what an operation yields in a frame.
-/
import Derived.Test.YtkmciohghhffnaaBase
import Derived.Laws.Entries
import Derived.Laws.Sem
import Derived.Laws.Slices
namespace Go.Proofs.Ytkmciohghhffnaa.B
open Go

section
variable {f0 : Bool} {c0 : Ctx} {P : Program} {F : Fr} {w : World} {dst : Option Tmp} {ty : TypeId} {pos : String} {after : Array Edge} {g : Option (Nat × Bool)}

theorem r_move {x : Operand} : Run1 P F ⟨dst, .move x, ty, pos, after, g⟩ w (ev F x) w := rfl
theorem r_assign {x : Operand} : Run1 P F ⟨dst, .assign x, ty, pos, after, g⟩ w (ev F x) w := rfl
theorem r_pick {c x y : Operand} {t : Bool} (hc : ev F c = .bool t) : Run1 P F ⟨dst, .pick c x y, ty, pos, after, g⟩ w (cond t (ev F x) (ev F y)) w := by
  unfold Run1; cases t <;> simp [execOp, hc, asBool]

theorem r_pickT {c x y : Operand} {t : Bool} (hc : ev F c = .bool t) (h : t = true) : Run1 P F ⟨dst, .pick c x y, ty, pos, after, g⟩ w (ev F x) w := by subst h; exact r_pick hc
theorem r_pickF {c x y : Operand} {t : Bool} (hc : ev F c = .bool t) (h : t = false) : Run1 P F ⟨dst, .pick c x y, ty, pos, after, g⟩ w (ev F y) w := by subst h; exact r_pick hc
theorem g_yes {ops : Array Oper} {o : Oper} {j t : Nat} {want b : Bool} (hg : o.guard = some (j, want)) (hd : (ops[j]?).bind (·.dst) = some t) (hv : F t = .bool b) (hb : b = want) : wantedF ops F o = true := by
  unfold wantedF; rw [hg]; simp only [hd, hv, hb]; cases want <;> rfl
theorem g_no {ops : Array Oper} {o : Oper} {j t : Nat} {want b : Bool} (hg : o.guard = some (j, want)) (hd : (ops[j]?).bind (·.dst) = some t) (hv : F t = .bool b) (hb : b = !want) : wantedF ops F o = false := by
  unfold wantedF; rw [hg]; simp only [hd, hv, hb]; cases want <;> rfl
theorem g_split {n : Nat} {ops : Array Oper} {o : Oper} {rest : List Oper} {K : Fr → World → Prop} {j t : Nat} {want b : Bool} (_hg : o.guard = some (j, want)) (_hd : (ops[j]?).bind (·.dst) = some t) (hv : F t = .bool b)
    (hy : b = want → OpsW f0 c0 P n ops (o :: rest) F w K) (hn : b = !want → OpsW f0 c0 P n ops (o :: rest) F w K) : OpsW f0 c0 P n ops (o :: rest) F w K := by
  by_cases h : b = want
  · exact hy h
  · exact hn (by cases b <;> cases want <;> simp_all)

section
variable {n : Nat} {ops : Array Oper} {K : Fr → World → Prop} {rest : List Oper} {d s : Tmp} {v : Value}
theorem o_mvt (hg : wantedF ops F ⟨some d, .move (.tmp s), ty, pos, after, g⟩ = true) (h : OpsW f0 c0 P n ops rest (updc n F d s) w K) : OpsW f0 c0 P n ops (⟨some d, .move (.tmp s), ty, pos, after, g⟩ :: rest) F w K :=
  op_run r_move hg (by rw [updc_eq] at h; exact h)
theorem o_ast (hg : wantedF ops F ⟨some d, .assign (.tmp s), ty, pos, after, g⟩ = true) (h : OpsW f0 c0 P n ops rest (updc n F d s) w K) : OpsW f0 c0 P n ops (⟨some d, .assign (.tmp s), ty, pos, after, g⟩ :: rest) F w K :=
  op_run r_assign hg (by rw [updc_eq] at h; exact h)
theorem o_mvc (hg : wantedF ops F ⟨some d, .move (.const v), ty, pos, after, g⟩ = true) (h : OpsW f0 c0 P n ops rest (upd n F d v) w K) : OpsW f0 c0 P n ops (⟨some d, .move (.const v), ty, pos, after, g⟩ :: rest) F w K := op_run r_move hg h
theorem o_asc (hg : wantedF ops F ⟨some d, .assign (.const v), ty, pos, after, g⟩ = true) (h : OpsW f0 c0 P n ops rest (upd n F d v) w K) : OpsW f0 c0 P n ops (⟨some d, .assign (.const v), ty, pos, after, g⟩ :: rest) F w K := op_run r_assign hg h
theorem o_pkTt {c y : Operand} {t : Bool} (hc : ev F c = .bool t) (ht : t = true) (hg : wantedF ops F ⟨some d, .pick c (.tmp s) y, ty, pos, after, g⟩ = true) (h : OpsW f0 c0 P n ops rest (updc n F d s) w K) : OpsW f0 c0 P n ops (⟨some d, .pick c (.tmp s) y, ty, pos, after, g⟩ :: rest) F w K :=
  op_run (r_pickT hc ht) hg (by rw [updc_eq] at h; exact h)
theorem o_pkTc {c y : Operand} {t : Bool} (hc : ev F c = .bool t) (ht : t = true) (hg : wantedF ops F ⟨some d, .pick c (.const v) y, ty, pos, after, g⟩ = true) (h : OpsW f0 c0 P n ops rest (upd n F d v) w K) : OpsW f0 c0 P n ops (⟨some d, .pick c (.const v) y, ty, pos, after, g⟩ :: rest) F w K :=
  op_run (r_pickT hc ht) hg h
theorem o_pkFt {c x : Operand} {t : Bool} (hc : ev F c = .bool t) (ht : t = false) (hg : wantedF ops F ⟨some d, .pick c x (.tmp s), ty, pos, after, g⟩ = true) (h : OpsW f0 c0 P n ops rest (updc n F d s) w K) : OpsW f0 c0 P n ops (⟨some d, .pick c x (.tmp s), ty, pos, after, g⟩ :: rest) F w K :=
  op_run (r_pickF hc ht) hg (by rw [updc_eq] at h; exact h)
theorem o_pkFc {c x : Operand} {t : Bool} (hc : ev F c = .bool t) (ht : t = false) (hg : wantedF ops F ⟨some d, .pick c x (.const v), ty, pos, after, g⟩ = true) (h : OpsW f0 c0 P n ops rest (upd n F d v) w K) : OpsW f0 c0 P n ops (⟨some d, .pick c x (.const v), ty, pos, after, g⟩ :: rest) F w K :=
  op_run (r_pickF hc ht) hg h
end

theorem run_eqGuard_int (op : BinOp) (t : TypeId) (x y : Operand) (k k' : IntKind) (a b : Int) (w : World) : (eqGuard op t x y (.int k a) (.int k' b)).run P w = .ok () w := by
  unfold eqGuard; cases op <;> rfl

/-! integers -/
theorem r_add {t t' : TypeId} {x y : Operand} {k : IntKind} {a b : Int} (hx : ev F x = .int k a) (hy : ev F y = .int k b) :
    Run1 P F ⟨dst, .binOp .add t x y t', ty, pos, after, g⟩ w (.int k (k.wrap (a + b))) w := by
  (try unfold Run1); simp [execOp, hx, hy, run_eqGuard_int, binOp, Op.intArith]
theorem r_sub {t t' : TypeId} {x y : Operand} {k : IntKind} {a b : Int} (hx : ev F x = .int k a) (hy : ev F y = .int k b) :
    Run1 P F ⟨dst, .binOp .sub t x y t', ty, pos, after, g⟩ w (.int k (k.wrap (a - b))) w := by
  (try unfold Run1); simp [execOp, hx, hy, run_eqGuard_int, binOp, Op.intArith]
theorem r_mul {t t' : TypeId} {x y : Operand} {k : IntKind} {a b : Int} (hx : ev F x = .int k a) (hy : ev F y = .int k b) :
    Run1 P F ⟨dst, .binOp .mul t x y t', ty, pos, after, g⟩ w (.int k (k.wrap (a * b))) w := by
  (try unfold Run1); simp [execOp, hx, hy, run_eqGuard_int, binOp, Op.intArith]
theorem r_quo {t t' : TypeId} {x y : Operand} {k : IntKind} {a b : Int} (hx : ev F x = .int k a) (hy : ev F y = .int k b) (hb : b ≠ 0) :
    Run1 P F ⟨dst, .binOp .quo t x y t', ty, pos, after, g⟩ w (.int k (k.wrap (a.tdiv b))) w := by
  (try unfold Run1); simp [execOp, hx, hy, run_eqGuard_int, binOp, Op.intDiv, hb]
theorem r_rem {t t' : TypeId} {x y : Operand} {k : IntKind} {a b : Int} (hx : ev F x = .int k a) (hy : ev F y = .int k b) (hb : b ≠ 0) :
    Run1 P F ⟨dst, .binOp .rem t x y t', ty, pos, after, g⟩ w (.int k (a.tmod b)) w := by
  (try unfold Run1); simp [execOp, hx, hy, run_eqGuard_int, binOp, Op.intDiv, hb]
/-- What a bitwise operator gives. -/
def bitw (op : BinOp) (k : IntKind) (a b : Int) : Int :=
  match op with
  | .and => k.wrap (BitVec.ofInt k.bits a &&& BitVec.ofInt k.bits b).toNat
  | .or => k.wrap (BitVec.ofInt k.bits a ||| BitVec.ofInt k.bits b).toNat
  | .xor => k.wrap (BitVec.ofInt k.bits a ^^^ BitVec.ofInt k.bits b).toNat
  | .andNot => k.wrap (BitVec.ofInt k.bits a &&& ~~~ BitVec.ofInt k.bits b).toNat
  | _ => 0
theorem r_and {t t' : TypeId} {x y : Operand} {k : IntKind} {a b : Int} (hx : ev F x = .int k a) (hy : ev F y = .int k b) :
    Run1 P F ⟨dst, .binOp .and t x y t', ty, pos, after, g⟩ w (.int k (bitw .and k a b)) w := by
  (try unfold Run1); simp only [execOp, hx, hy, Sem.run_bind, run_eqGuard_int, binOp, Result.andThen_ok, ne_eq, not_true_eq_false, if_false, Op.intBits]; rfl
theorem r_or {t t' : TypeId} {x y : Operand} {k : IntKind} {a b : Int} (hx : ev F x = .int k a) (hy : ev F y = .int k b) :
    Run1 P F ⟨dst, .binOp .or t x y t', ty, pos, after, g⟩ w (.int k (bitw .or k a b)) w := by
  (try unfold Run1); simp only [execOp, hx, hy, Sem.run_bind, run_eqGuard_int, binOp, Result.andThen_ok, ne_eq, not_true_eq_false, if_false, Op.intBits]; rfl
theorem r_xor {t t' : TypeId} {x y : Operand} {k : IntKind} {a b : Int} (hx : ev F x = .int k a) (hy : ev F y = .int k b) :
    Run1 P F ⟨dst, .binOp .xor t x y t', ty, pos, after, g⟩ w (.int k (bitw .xor k a b)) w := by
  (try unfold Run1); simp only [execOp, hx, hy, Sem.run_bind, run_eqGuard_int, binOp, Result.andThen_ok, ne_eq, not_true_eq_false, if_false, Op.intBits]; rfl
theorem r_andNot {t t' : TypeId} {x y : Operand} {k : IntKind} {a b : Int} (hx : ev F x = .int k a) (hy : ev F y = .int k b) :
    Run1 P F ⟨dst, .binOp .andNot t x y t', ty, pos, after, g⟩ w (.int k (bitw .andNot k a b)) w := by
  (try unfold Run1); simp only [execOp, hx, hy, Sem.run_bind, run_eqGuard_int, binOp, Result.andThen_ok, ne_eq, not_true_eq_false, if_false, Op.intBits]; rfl
theorem r_shl {t t' : TypeId} {x y : Operand} {k k' : IntKind} {a b : Int} (hx : ev F x = .int k a) (hy : ev F y = .int k' b) (hb : 0 ≤ b) :
    Run1 P F ⟨dst, .binOp .shl t x y t', ty, pos, after, g⟩ w (.int k (k.wrap (a * 2 ^ (min b.toNat k.bits)))) w := by
  have hb' : ¬ b < 0 := by omega
  (try unfold Run1); simp [execOp, hx, hy, run_eqGuard_int, binOp, Op.shift, hb']
theorem r_shr {t t' : TypeId} {x y : Operand} {k k' : IntKind} {a b : Int} (hx : ev F x = .int k a) (hy : ev F y = .int k' b) (hb : 0 ≤ b) :
    Run1 P F ⟨dst, .binOp .shr t x y t', ty, pos, after, g⟩ w (.int k (a.fdiv (2 ^ (min b.toNat k.bits)))) w := by
  have hb' : ¬ b < 0 := by omega
  (try unfold Run1); simp [execOp, hx, hy, run_eqGuard_int, binOp, Op.shift, hb']
theorem r_lss {t t' : TypeId} {x y : Operand} {k : IntKind} {a b : Int} (hx : ev F x = .int k a) (hy : ev F y = .int k b) :
    Run1 P F ⟨dst, .binOp .lss t x y t', ty, pos, after, g⟩ w (.bool (decide (a < b))) w := by
  (try unfold Run1); simp [execOp, hx, hy, run_eqGuard_int, binOp, Op.intCmp]
theorem r_leq {t t' : TypeId} {x y : Operand} {k : IntKind} {a b : Int} (hx : ev F x = .int k a) (hy : ev F y = .int k b) :
    Run1 P F ⟨dst, .binOp .leq t x y t', ty, pos, after, g⟩ w (.bool (decide (a ≤ b))) w := by
  (try unfold Run1); simp [execOp, hx, hy, run_eqGuard_int, binOp, Op.intCmp]
theorem r_gtr {t t' : TypeId} {x y : Operand} {k : IntKind} {a b : Int} (hx : ev F x = .int k a) (hy : ev F y = .int k b) :
    Run1 P F ⟨dst, .binOp .gtr t x y t', ty, pos, after, g⟩ w (.bool (decide (b < a))) w := by
  (try unfold Run1); simp [execOp, hx, hy, run_eqGuard_int, binOp, Op.intCmp]
theorem r_geq {t t' : TypeId} {x y : Operand} {k : IntKind} {a b : Int} (hx : ev F x = .int k a) (hy : ev F y = .int k b) :
    Run1 P F ⟨dst, .binOp .geq t x y t', ty, pos, after, g⟩ w (.bool (decide (b ≤ a))) w := by
  (try unfold Run1); simp [execOp, hx, hy, run_eqGuard_int, binOp, Op.intCmp]
theorem r_eql {t t' : TypeId} {x y : Operand} {k : IntKind} {a b : Int} (hx : ev F x = .int k a) (hy : ev F y = .int k b) :
    Run1 P F ⟨dst, .binOp .eql t x y t', ty, pos, after, g⟩ w (.bool (decide (a = b))) w := by
  (try unfold Run1); simp [execOp, hx, hy, run_eqGuard_int, binOp, Op.intCmp]
  by_cases h : a = b <;> simp [h]
theorem r_neq {t t' : TypeId} {x y : Operand} {k : IntKind} {a b : Int} (hx : ev F x = .int k a) (hy : ev F y = .int k b) :
    Run1 P F ⟨dst, .binOp .neq t x y t', ty, pos, after, g⟩ w (.bool (decide (a ≠ b))) w := by
  (try unfold Run1); simp [execOp, hx, hy, run_eqGuard_int, binOp, Op.intCmp]
  by_cases h : a = b <;> simp [h, bne]
theorem run_equalB {t : TypeId} (ht : P.underlying t = some .bool) (a b : Bool) (w : World) : (Op.equal t (.bool a) (.bool b)).run P w = .ok (a == b) w := by
  unfold Op.equal
  rw [show Op.maxDepth = 9999 + 1 from rfl, Op.equalIn]
  simp [run_underlying ht]
theorem r_eqlB {t t' : TypeId} {x y : Operand} {a b : Bool} (hx : ev F x = .bool a) (hy : ev F y = .bool b) (ht : P.underlying t = some .bool) :
    Run1 P F ⟨dst, .binOp .eql t x y t', ty, pos, after, g⟩ w (.bool (a == b)) w := by
  (try unfold Run1); simp [execOp, hx, hy, eqGuard, binOp, run_equalB ht]
theorem r_neqB {t t' : TypeId} {x y : Operand} {a b : Bool} (hx : ev F x = .bool a) (hy : ev F y = .bool b) (ht : P.underlying t = some .bool) :
    Run1 P F ⟨dst, .binOp .neq t x y t', ty, pos, after, g⟩ w (.bool (a != b)) w := by
  (try unfold Run1); simp [execOp, hx, hy, eqGuard, binOp, run_equalB ht, bne]
theorem r_not {x : Operand} {t : TypeId} {b : Bool} (hx : ev F x = .bool b) : Run1 P F ⟨dst, .unOp .not t x, ty, pos, after, g⟩ w (.bool (!b)) w := by
  (try unfold Run1); simp [execOp, hx, Op.unary]
theorem r_neg {x : Operand} {t : TypeId} {k : IntKind} {a : Int} (hx : ev F x = .int k a) : Run1 P F ⟨dst, .unOp .neg t x, ty, pos, after, g⟩ w (.int k (k.wrap (0 - a))) w := by
  (try unfold Run1); simp [execOp, hx, Op.unary, Op.intArith]
theorem r_conv {x : Operand} {s t : TypeId} {sd : TypeDesc} {k k' : IntKind} {a : Int} (hx : ev F x = .int k a) (hs : P.underlying s = some sd) (ht : P.underlying t = some (.int k')) :
    Run1 P F ⟨dst, .convert s t x, ty, pos, after, g⟩ w (.int k' (k'.wrap a)) w := by
  (try unfold Run1); simp [execOp, hx, convert, underlying, program, hs, ht, Sem.run, Conv.intToInt, bind, Sem.bind, pure]
theorem r_extract {x : Operand} {i : Nat} {vs : Array Value} {v : Value} (hx : ev F x = .tuple vs) (hv : vs[i]? = some v) :
    Run1 P F ⟨dst, .extract x i, ty, pos, after, g⟩ w v w := by
  (try unfold Run1); simp [execOp, hx, Instr.extract, hv]
theorem r_nilCheck {x : Operand} {a : Addr} (hx : ev F x = .pointer (some a)) : Run1 P F ⟨dst, .nilCheck x, ty, pos, after, g⟩ w (.pointer (some a)) w := by
  (try unfold Run1); simp [execOp, hx]
theorem r_len {x : Operand} {t e : TypeId} {a : Option Addr} {n c : Nat} {ts : Array TypeId} (hx : ev F x = .slice a n c) (h0 : ts[0]? = some t) (ht : P.underlying t = some (.slice e)) :
    Run1 P F ⟨dst, .call ⟨.builtin .len, #[x], ts⟩, ty, pos, after, g⟩ w (.int .i64 n) w := by
  (try unfold Run1); simp [execOp, resolve, invoke, builtin, hx, Builtin.len_, h0, underlying, program, ht, Sem.run, bind, Sem.bind, pure, goInt]
theorem r_len_str {x : Operand} {t : TypeId} {s : ByteArray} {ts : Array TypeId} (hx : ev F x = .string s) (h0 : ts[0]? = some t) (ht : P.underlying t = some .string) :
    Run1 P F ⟨dst, .call ⟨.builtin .len, #[x], ts⟩, ty, pos, after, g⟩ w (.int .i64 s.size) w := by
  (try unfold Run1); simp [execOp, resolve, invoke, builtin, hx, Builtin.len_, h0, underlying, program, ht, Sem.run, bind, Sem.bind, pure, goInt]
end
end Go.Proofs.Ytkmciohghhffnaa.B
