/-
  sha: rot, and the taking of a block.
-/
import Derived.Test.YtnjepmdgbkhoaaaWord
namespace Go.Proofs.Ytnjepmdgbkhoaaa.B
open Go
set_option linter.unusedVariables false
set_option maxHeartbeats 2000000
set_option maxRecDepth 100000
attribute [local irreducible] W OpsW OpsQ retP
/-- A number turned to the right. -/
def rotr (x : Wd) (n : Nat) : Wd := x <<< (32 - n) ||| x >>> n
theorem and31 (n : Nat) (h1 : 1 ≤ n) (h2 : n ≤ 31) : bitw .and .u64 (IntKind.u64.wrap (IntKind.i64.wrap (0 - (n : Int)))) 31 = ((32 - n : Nat) : Int) := by
  have e : IntKind.u64.wrap (IntKind.i64.wrap (0 - (n : Int))) = ((18446744073709551616 - n : Nat) : Int) := by
    rw [wrap_i64 (by omega) (by omega), wrap_u64]; omega
  rw [e, show (31 : Int) = ((31 : Nat) : Int) from rfl, bitw_and rfl _ _ (by show _ < 2 ^ 64; omega) (by decide)]
  have h := Nat.and_two_pow_sub_one_eq_mod (18446744073709551616 - n) 5
  simp only [show 2 ^ 5 - 1 = 31 from rfl, show 2 ^ 5 = 32 from rfl] at h
  rw [h]
  have : (18446744073709551616 - n) % 32 = 32 - n := by omega
  rw [this]

theorem rot32 (w : World) (x : Wd) (n : Nat) (h1 : 1 ≤ n) (h2 : n ≤ 31) :
    Ret Try.prog 53 [c32 x, .int .i64 (IntKind.i64.wrap (0 - (n : Int)))].toArray w fun r w' => r = c32 (rotr x n) ∧ w' = w := by
  have e14 : IntKind.u64.wrap ((32 : Int) - ((32 - n : Nat) : Int)) = (n : Int) := by rw [wrap_u64]; omega
  refine enter (fn := Try.f53) (n := 17) Try.func53 rfl rfl (by simp) ?_
  refine W_seq ?_
  refine W_region ?_
  refine o_asc rfl ?_
  refine ops_nil ?_
  refine W_seq ?_
  refine W_region ?_
  refine o_mvt rfl ?_
  refine op_run (r_conv rfl rfl rfl) rfl ?_
  refine op_run ((r_and rfl rfl).val (congrArg (Value.int .u64) (and31 n h1 h2))) rfl ?_
  refine o_ast rfl ?_
  refine ops_nil ?_
  refine W_seq ?_
  refine W_region ?_
  refine o_mvt rfl ?_
  refine o_mvt rfl ?_
  refine op_run (r_shlW (32 - n) rfl rfl) rfl ?_
  refine o_mvt rfl ?_
  refine o_mvt rfl ?_
  refine op_run ((r_sub rfl rfl).val (congrArg (Value.int .u64) e14)) rfl ?_
  refine op_run (r_shrW n rfl rfl) rfl ?_
  refine op_run (r_orW rfl rfl) rfl ?_
  refine o_ast rfl ?_
  refine ops_nil ?_
  refine W_ret ?_
  refine ret1 (c32 (rotr x n)) rfl ?_ ?_; rfl
  exact ⟨rfl, rfl⟩

theorem sh_rot (w : World) (x : Wd) (n : Nat) (h1 : 1 ≤ n) (h2 : n ≤ 31) :
    Ret Try.prog 49 [c32 x, .int .i64 n].toArray w fun r w' => r = c32 (rotr x n) ∧ w' = w := by
  refine enter (fn := Try.f49) (n := 9) Try.func49 rfl rfl (by simp) ?_
  refine W_seq ?_
  refine W_region ?_
  refine o_asc rfl ?_
  refine ops_nil ?_
  refine W_seq ?_
  refine W_region ?_
  refine o_mvt rfl ?_
  refine o_mvt rfl ?_
  refine op_run (r_neg rfl) rfl ?_
  refine op_call rfl rfl rfl (rot32 w x n h1 h2) ?_; rintro v2 w2 ⟨rfl, rfl⟩
  refine o_ast rfl ?_
  refine ops_nil ?_
  refine W_ret ?_
  refine ret1 (c32 (rotr x n)) rfl ?_ ?_; rfl
  exact ⟨rfl, rfl⟩
/-- The eight numbers. -/
structure V8 where
  (a b c d e f g h : Wd)
def V8.ws (v : V8) : List Wd := [v.a, v.b, v.c, v.d, v.e, v.f, v.g, v.h]
def V8.cells (v : V8) : List Value := [c32 v.a, c32 v.b, c32 v.c, c32 v.d, c32 v.e, c32 v.f, c32 v.g, c32 v.h]
/-- Four bytes as a word. -/
def ldW (bs : List UInt8) : Wd := bs.foldl (fun x c => x <<< 8 ||| wd8 c) 0
def ldB (bs : List UInt8) (i : Nat) : List UInt8 := (bs.drop (4 * i)).take 4
def load16 (bs : List UInt8) : List Wd := (List.range 16).map fun i => ldW (ldB bs i)
def one32 (v : V8) (k now : Wd) : Wd := v.h + (rotr v.e 6 ^^^ rotr v.e 11 ^^^ rotr v.e 25) + (v.g ^^^ (v.e &&& (v.f ^^^ v.g))) + k + now
def two32 (v : V8) : Wd := (rotr v.a 2 ^^^ rotr v.a 13 ^^^ rotr v.a 22) + ((v.a &&& (v.b ||| v.c)) ||| (v.b &&& v.c))
def nextV (v : V8) (k now : Wd) : V8 := ⟨one32 v k now + two32 v, v.a, v.b, v.c, v.d + one32 v k now, v.e, v.f, v.g⟩
def nextW (ws : List Wd) (t : Nat) : Wd :=
  let x := ws.getD ((t + 1) % 16) 0
  let y := ws.getD ((t + 14) % 16) 0
  ws.getD (t % 16) 0 + (rotr x 7 ^^^ rotr x 18 ^^^ x >>> 3) + ws.getD ((t + 9) % 16) 0 + (rotr y 17 ^^^ rotr y 19 ^^^ y >>> 10)
def stepR (ks : List Wd) (st : V8 × List Wd) (t : Nat) : V8 × List Wd := (nextV st.1 (ks.getD t 0) (st.2.getD (t % 16) 0), st.2.set (t % 16) (nextW st.2 t))
def rounds (ks : List Wd) (st : V8 × List Wd) : Nat → V8 × List Wd
  | 0 => st
  | t + 1 => stepR ks (rounds ks st t) t
theorem rounds_len (ks : List Wd) (st : V8 × List Wd) : ∀ t, (rounds ks st t).2.length = st.2.length
  | 0 => rfl
  | t + 1 => by show ((rounds ks st t).2.set _ _).length = _; rw [List.length_set, rounds_len ks st t]
def V8.add (v u : V8) : V8 := ⟨v.a + u.a, v.b + u.b, v.c + u.c, v.d + u.d, v.e + u.e, v.f + u.f, v.g + u.g, v.h + u.h⟩
/-- What taking a block makes of the eight numbers. -/
def blockF (ks : List Wd) (s : V8) (bs : List UInt8) : V8 := s.add (rounds ks (s, load16 bs) 64).1
theorem get32 {xs : List Wd} {i : Nat} (h : i < xs.length) : (xs.map c32)[i]? = some (c32 (xs.getD i 0)) := get_c32 h
/-- Words as a list that is told by places. -/
def wl (n : Nat) (f : Nat → Wd) : List Wd := (List.range n).map f
theorem wl_len (n : Nat) (f : Nat → Wd) : (wl n f).length = n := by simp [wl]
theorem wl_get {n : Nat} {f : Nat → Wd} {i : Nat} (h : i < n) : (wl n f).getD i 0 = f i := by simp [wl, h]
theorem wl_set (n : Nat) (f : Nat → Wd) (i : Nat) (x : Wd) : (wl n f).set i x = wl n (fun j => if j = i then x else f j) := by
  apply List.ext_getElem?
  intro j
  by_cases hj : j < n
  · by_cases e : i = j
    · subst e; rw [List.getElem?_set_self (by rw [wl_len]; exact hj)]; simp [wl, hj]
    · have e' : ¬ j = i := fun h => e h.symm
      rw [List.getElem?_set_ne e]; simp [wl, hj, e']
  · rw [List.getElem?_eq_none (by rw [List.length_set, wl_len]; omega), List.getElem?_eq_none (by rw [wl_len]; omega)]
theorem wl_congr {n : Nat} {f g : Nat → Wd} (h : ∀ i, i < n → f i = g i) : wl n f = wl n g := List.map_congr_left fun i hi => h i (List.mem_range.1 hi)
theorem map_set32 (xs : List Wd) (i : Nat) (x : Wd) : (xs.map c32).set i (c32 x) = (xs.set i x).map c32 := (List.map_set).symm
theorem ldB_get {bs : List UInt8} (hb : bs.length = 64) {i j : Nat} (hi : i < 16) (hj : j < 4) : 4 * i + j < bs.length ∧ (ldB bs i)[j]? = bs[4 * i + j]? := by
  refine ⟨by omega, ?_⟩
  unfold ldB
  rw [List.getElem?_take, if_pos hj, List.getElem?_drop]
theorem ldB_len {bs : List UInt8} (hb : bs.length = 64) {i : Nat} (hi : i < 16) : (ldB bs i).length = 4 := by
  unfold ldB; rw [List.length_take, List.length_drop]; omega
end Go.Proofs.Ytnjepmdgbkhoaaa.B
