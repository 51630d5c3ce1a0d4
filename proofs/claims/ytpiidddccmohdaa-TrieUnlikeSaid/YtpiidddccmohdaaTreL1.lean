/-
  sporranlaw08: speaks.
-/
import Derived.Test.YtpiidddccmohdaaTreW6
import Derived.Test.YtpiidddccmohdaaTreI2
namespace Go.Proofs.Ytpiidddccmohdaa.B
open Go
theorem run_append_grow_zeros {P : Program} {w : World} (t tn ty e : TypeId) (i : TypeInfo) (z : Value) (k kn : IntKind) (ht : P.underlying t = some (.slice e)) (htn : P.underlying tn = some (.int kn)) (hi : P.info? e = some i) (hz : i.zero = some z)
    (b : Addr) (sLen sCap : Nat) (olds : List Value) (hlo : olds.length = sLen * i.size) (holds : ∀ j v, olds[j]? = some v → w.cell? (b.add j) = some v) (n : Nat) (h0 : 0 < n) (hs : 0 < i.size)
    (hg : sCap < sLen + n) (h63 : ((sLen + n : Nat) : Int) ≤ 9223372036854775807) (h48 : n * i.bytes ≤ 281474976710656) (hfit : Builtin.nextslicecap (sLen + n) sCap * i.bytes ≤ 281474976710656) :
    (Builtin.append_ #[t, tn] ty #[.slice (some b) sLen sCap, .int k n]).run P w =
      .ok (.slice (some ⟨w.heap.size, 0, none⟩) (sLen + n) (grownCap w (sLen + n) sCap e))
        (w.drew.alloc (.cells (olds.toArray ++ Builtin.zeroCells z.cells n ++ Builtin.zeroCells z.cells (grownCap w (sLen + n) sCap e - (sLen + n))) e)) := by
  have hn : ¬ (sLen + n ≤ sCap) := by omega
  have hw : IntKind.i64.wrap (n : Int) = n := by rw [IntKind.wrap_i64]; omega
  have h63' : ¬ (9223372036854775807 < ((sLen : Int) + (n : Int))) := by omega
  have h48' : ¬ (281474976710656 < Builtin.nextslicecap (sLen + n) sCap * i.bytes) := by omega
  have h48i : ¬ (281474976710656 < (n : Int) * (i.bytes : Int)) := by
    rw [← Int.natCast_mul]
    omega
  have hneg : ¬ ((n : Int) < 0) := by omega
  have hns : ¬ (n * i.size = 0) := Nat.mul_ne_zero (by omega) (by omega)
  have hfo := run_firstCells_some (P := P) w.drew i.size sLen b sLen sCap olds hlo (by simpa using holds)
  simp [Builtin.append_, run_underlying ht, run_underlying htn, sizeOf, typeInfo, zeroValue, hi, hz, asInt, asIntOf, hw, hneg, hns, Builtin.lenOf, hn, h63', h48', h48i, Question.forced, hfo, newRow, grownCap]
theorem zeroCells_list {z : Value} (hz : one z = true) (n : Nat) : (Builtin.zeroCells z.cells n).toList = List.replicate n z := by
  rw [cells_one hz]
  unfold Builtin.zeroCells
  apply List.ext_getElem
  · simp
  · intro i h1 h2; simp [Nat.mod_one]
section
variable {f0 : Bool} {c0 : Ctx} {P : Program} {n : Nat} {ops : Array Oper} {F : Fr} {w : World} {K : Fr → World → Prop} {rest : List Oper} {dst : Option Tmp} {ty : TypeId} {pos : String} {after : Array Edge} {g : Option (Nat × Bool)}
/-- append of zeros to a slice that has no room. -/
theorem o_zerosG {s x : Operand} {t tn e eb : TypeId} {z : Value} {by_ m k : Nat} {kn : IntKind} {b : Nat} {l : List Value}
    (hs : ev F s = .slice (some ⟨b, 0, none⟩) m m) (hx : ev F x = .int .i64 k) (hB : Blk w b l eb) (hl : l.length = m) (ht : P.underlying t = some (.slice e)) (htn : P.underlying tn = some (.int kn)) (hi : tinfo P e = some (some z, 1, by_)) (hz : one z = true) (h0 : 0 < k) (h63 : m + k ≤ maxLen) (hby : k * by_ ≤ 281474976710656)
    (hfit : Builtin.nextslicecap (m + k) m * by_ ≤ 281474976710656)
    (hg : wantedF ops F ⟨dst, .call ⟨.builtin .append, #[s, x], #[t, tn]⟩, ty, pos, after, g⟩ = true)
    (h : ∀ w' b' c l', b' = w.heap.size → Blk w' b' (l ++ List.replicate k z ++ l') e → l'.length = c - (m + k) → m + k ≤ c → c ≤ maxLen → Keep All w w' → w'.heap.size = b' + 1 → OpsW f0 c0 P n ops rest (updo n F dst (.slice (some ⟨b', 0, none⟩) (m + k) c)) w' K) :
    OpsW f0 c0 P n ops (⟨dst, .call ⟨.builtin .append, #[s, x], #[t, tn]⟩, ty, pos, after, g⟩ :: rest) F w K := by
  obtain ⟨i, hi1, hi2, hi3, hi4⟩ := tinfo_info hi
  have hr := run_append_grow_zeros (P := P) (w := w) t tn ty e i z .i64 kn ht htn hi1 hi2 ⟨b, 0, none⟩ m m l (by rw [hl, hi3, Nat.mul_one]) hB.all k h0 (by omega) (by omega) (by unfold maxLen at h63; omega) (by rw [hi4]; exact hby) (by rw [hi4]; exact hfit)
  have hge := grownCap_ge w (m + k) m e
  have hle := grownCap_le_maxLen w (m + k) m e h63
  refine op_run0 (v := .slice (some ⟨w.heap.size, 0, none⟩) (m + k) (grownCap w (m + k) m e)) ?_ hg (h (w.drew.alloc (.cells (l.toArray ++ Builtin.zeroCells z.cells k ++ Builtin.zeroCells z.cells (grownCap w (m + k) m e - (m + k))) e)) w.heap.size (grownCap w (m + k) m e) (List.replicate (grownCap w (m + k) m e - (m + k)) z) rfl ?_ (by simp) hge hle ((Keep.drawn w).trans (Keep.alloc w.drew _)) ?_)
  · (try unfold Run1); simp [execOp, resolve, invoke, builtin, hs, hx, hr]
  · show _ = _
    have e1 : l.toArray ++ Builtin.zeroCells z.cells k ++ Builtin.zeroCells z.cells (grownCap w (m + k) m e - (m + k)) = (l ++ List.replicate k z ++ List.replicate (grownCap w (m + k) m e - (m + k)) z).toArray := by
      apply Array.ext'
      simp [zeroCells_list hz]
    rw [e1]
    exact heap_alloc_new w.drew _
  · exact size_alloc w.drew _
end
set_option linter.unusedVariables false
set_option maxHeartbeats 2000000
set_option maxRecDepth 100000
attribute [local irreducible] W OpsW OpsQ retP
theorem rf_TagD (w : World) (v : Value) (use : UInt8) (pss : List (List UInt8)) (hv : SlR w v 1 (RowB w) pss) (hl : (tagB use pss).length ≤ 1000000) :
    Ret Try.prog 13 [c8 use, v].toArray w fun r w' => r = .agg (dgR (tagD use pss)).toArray ∧ Keep All w w' := rf_Tagged w v use pss hv hl
def speakT : Tre := putTT .no Dig.zero []
theorem nibs_zero : ∀ n, nibs (List.replicate n 0) = List.replicate (2 * n) 0
  | 0 => rfl
  | n + 1 => by
    have h := nibs_zero n
    rw [show 2 * (n + 1) = 2 * n + 1 + 1 by omega, List.replicate_succ, List.replicate_succ, List.replicate_succ, ← h]; rfl
theorem speakB : nodeB speakT = [0, 64] ++ List.replicate 65 0 := by
  have e : nibs Dig.zero.val = List.replicate 64 0 := nibs_zero 32
  show (encN 0 ++ encB (nibs Dig.zero.val)) ++ encB [] = _
  rw [e]
  unfold encB
  rw [List.length_replicate]
  unfold encN
  rfl
theorem speak_short : speakT.short := ⟨by rw [show nibs Dig.zero.val = List.replicate 64 0 from nibs_zero 32, List.length_replicate]; decide, Nat.zero_le _⟩
theorem dgR_zeroL : dgR Dig.zero = List.replicate 32 (c8 0) := by unfold dgR Dig.zero; rw [List.map_replicate]
theorem lw_speaks (w : World) : Ret Try.prog 7 [].toArray w fun r w' => r = .bool true ∧ Keep All w w' := by
  refine enter (fn := Try.f7) (n := 21) Try.func7 rfl rfl (by simp) ?_
  refine W_seq ?_
  refine W_region ?_
  refine o_asc rfl ?_
  refine ops_nil ?_
  refine W_seq ?_
  refine W_region ?_
  refine op_call rfl rfl rfl (tr_New w) ?_; rintro v1 w1 ⟨rfl, hT1, hk1⟩
  refine o_ast rfl ?_
  refine ops_nil ?_
  refine W_seq ?_
  refine W_region ?_
  refine o_mvt rfl ?_
  refine op_run (r_buildA ((dgR Dig.zero)) (_) ([]) rfl rfl rfl rfl rfl (by rw [dgR_zeroL]; rfl)) rfl ?_
  refine op_call rfl rfl rfl (tr_Put w1 _ .no Dig.zero (.slice none 0 0) [] hT1 (Sl.nil _ _) (by decide)) ?_; rintro v3 w3 ⟨hT3, hk3⟩
  have hT3 : TrieIn w3 w.heap.size speakT := hT3
  refine ops_nil ?_
  refine W_seq ?_
  refine W_region ?_
  refine o_bsL ([c8 0, c8 64]) rfl rfl rfl rfl rfl rfl rfl rfl rfl ?_; intro w4 b4 e4 hB4 hk4 hs4
  refine o_zerosG (b := b4) (k := 65) rfl rfl hB4 rfl rfl rfl ti_u8 rfl (by decide) (by decide) (by decide) (by decide) rfl ?_; intro w5 b5 c5 l5 e5 hB5 hl5 hn5 hm5 hk5 hs5
  have hby5 : By w5 (.slice (some ⟨b5, 0, none⟩) 67 c5) ([0, 64] ++ List.replicate 65 0) := by
    have e : ([c8 0, c8 64] ++ List.replicate 65 (Value.int .u8 0)) = ([0, 64] ++ List.replicate 65 0 : List UInt8).map c8 := by simp [c8]
    refine ⟨_, c5, rfl, ?_, hm5, by simp, (fun e => by cases e), fun x hx i u hu => ?_⟩
    · simp; omega
    · injection hx with hx; subst hx
      refine ⟨rfl, hB5.cell ?_⟩
      rw [Nat.zero_add, List.getElem?_append_left (by rw [e]; exact (List.getElem?_eq_some_iff.1 hu).1), e]; exact hu
  refine o_ast rfl ?_
  refine ops_nil ?_
  refine W_seq ?_
  refine W_region ?_
  refine o_mvt rfl ?_
  refine op_call rfl rfl rfl (tr_Root w5 _ _ ((hT3.k hk4).k hk5) speak_short) ?_; rintro v6 w6 ⟨rfl, hk6⟩
  refine o_mvt rfl ?_
  refine o_bs1 (v := (.slice (some ⟨b5, 0, none⟩) 67 c5)) rfl rfl rfl rfl rfl rfl ?_; intro w7 b7 e7 hB7 hk7 hs7
  refine op_call rfl rfl rfl (rf_TagD w7 _ 4 [[0, 64] ++ List.replicate 65 0] (rowsB_one hB7 (Sl.k (Sl.k hby5 hk6) hk7)) (tag_1 4 (by simp))) ?_; rintro v8 w8 ⟨rfl, hk8⟩
  refine op_run (r_eqlC (p := rootT speakT = tagD 4 [[0, 64] ++ List.replicate 65 0]) rfl rfl rfl rfl (by kernel_rfl) (okC_dgR _) (okC_dgR _) rfl (dgR_inj)) rfl ?_
  refine o_mvt rfl ?_
  refine g_split rfl rfl rfl (fun g10 => ?_) (fun g10 => ?_)
  · refine op_call rfl rfl (g_yes rfl rfl rfl g10) (tr_New w8) ?_; rintro v11 w11 ⟨rfl, hT11, hk11⟩
    refine op_call rfl rfl (g_yes rfl rfl rfl g10) (tr_Root w11 _ .no hT11 trivial) ?_; rintro v12 w12 ⟨rfl, hk12⟩
    refine op_call rfl rfl (g_yes rfl rfl rfl g10) (rf_TagD w12 _ 5 [] (rowsB_none _) (tag_0 5)) ?_; rintro v13 w13 ⟨rfl, hk13⟩
    refine op_run (r_eqlC (p := rootT .no = tagD 5 []) rfl rfl rfl rfl (by kernel_rfl) (okC_dgR _) (okC_dgR _) rfl (dgR_inj)) (g_yes rfl rfl rfl g10) ?_
    refine o_pkTt rfl g10 rfl ?_
    refine o_ast rfl ?_
    refine ops_nil ?_
    refine W_ret ?_
    refine ret1 (.bool (decide (rootT .no = tagD 5 []))) rfl ?_ ?_; rfl
    have hz1 := hk1.size
    exact ⟨by rw [decide_eq_true (show rootT .no = tagD 5 [] from rfl)], (((((((hk1.new hk3 (Nat.le_refl _)).trans hk4).trans hk5).trans hk6).trans hk7).trans hk8).trans hk11).trans hk12 |>.trans hk13⟩
  · refine op_skip (g_no rfl rfl rfl g10) ?_
    refine op_skip (g_no rfl rfl rfl g10) ?_
    refine op_skip (g_no rfl rfl rfl g10) ?_
    refine op_skip (g_no rfl rfl rfl g10) ?_
    refine o_pkFc rfl g10 rfl ?_
    refine o_ast rfl ?_
    refine ops_nil ?_
    refine W_ret ?_
    refine ret1 (.bool false) rfl ?_ ?_; rfl
    exact absurd (show rootT speakT = tagD 4 [[0, 64] ++ List.replicate 65 0] from by rw [← speakB]; rfl) (by simpa using g10)
end Go.Proofs.Ytpiidddccmohdaa.B
