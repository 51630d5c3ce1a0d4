/-
  sporranref12.Find.
-/
import Derived.Test.YtkmciohghhffnaaGreatVImgS
namespace Go.Proofs.YtkmciohghhffnaaGreat.B
open Go
set_option linter.unusedVariables false
set_option maxHeartbeats 2000000
set_option maxRecDepth 100000
attribute [local irreducible] W OpsW OpsQ retP
/-- Where a name stands among images. -/
def FindP (L : List Img) (nm : List UInt8) (z : Int) : Prop := (z = -1 ∧ ∀ x ∈ L, x.nm ≠ nm) ∨ ∃ (k : Nat) (x : Img), z = k ∧ L[k]? = some x ∧ x.nm = nm ∧ ∀ y ∈ L.take k, y.nm ≠ nm
theorem rf12_Find (w : World) (v : Value) (L : List Img) (ys : List (Img × Value)) (nm : List UInt8) (h : ImgsS w v L ys) : Ret Tryz.prog 25 [v, strA nm].toArray w fun r w' => (∃ z, r = .int .i64 z ∧ FindP L nm z) ∧ Keep All w w' := by
  obtain ⟨a0, c0, rfl, _, hca⟩ := h.o.form
  refine enter (fn := Tryz.f25) (n := 20) Tryz.func25 rfl rfl (by simp) ?_
  refine W_seq ?_
  refine W_region ?_
  refine o_asc rfl ?_
  refine ops_nil ?_
  refine W_seq ?_
  refine W_seq ?_
  refine W_region ?_
  refine o_asc rfl ?_
  refine ops_nil ?_
  refine W_block ?_
  refine W_loop [5] [4, 5, 6, 7, 8, 9, 10, 11, 12, 13, 14, 15, 16, 17, 18, 19] (fun vs w' => ∃ k : Nat, vs = [.int .i64 k] ∧ k ≤ L.length ∧ (∀ y ∈ L.take k, y.nm ≠ nm) ∧ Keep All w w') (fun vs _ => match vs with | [.int _ y] => L.length - y.toNat | _ => 0) ⟨0, rfl, Nat.zero_le _, (fun y hy => by cases hy), Keep.refl _⟩ ?_
  rintro J1 vs w1 ⟨k, rfl, hk, hno, hkw⟩ -
  refine W_seq ?_
  refine W_seq ?_
  refine W_region ?_
  refine o_mvt rfl ?_
  refine o_mvt rfl ?_
  refine op_run (r_len rfl rfl rfl) rfl ?_
  refine op_run (r_lss rfl rfl) rfl ?_
  refine ops_nil ?_
  refine W_cond_p rfl (fun h2 => ?_) (fun h2 => ?_)
  · refine W_skip ?_
    refine W_seq ?_
    refine W_block ?_
    refine W_seq ?_
    refine W_region ?_
    refine o_mvt rfl ?_
    refine o_mvt rfl ?_
    have hkl : k < L.length := by omega
    obtain ⟨i, xa, ba, oa, ca, _, hia, ea, hcxa, hsa⟩ := h.at hkl
    cases ea
    have hinc := inc64' k (by unfold maxLen at hca; omega)
    refine op_run (r_idxS rfl rfl rfl rfl (by omega) (by omega)) rfl ?_
    refine op_run (r_fieldAddr rfl rfl rfl rfl rfl) rfl ?_
    refine op_run (r_load rfl rfl rfl (by rw [Int.toNat_natCast]; exact hkw.cell (hcxa 0 _ rfl) trivial)) rfl ?_
    refine o_mvt rfl ?_
    refine op_run (r_eqlStr rfl rfl) rfl ?_
    refine ops_nil ?_
    refine W_cond_p rfl (fun h5 => ?_) (fun h5 => ?_)
    · refine W_seq ?_
      refine W_region ?_
      refine o_mvt rfl ?_
      refine o_ast rfl ?_
      refine ops_nil ?_
      refine W_ret ?_
      refine ret1 (.int .i64 k) rfl ?_ ?_; rfl
      exact ⟨⟨k, rfl, .inr ⟨k, i, rfl, hia, h5, hno⟩⟩, hkw⟩
    · refine W_skip ?_
      refine W_region ?_
      refine o_mvt rfl ?_
      refine op_run (r_add rfl rfl) rfl ?_
      refine o_ast rfl ?_
      refine ops_nil ?_
      refine ⟨by (repeat (first | with_reducible exact offM_refl _ _ | refine offM_updc rfl ?_ | refine offM_upd rfl ?_ | refine offM_updo rfl ?_ | refine offM_updo_none ?_ | refine offM_head rfl rfl ?_)), ⟨k + 1, congrArg (fun z : Int => [Value.int .i64 z]) hinc, by omega, fun y hy => ?_, hkw⟩, ?_⟩
      · rw [List.take_succ_eq_append_getElem hkl, (List.getElem?_eq_some_iff.1 hia).2] at hy
        rcases List.mem_append.1 hy with h | h
        · exact hno y h
        · rw [List.mem_singleton.1 h]; exact h5
      · show L.length - (IntKind.i64.wrap ((k : Int) + 1)).toNat < L.length - (k : Int).toNat
        rw [hinc]; omega
  · refine W_exit ?_
    refine W_seq ?_
    refine W_region ?_
    refine o_asc rfl ?_
    refine ops_nil ?_
    refine W_ret ?_
    refine ret1 (.int .i64 (-1)) rfl ?_ ?_; rfl
    have hke : k = L.length := by omega
    rw [hke, List.take_length] at hno
    exact ⟨⟨-1, rfl, .inl ⟨rfl, hno⟩⟩, hkw⟩
theorem look_app_some {α β : Type} [DecidableEq α] {l : List (α × β)} {k : α} {v : β} (m : List (α × β)) (h : lookP l k = some v) : lookP (l ++ m) k = some v := by
  induction l with
  | nil => cases h
  | cons x l ih =>
    unfold lookP at h
    show (if x.1 = k then some x.2 else lookP (l ++ m) k) = _
    split
    · rename_i e; rw [if_pos e] at h; exact h
    · rename_i e; rw [if_neg e] at h; exact ih h
theorem look_app_none {α β : Type} [DecidableEq α] {l : List (α × β)} {k : α} (m : List (α × β)) (h : lookP l k = none) : lookP (l ++ m) k = lookP m k := by
  induction l with
  | nil => rfl
  | cons x l ih =>
    unfold lookP at h
    show (if x.1 = k then some x.2 else lookP (l ++ m) k) = _
    split
    · rename_i e; rw [if_pos e] at h; cases h
    · rename_i e; rw [if_neg e] at h; exact ih h
theorem look_put_ne {l : AL} {nm k : List UInt8} (bl : List (Int × Bk)) (h : k ≠ nm) : lookP (putA l nm bl) k = lookP l k := by
  induction l with
  | nil => rfl
  | cons x l ih =>
    show lookP ((if x.1 = nm then (x.1, { x.2 with bl := bl }) else x) :: putA l nm bl) k = (if x.1 = k then some x.2 else lookP l k)
    by_cases hx : x.1 = nm
    · rw [if_pos hx]
      show (if x.1 = k then _ else lookP (putA l nm bl) k) = _
      rw [if_neg (fun e => h (by rw [← e, hx])), if_neg (fun e => h (by rw [← e, hx])), ih]
    · rw [if_neg hx]
      show (if x.1 = k then some x.2 else lookP (putA l nm bl) k) = _
      rw [ih]
theorem imgOf_nm (l : AL) (nm : List UInt8) : (imgOf l nm).nm = nm := by unfold imgOf; split <;> rfl
theorem imgD_mem {l : AL} {nm : List UInt8} {v : VA} (h : lookP l nm = some v) : (⟨nm, v.q, v.fr, blkS v.bl⟩ : Img) ∈ imgD l := by
  rw [← imgOf_some h]
  refine List.mem_map.2 ⟨nm, ?_, rfl⟩
  exact ((List.mergeSort_perm _ _).mem_iff).2 (List.mem_map.2 ⟨_, lookP_mem h, rfl⟩)
/-- Find tells the image of a volume that is there. -/
theorem find_some {l : AL} {nm : List UInt8} {v : VA} {z : Int} (h : lookP l nm = some v) (hz : FindP (imgD l) nm z) : ∃ k : Nat, z = k ∧ (imgD l)[k]? = some ⟨nm, v.q, v.fr, blkS v.bl⟩ := by
  rcases hz with ⟨_, hno⟩ | ⟨k, x, rfl, hx, hnm, _⟩
  · exact absurd rfl (hno _ (imgD_mem h))
  · refine ⟨k, rfl, ?_⟩
    rw [hx]
    obtain ⟨n, _, e⟩ := List.mem_map.1 (List.mem_of_getElem? hx)
    have : n = nm := by rw [← imgOf_nm l n, e, hnm]
    rw [← e, this, imgOf_some h]
theorem ImgsS.sub {w : World} {a : Option Addr} {L : List Img} {ys : List (Img × Value)} {c k : Nat} {i : Img} (h : ImgsS w (.slice a L.length c) L ys) (hk : L[k]? = some i) : ∃ x, ImgsS w (subSl a 4 k (k + 1) c) [i] [(i, x)] := by
  have hlt := (List.getElem?_eq_some_iff.1 hk).1
  obtain ⟨i', x, b, off, c', hy, hi, e, hc, hb⟩ := h.at hlt
  rw [hk] at hi; cases hi
  injection e with e1 _ e3
  subst e1; subst e3
  obtain ⟨_, c'', e4, h5, h6⟩ := h.o.form
  injection e4 with _ _ e4; subst e4
  refine ⟨x, rfl, ?_, fun y hy => by rw [List.mem_singleton.1 hy]; exact hb⟩
  have e7 : subSl (some ⟨b, off, none⟩) 4 k (k + 1) c = .slice (some ⟨b, off + k * 4, none⟩) 1 (c - k) := by
    unfold subSl
    rw [if_neg (by omega), show k + 1 - k = 1 by omega]
    show Value.slice (some ((⟨b, off, none⟩ : Addr).add (k * 4))) 1 (c - k) = _
    rw [Addr.add_lit]
  rw [e7]
  refine ⟨_, _, rfl, by show 1 ≤ _; omega, by omega, rfl, (fun e => by cases e), fun ad had j u hj => ?_⟩
  cases had
  refine ⟨rfl, hc j u ?_⟩
  rw [rows_cons, rows_nil, List.append_nil] at hj
  exact hj
theorem ImgsS.one {w : World} {b : Nat} {i : Img} {x : Value} {t : TypeId} (hB : Blk w b (imR (i, x)) t) (hx : Sl w x i.bl.length 33 (rows nbR i.bl)) : ImgsS w (.slice (some ⟨b, 0, none⟩) 1 1) [i] [(i, x)] := by
  refine ⟨rfl, ⟨_, _, rfl, Nat.le_refl _, by unfold maxLen; omega, rfl, (fun e => by cases e), fun ad had j u hj => ?_⟩, fun y hy => by rw [List.mem_singleton.1 hy]; exact hx⟩
  cases had
  rw [rows_cons, rows_nil, List.append_nil] at hj
  exact ⟨rfl, hB.cell (by rw [Nat.zero_add]; exact hj)⟩

end Go.Proofs.YtkmciohghhffnaaGreat.B
