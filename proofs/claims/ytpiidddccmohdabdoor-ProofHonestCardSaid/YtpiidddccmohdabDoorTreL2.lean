/-
  sporranlaw08: calls, Great, play.
-/
import Derived.Test.YtpiidddccmohdabDoorTreL1
namespace Go.Proofs.YtpiidddccmohdabDoor.B
open Go
set_option linter.unusedVariables false
set_option maxHeartbeats 2000000
set_option maxRecDepth 100000
attribute [local irreducible] W OpsW OpsQ retP
abbrev Cl := Int × Dig × List UInt8
def callR (a : Int) (k : Dig) (vv : Value) : List Value := .int .i64 a :: (dgR k ++ [vv])
theorem callR_len (a : Int) (k : Dig) (vv : Value) : (callR a k vv).length = 34 := by unfold callR; rw [List.length_cons, List.length_append, dgR_len]; rfl
def RowCl (w : World) (cs : List Value) (c : Cl) : Prop := ∃ vv, cs = callR c.1 c.2.1 vv ∧ By w vv c.2.2
def ClsIn (w : World) (v : Value) (cs : List Cl) : Prop := SlR w v 34 (RowCl w) cs
theorem ClsIn.at {w : World} {v : Value} {cs : List Cl} (h : ClsIn w v cs) {k : Nat} {c : Cl} (hc : cs[k]? = some c) : ∃ b off cp vv, v = .slice (some ⟨b, off, none⟩) cs.length cp ∧ By w vv c.2.2 ∧
    ∀ (j : Nat) (u : Value), (callR c.1 c.2.1 vv)[j]? = some u → w.cell? ((⟨b, off + k * 34, none⟩ : Addr).add j) = some u := by
  obtain ⟨hk, _⟩ := List.getElem?_eq_some_iff.1 hc
  obtain ⟨b, off, cp, ev_, _, hcells⟩ := SlR.at h (by decide) (by omega)
  obtain ⟨csk, _, hck, vv, rfl, hb⟩ := hcells k c hc
  exact ⟨b, off, cp, vv, ev_, hb, fun j u hj => by rw [Addr.add_lit]; exact hck j u hj⟩
theorem ClsIn.k {w w' : World} {v : Value} {cs : List Cl} (h : ClsIn w v cs) (hk : Keep All w w') : ClsIn w' v cs := by
  obtain ⟨a, c, rfl, h1, h2, h3, h4⟩ := h
  refine ⟨a, c, rfl, h1, h2, h3, fun x hx i y hy => ?_⟩
  obtain ⟨cs', hl, hc, vv, rfl, hb⟩ := h4 x hx i y hy
  exact ⟨_, hl, fun j u hj => hk.cell (hc j u hj) trivial, vv, rfl, Sl.k hb hk⟩
theorem callR_one {a : Int} {k : Dig} {vv : Value} (h : one vv = true) : (callR a k vv).all one = true := by
  unfold callR; rw [List.all_cons, List.all_append]; simp only [List.all_cons, List.all_nil, Bool.and_true, Bool.and_eq_true]
  exact ⟨rfl, all_c8 _, h⟩
theorem callR_what {a : Int} {k : Dig} {vv : Value} : (callR a k vv)[0]? = some (.int .i64 a) := rfl
theorem callR_val {a : Int} {k : Dig} {vv : Value} : (callR a k vv)[33]? = some vv := by
  unfold callR; rw [List.getElem?_cons_succ, List.getElem?_append_right (by rw [dgR_len]; decide), dgR_len]; rfl
theorem callR_key {a : Int} {k : Dig} {vv : Value} {j : Nat} {u : Value} (h : (dgR k)[j]? = some u) : (callR a k vv)[1 + j]? = some u := by
  unfold callR; rw [Nat.add_comm, List.getElem?_cons_succ, List.getElem?_append_left (List.getElem?_eq_some_iff.1 h).1]; exact h
theorem Blk.key {w : World} {b : Nat} {a : Int} {k : Dig} {vv : Value} {e : TypeId} (h : Blk w b (callR a k vv) e) : ∀ (j : Nat) (u : Value), (dgR k)[j]? = some u → w.cell? ((⟨b, 1, none⟩ : Addr).add j) = some u := fun j u hj => by
  rw [Addr.add_lit]; exact h.cell (callR_key hj)
def smallC (cs : List Cl) : Prop := cs.length ≤ 50 ∧ ∀ c ∈ cs, c.2.2.length ≤ 200
theorem lw_Great (w : World) (v : Value) (cs : List Cl) (hv : ClsIn w v cs) : Ret Tryd.prog 6 [v].toArray w fun r w' => (∃ g, r = .bool g ∧ (g = false → smallC cs)) ∧ Keep All w w' := by
  obtain ⟨a0, c0, rfl, hc0, hcm0⟩ := SlR.form hv
  refine enter (fn := Tryd.f6) (n := 19) Tryd.func6 rfl rfl (by simp) ?_
  refine W_seq ?_
  refine W_region ?_
  refine o_asc rfl ?_
  refine ops_nil ?_
  refine W_seq ?_
  refine W_seq ?_
  refine W_region ?_
  refine o_mvt rfl ?_
  refine op_run (r_len rfl rfl rfl) rfl ?_
  refine op_run (r_gtr rfl rfl) rfl ?_
  refine ops_nil ?_
  refine W_cond_p rfl (fun h1 => ?_) (fun h1 => ?_)
  · refine W_seq ?_
    refine W_region ?_
    refine o_asc rfl ?_
    refine ops_nil ?_
    refine W_ret ?_
    refine ret1 (.bool true) rfl ?_ ?_; rfl
    exact ⟨⟨true, rfl, (fun h => by cases h)⟩, Keep.refl _⟩
  · refine W_skip ?_
    refine W_seq ?_
    refine W_seq ?_
    refine W_region ?_
    refine o_mvt rfl ?_
    refine op_run (r_len rfl rfl rfl) rfl ?_
    refine o_mvc rfl ?_
    refine ops_nil ?_
    refine W_block ?_
    refine W_loop [10] [2, 4, 10, 11, 12, 13, 14, 15, 16, 17, 18] (fun vs w' => ∃ k : Nat, vs = [.int .i64 k] ∧ k ≤ cs.length ∧ (∀ c ∈ cs.take k, c.2.2.length ≤ 200) ∧ Keep All w w') (fun vs _ => match vs with | [.int _ y] => cs.length - y.toNat | _ => 0) ⟨0, rfl, Nat.zero_le _, (fun c h => by cases h), Keep.refl _⟩ ?_
    rintro J3 vs w3 ⟨k, rfl, hk, hs, hkw⟩ -
    refine W_seq ?_
    refine W_region ?_
    refine op_run (r_lss rfl rfl) rfl ?_
    refine ops_nil ?_
    refine W_seq ?_
    refine W_cond_p rfl (fun h4 => ?_) (fun h4 => ?_)
    · refine W_skip ?_
      refine W_seq ?_
      refine W_block ?_
      refine W_seq ?_
      refine W_region ?_
      have hkl : k < cs.length := by omega
      obtain ⟨c, hc⟩ : ∃ c, cs[k]? = some c := ⟨_, List.getElem?_eq_getElem hkl⟩
      obtain ⟨b, off, cp, vv, ev_, hby, hcell⟩ := (hv.k hkw).at hc
      cases ev_
      obtain ⟨av, cv, rfl, _, _⟩ := hby.form
      have hinc := inc64' k (by unfold maxLen at hcm0; omega)
      refine op_run (r_idxS rfl rfl rfl rfl (by omega) (by omega)) rfl ?_
      refine op_run (r_loadA (callR c.1 c.2.1 (.slice av c.2.2.length cv)) rfl rfl rfl (by first | rfl | (rw [binV_len]; rfl) | (rw [dgR_len]; rfl) | (rw [refR_len]; rfl) | (rw [secR_len]; rfl) | (rw [List.length_map, tagF_len]; rfl) | (rw [callR_len]; rfl)) ((fun j u hj => by rw [Int.toNat_natCast]; exact hcell j u hj))) rfl ?_
      refine o_alloc rfl rfl rfl ?_; intro w7 b7 e7 hB7 hk7 hs7
      refine o_storeA (cs := callR c.1 c.2.1 (.slice av c.2.2.length cv)) rfl rfl (by first | rfl | exact binV_one _ | exact dgR_one _ | exact refR_one _ | exact secR_one _ | exact all_c8 _ | exact callR_one (Sl.oneI hby)) (by first | rfl | (rw [binV_len]; rfl) | (rw [dgR_len]; rfl) | (rw [refR_len]; rfl) | (rw [secR_len]; rfl) | (rw [List.length_map, tagF_len]; rfl) | (rw [callR_len]; rfl)) hB7 (by exact Nat.le_of_eq (by simp [callR_len])) rfl ?_; intro w8 hB8 hk8 hs8
      have hB8 : Blk w8 b7 (callR c.1 c.2.1 (.slice av c.2.2.length cv)) 31 := by
        have h := hB8
        rwa [splice_all (by simp [callR_len])] at h
      refine ops_nil ?_
      refine W_seq ?_
      refine W_region ?_
      refine op_run (r_fieldAddr rfl rfl rfl rfl rfl) rfl ?_
      refine op_run (r_load rfl rfl rfl (hB8.cell callR_val)) rfl ?_
      refine op_run (r_len rfl rfl rfl) rfl ?_
      refine op_run (r_gtr rfl rfl) rfl ?_
      refine ops_nil ?_
      refine W_cond_p rfl (fun h10 => ?_) (fun h10 => ?_)
      · refine W_seq ?_
        refine W_region ?_
        refine o_asc rfl ?_
        refine ops_nil ?_
        refine W_ret ?_
        refine ret1 (.bool true) rfl ?_ ?_; rfl
        exact ⟨⟨true, rfl, (fun h => by cases h)⟩, (hkw.trans hk7).new hk8 (by have := hkw.size; omega)⟩
      · refine W_skip ?_
        refine W_region ?_
        refine op_run (r_add rfl rfl) rfl ?_
        refine o_mvt rfl ?_
        refine ops_nil ?_
        refine ⟨by (repeat (first | with_reducible exact offM_refl _ _ | refine offM_updc rfl ?_ | refine offM_upd rfl ?_ | refine offM_updo rfl ?_ | refine offM_updo_none ?_ | refine offM_head rfl rfl ?_)), ⟨k + 1, congrArg (fun z : Int => [Value.int .i64 z]) hinc, by omega, fun x hx => ?_, (hkw.trans hk7).new hk8 (by have := hkw.size; omega)⟩, ?_⟩
        · rw [List.take_succ_eq_append_getElem hkl, (List.getElem?_eq_some_iff.1 hc).2] at hx
          rcases List.mem_append.1 hx with h | h
          · exact hs x h
          · rw [List.mem_singleton.1 h]; omega
        · show cs.length - (IntKind.i64.wrap ((k : Int) + 1)).toNat < cs.length - (k : Int).toNat
          rw [hinc]; omega
    · refine W_exit ?_
      refine W_seq ?_
      refine W_region ?_
      refine o_asc rfl ?_
      refine ops_nil ?_
      refine W_ret ?_
      refine ret1 (.bool false) rfl ?_ ?_; rfl
      have hke : k = cs.length := by omega
      rw [hke, List.take_length] at hs
      exact ⟨⟨false, rfl, fun _ => ⟨by omega, hs⟩⟩, hkw⟩
def stepC (s : Tre × List It) (c : Cl) : Tre × List It := if c.1 = 0 then (putTT s.1 c.2.1 c.2.2, putI s.2 c.2.1 c.2.2) else (dropTT s.1 c.2.1, dropI s.2 c.2.1)
def playC (cs : List Cl) : Tre × List It := cs.foldl stepC (.no, [])
/-- A trie and items have the same. -/
def Agree (T : Tre) (l : List It) : Prop := ∀ k : Dig, T.get (nibs k.val) = lookI l k
theorem stepC_ok {s : Tre × List It} (h : Agree s.1 s.2) (hw : s.1.wf 64) (c : Cl) : Agree (stepC s c).1 (stepC s c).2 ∧ (stepC s c).1.wf 64 := by
  unfold stepC
  split
  · exact ⟨fun k => by show (putTT s.1 c.2.1 c.2.2).get _ = _; rw [get_putTT hw, look_putI, h k], wf_putTT hw _ _⟩
  · exact ⟨fun k => by show (dropTT s.1 c.2.1).get _ = _; rw [get_dropTT hw, look_dropI, h k], wf_dropTT hw _⟩
theorem play_ok : ∀ (cs : List Cl) (s : Tre × List It), Agree s.1 s.2 → s.1.wf 64 → Agree (cs.foldl stepC s).1 (cs.foldl stepC s).2 ∧ (cs.foldl stepC s).1.wf 64
  | [], s, h, hw => ⟨h, hw⟩
  | c :: cs, s, h, hw => by
    obtain ⟨h1, h2⟩ := stepC_ok h hw c
    exact play_ok cs _ h1 h2
theorem stepC_short (s : Tre × List It) (c : Cl) (n : Nat) (h : ∀ x ∈ s.2, x.2.length ≤ n) (hc : c.2.2.length ≤ n) : ∀ x ∈ (stepC s c).2, x.2.length ≤ n := by
  unfold stepC
  intro x hx
  split at hx
  · rcases putGo_mem _ _ _ _ _ hx with rfl | h2
    · exact hc
    · exact h x h2
  · exact h x (List.mem_filter.1 hx).1
theorem play_short (n : Nat) : ∀ (cs : List Cl) (s : Tre × List It), (∀ x ∈ s.2, x.2.length ≤ n) → (∀ c ∈ cs, c.2.2.length ≤ n) → ∀ x ∈ (cs.foldl stepC s).2, x.2.length ≤ n
  | [], s, h, _ => h
  | c :: cs, s, h, hc => play_short n cs _ (stepC_short s c n h (hc c (List.mem_cons_self ..))) fun x hx => hc x (List.mem_cons_of_mem _ hx)
theorem stepC_len (s : Tre × List It) (c : Cl) : (stepC s c).2.length ≤ s.2.length + 1 := by
  unfold stepC; split
  · exact putI_len _ _ _
  · exact Nat.le_succ_of_le (dropI_len _ _)
theorem play_len : ∀ (cs : List Cl) (s : Tre × List It), (cs.foldl stepC s).2.length ≤ s.2.length + cs.length
  | [], s => Nat.le_refl _
  | c :: cs, s => by
    have h1 := stepC_len s c
    have h2 := play_len cs (stepC s c)
    rw [List.length_cons]
    show (cs.foldl stepC (stepC s c)).2.length ≤ _
    omega
/-- What agrees with short values is short. -/
theorem Agree.short {T : Tre} {l : List It} (h : Agree T l) (hw : T.wf 64) (hl : ∀ x ∈ l, x.2.length ≤ 1000) : T.short :=
  T.short_of 64 (Nat.le_refl _) hw fun r v hr hn hg => by
    obtain ⟨k, hk, rfl⟩ := nibs_surj 32 r (by omega) hn
    have := h ⟨k, hk⟩
    rw [hg] at this
    exact hl _ (look_mem this.symm)
/-! ### Items and a trie's cell -/
theorem Sl.inC {w : World} {v : Value} {n sz : Nat} {cs : List Value} {u : Value} (h : Sl w v n sz cs) (hu : cs[0]? = some u) (hn : ∀ a, u ≠ .pointer a) (x : Nat) (hx : x < w.heap.size → ∃ a e, Blk w x [.pointer a] e) : InB (fun z => z < w.heap.size ∧ z ≠ x) v := by
  intro b hb
  obtain ⟨x0, c, rfl, h5, h6, h7, h8, h9⟩ := h
  cases x0 with
  | none => cases hb
  | some y =>
    obtain rfl : y.block = b := Option.some.inj hb
    have hc := (h9 y rfl 0 u hu).2
    refine ⟨World.block_lt_of_cell? w ⟨y.block, y.off + 0, none⟩ hc, fun e => ?_⟩
    rw [e] at hc
    obtain ⟨o, ho⟩ : ∃ o, o = y.off + 0 := ⟨_, rfl⟩
    rw [← ho] at hc
    have hlt := World.block_lt_of_cell? w ⟨x, o, none⟩ hc
    obtain ⟨a, ty, hB⟩ := hx hlt
    rw [cell_of_row w x o _ ty (0, 0) hB] at hc
    cases o with
    | zero => injection hc with hc; exact hn a hc.symm
    | succ n => simp at hc
theorem By.other {w w' : World} {v : Value} {bs : List UInt8} {x : Nat} {a : Option Addr} {e : TypeId} (h : By w v bs) (hx : Blk w x [.pointer a] e) (hk : Keep (· ≠ x) w w') : By w' v bs :=
  h.keepN hk fun hne => (h.inC x (fun _ => ⟨a, e, hx⟩) hne).mono fun z hz => hz.2
theorem Prs.other {w w' : World} {x : Nat} {a : Option Addr} {e : TypeId} (hx : Blk w x [.pointer a] e) (hk : Keep (· ≠ x) w w') : ∀ {xs : List Iv} {ys : List It}, Prs w xs ys → Prs w' xs ys
  | [], [], _ => trivial
  | _ :: _, _ :: _, h => ⟨h.1, h.2.1.other hx hk, Prs.other hx hk h.2.2⟩
  | [], _ :: _, h => h.elim
  | _ :: _, [], h => h.elim
theorem ItIn.other {w w' : World} {v : Value} {l : List It} {x : Nat} {a : Option Addr} {e : TypeId} (h : ItIn w v l) (hx : Blk w x [.pointer a] e) (hk : Keep (· ≠ x) w w') : ItIn w' v l := by
  obtain ⟨its, h1, h2⟩ := h
  refine ⟨its, ?_, h2.other hx hk⟩
  cases its with
  | nil =>
    obtain ⟨x0, c, rfl, h5, h6, h7, h8, h9⟩ := h1
    exact ⟨x0, c, rfl, h5, h6, h7, h8, fun x hx i u hu => by cases hu⟩
  | cons y ys =>
    have hd := dgR_len y.1
    obtain ⟨u, hu⟩ : ∃ u, (dgR y.1)[0]? = some u := ⟨_, List.getElem?_eq_getElem (by omega)⟩
    have hu8 : ∀ a, u ≠ .pointer a := fun a e => by
      unfold dgR at hu
      rw [List.getElem?_map] at hu
      cases hz : y.1.val[0]? with
      | none => rw [hz] at hu; cases hu
      | some z => rw [hz] at hu; injection hu with hu; rw [e] at hu; cases hu
    have h0 : (rows itR (y :: ys))[0]? = some u := by
      rw [rows_cons]; unfold itR
      rw [List.append_assoc, List.getElem?_append_left (by omega)]; exact hu
    exact h1.keep hk ((h1.inC h0 hu8 x (fun _ => ⟨a, e, hx⟩)).mono fun z hz => hz.2)
end Go.Proofs.YtpiidddccmohdabDoor.B
