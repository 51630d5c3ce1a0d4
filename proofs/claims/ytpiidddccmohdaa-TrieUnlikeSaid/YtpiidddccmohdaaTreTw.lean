/-
  sporranlaw08: TrieTwin.
-/
import Derived.Test.YtpiidddccmohdaaTreO
import Derived.Test.YtpiidddccmohdaaTreP
namespace Go.Proofs.Ytpiidddccmohdaa.B
open Go
set_option linter.unusedVariables false
set_option maxHeartbeats 2000000
set_option maxRecDepth 100000
attribute [local irreducible] W OpsW OpsQ retP
/-! ### No key comes twice -/
theorem putGo_keys (key : Dig) (val : List UInt8) : ∀ (l : List It) (d : Bool) (k : Dig), k ∈ (putGo key val d l).map (·.1) → (k = key ∧ d = false) ∨ (k ≠ key ∧ k ∈ l.map (·.1))
  | [], d, k, h => by
    unfold putGo at h
    cases d with
    | true => cases h
    | false => exact .inl ⟨List.mem_singleton.1 h, rfl⟩
  | x :: l, d, k, h => by
    unfold putGo at h
    rw [List.map_append, List.map_append] at h
    rcases List.mem_append.1 h with h | h
    · rcases List.mem_append.1 h with h | h
      · cases d with
        | true => simp at h
        | false =>
          split at h
          · exact .inl ⟨List.mem_singleton.1 h, rfl⟩
          · cases h
      · split at h
        · rename_i hne
          have e := List.mem_singleton.1 h
          exact .inr ⟨fun e2 => hne (by rw [← e2, e]), by rw [e]; exact List.mem_cons_self ..⟩
        · cases h
    · rcases putGo_keys key val l _ k h with ⟨h1, h2⟩ | ⟨h1, h2⟩
      · cases d with
        | true => cases h2
        | false => exact .inl ⟨h1, rfl⟩
      · exact .inr ⟨h1, List.mem_cons_of_mem _ h2⟩
theorem putGo_nodup (key : Dig) (val : List UInt8) : ∀ (l : List It) (d : Bool), (l.map (·.1)).Nodup → ((putGo key val d l).map (·.1)).Nodup
  | [], d, _ => by
    unfold putGo; split
    · exact List.nodup_nil
    · exact List.nodup_cons.2 ⟨(fun h => by cases h), List.nodup_nil⟩
  | x :: l, d, h => by
    obtain ⟨h1, h2⟩ := List.nodup_cons.1 (show (x.1 :: l.map (·.1)).Nodup from h)
    unfold putGo
    rw [List.map_append, List.map_append]
    refine List.nodup_append.2 ⟨List.nodup_append.2 ⟨?_, ?_, ?_⟩, putGo_nodup key val l _ h2, ?_⟩
    · split
      · exact List.nodup_cons.2 ⟨(fun h => by cases h), List.nodup_nil⟩
      · exact List.nodup_nil
    · split
      · exact List.nodup_cons.2 ⟨(fun h => by cases h), List.nodup_nil⟩
      · exact List.nodup_nil
    · intro a ha b hb e
      split at ha
      · split at hb
        · rename_i hne
          rw [List.mem_singleton.1 ha, List.mem_singleton.1 hb] at e
          exact hne e.symm
        · cases hb
      · cases ha
    · intro a ha b hb e
      subst e
      rcases putGo_keys key val l _ a hb with ⟨h3, h4⟩ | ⟨h3, h4⟩
      · rcases List.mem_append.1 ha with h | h
        · split at h
          · rename_i hc
            cases d with
            | true => simp at hc
            | false =>
              have hc : (!lessB x.1.val key.val) = true := by simpa using hc
              rw [hc] at h4; simp at h4
          · cases h
        · split at h
          · rename_i hne; exact hne (by rw [← h3, List.mem_singleton.1 h])
          · cases h
      · rcases List.mem_append.1 ha with h | h
        · split at h
          · exact h3 (List.mem_singleton.1 h)
          · cases h
        · split at h
          · have e : a = x.1 := List.mem_singleton.1 h
            exact h1 (by rw [← e]; exact h4)
          · cases h
theorem stepC_nodup (s : Tre × List It) (c : Cl) (h : (s.2.map (·.1)).Nodup) : ((stepC s c).2.map (·.1)).Nodup := by
  unfold stepC; split
  · exact putGo_nodup _ _ _ _ h
  · exact List.Nodup.sublist (List.Sublist.map _ List.filter_sublist) h
theorem play_nodup : ∀ (cs : List Cl) (s : Tre × List It), (s.2.map (·.1)).Nodup → ((cs.foldl stepC s).2.map (·.1)).Nodup
  | [], _, h => h
  | c :: cs, s, h => play_nodup cs _ (stepC_nodup s c h)
/-! ### Bytes that are written -/
theorem Own.partsT {w : World} {e sz : Nat} {v : Value} {n : Nat} {xs : List Value} (h : Own w e sz v n xs) :
    (v = .slice none 0 0 ∧ n = 0) ∨ ∃ g cap ext, v = .slice (some ⟨g, 0, none⟩) n cap ∧ Blk w g (xs ++ ext) e ∧ n ≤ cap ∧ cap ≤ maxLen ∧ (xs ++ ext).length = cap * sz := by
  rcases h.2 with h2 | ⟨g, cap, cur, rfl, hg, hh, h1, h2, h3, h4⟩
  · exact .inl h2
  · refine .inr ⟨g, cap, cur.toList.drop (n * sz), rfl, ?_, h1, h2, ?_⟩
    · show w.heap[g]? = some (.cells (xs ++ cur.toList.drop (n * sz)).toArray e)
      rw [← h4, List.take_append_drop]; exact hh
    · rw [← h4, List.take_append_drop]; simpa using h3
theorem Own.ofPartsT {w : World} {e sz g cap n : Nat} {xs ext : List Value} (hB : Blk w g (xs ++ ext) e) (hn : n ≤ cap) (hm : cap ≤ maxLen) (hl : (xs ++ ext).length = cap * sz) (hx : xs.length = n * sz) : Own w e sz (.slice (some ⟨g, 0, none⟩) n cap) n xs :=
  ⟨hx, .inr ⟨g, cap, (xs ++ ext).toArray, rfl, Nat.zero_le _, hB, hn, hm, by simpa using hl, by rw [← hx]; simp⟩⟩
theorem Blk.uniq {w : World} {b : Nat} {l m : List Value} {e f : TypeId} (h1 : Blk w b l e) (h2 : Blk w b m f) : l = m := by
  have h : some (Obj.cells _ _ _) = some (Obj.cells _ _ _) := h1.symm.trans h2
  injection h with h; injection h with h; exact congrArg Array.toList h
theorem OwnB.vec {w : World} {v : Value} {xs : List UInt8} {i : Nat} (h : OwnB w 5 v xs) (hi : i < xs.length) : ∃ g cap ext y, v = .slice (some ⟨g, 0, none⟩) xs.length cap ∧ Blk w g (xs.map c8 ++ ext) 5 ∧ xs[i]? = some y ∧
    ∀ (w' : World) (z : UInt8), Blk w' g ((xs.map c8 ++ ext).set i (c8 z)) 5 → OwnB w' 5 v (xs.set i z) := by
  rcases Own.partsT h with ⟨_, h0⟩ | ⟨g, cap, ext, rfl, hB, h1, h2, h3⟩
  · omega
  · refine ⟨g, cap, ext, xs[i], rfl, hB, List.getElem?_eq_getElem hi, fun w' z hB' => ?_⟩
    rw [List.set_append_left _ _ (by simpa using hi), ← List.map_set] at hB'
    have hl : (xs.set i z).length = xs.length := List.length_set ..
    have := Own.ofPartsT (n := xs.length) (sz := 1) hB' h1 h2 (by rw [← h3]; simp) (by simp)
    unfold OwnB; rw [hl]; exact this
/-- A row of bytes in whose block perhaps a byte is written is a row of bytes. -/
theorem OwnB.hit {w w' : World} {v : Value} {ys : List UInt8} {g : Nat} {l : List Value} {z : UInt8} (h : OwnB w 5 v ys) (hB : Blk w g l 5) (hB' : Blk w' g (l.set 0 (c8 z)) 5) (hk : Keep (· ≠ g) w w') : ∃ ys' : List UInt8, ys'.length = ys.length ∧ OwnB w' 5 v ys' := by
  rcases Own.partsT h with ⟨rfl, h0⟩ | ⟨g2, cap, ext, rfl, hB2, h1, h2, h3⟩
  · obtain rfl : ys = [] := List.eq_nil_of_length_eq_zero h0
    exact ⟨[], rfl, own_nil _ _ _⟩
  · by_cases e : g2 = g
    · subst e
      have hl := hB.uniq hB2
      subst hl
      cases ys with
      | nil =>
        refine ⟨[], rfl, ?_⟩
        have hB'' : Blk w' g2 ([] ++ ext.set 0 (c8 z)) 5 := hB'
        exact Own.ofPartsT (n := 0) (sz := 1) hB'' h1 h2 (by rw [← h3]; simp) rfl
      | cons y ys =>
        refine ⟨z :: ys, rfl, ?_⟩
        have hB'' : Blk w' g2 ((z :: ys).map c8 ++ ext) 5 := hB'
        exact Own.ofPartsT (n := (z :: ys).length) (sz := 1) hB'' h1 h2 (by rw [← h3]; simp) (by simp)
    · exact ⟨ys, rfl, h.keep hk (fun z hz => by obtain rfl : g2 = z := Option.some.inj hz; exact e)⟩
def RowsN (w : World) (lo : Nat) (vs : List Value) : Prop := ∀ v ∈ vs, (∃ ys : List UInt8, ys ≠ [] ∧ OwnB w 5 v ys) ∧ InB (fun z => lo ≤ z) v
theorem RowsO.n {w : World} {lo : Nat} : ∀ {vs : List Value} {bs : List (List UInt8)}, RowsO w lo vs bs → (∀ b ∈ bs, b ≠ []) → RowsN w lo vs
  | [], [], _, _ => fun v h => by cases h
  | v :: vs, b :: bs, h, hb => fun u hu => by
    rcases List.mem_cons.1 hu with rfl | hu
    · exact ⟨⟨b, hb b (List.mem_cons_self ..), h.1⟩, h.2.1⟩
    · exact RowsO.n h.2.2 (fun c hc => hb c (List.mem_cons_of_mem _ hc)) u hu
  | [], _ :: _, h, _ => h.elim
  | _ :: _, [], h, _ => h.elim
theorem RowsN.hit {w w' : World} {lo g : Nat} {vs : List Value} {l : List Value} {z : UInt8} (h : RowsN w lo vs) (hB : Blk w g l 5) (hB' : Blk w' g (l.set 0 (c8 z)) 5) (hk : Keep (· ≠ g) w w') : RowsN w' lo vs := fun v hv => by
  obtain ⟨⟨ys, hne, hO⟩, hI⟩ := h v hv
  obtain ⟨ys', hl, hO'⟩ := OwnB.hit hO hB hB' hk
  exact ⟨⟨ys', fun e => hne (List.eq_nil_of_length_eq_zero (by rw [← hl, e]; rfl)), hO'⟩, hI⟩
theorem encN_ne (n : Nat) : encN n ≠ [] := by unfold encN; split <;> simp
theorem nodeB_ne {T : Tre} (h : T ≠ .no) : nodeB T ≠ [] := by
  cases T with
  | no => exact absurd rfl h
  | leaf b v => rw [nodeB]; simp [encN_ne]
  | branch b k => rw [nodeB_br]; simp [encN_ne]
theorem prove_ne (T : Tre) (key : Dig) : ∀ b ∈ proveT T key, b ≠ [] := fun b hb => by
  obtain ⟨x, hx, rfl⟩ := List.mem_map.1 hb
  exact nodeB_ne (wayT_ne _ _ _ hx)
theorem xor_u8 (y : UInt8) : bitw .xor .u8 ((y.toNat : Nat) : Int) 1 = ((((y.toNat ^^^ 1).toUInt8).toNat : Nat) : Int) := by
  have h3 := Nat.xor_lt_two_pow (show y.toNat < 2 ^ 8 from y.toNat_lt) (show 1 < 2 ^ 8 by decide)
  rw [show (1 : Int) = ((1 : Nat) : Int) from rfl, bitw_xor rfl _ _ (show y.toNat < 2 ^ 8 from y.toNat_lt) (by decide), toU8_lt h3]
theorem ne_rows2 : (31 : Nat) ≠ 5 := by decide
theorem lw_Twin (w : World) (v vm : Value) (cs ms : List Cl) (hv : ClsIn w v cs) (hvm : ClsIn w vm ms) : Ret Try.prog 6 [v, vm].toArray w fun r w' => r = .bool true ∧ Keep All w w' := by
  obtain ⟨am, cm, rfl, hcm, hcmm⟩ := SlR.form hvm
  refine enter (fn := Try.f6) (n := 136) Try.func6 rfl rfl (by simp) ?_
  refine W_seq ?_
  refine W_region ?_
  refine o_asc rfl ?_
  refine ops_nil ?_
  refine W_seq ?_
  refine W_seq ?_
  refine W_region ?_
  refine op_call rfl rfl rfl (lw_speaks w) ?_; rintro v1 w1 ⟨rfl, hk1⟩
  refine op_run (r_not rfl) rfl ?_
  refine ops_nil ?_
  refine W_cond rfl (fun h2 => ?_) (fun h2 => ?_)
  · refine W_seq ?_
    refine W_region ?_
    refine o_asc rfl ?_
    refine ops_nil ?_
    refine W_ret ?_
    refine ret1 (.bool false) rfl ?_ ?_; rfl
    cases h2
  · refine W_skip ?_
    refine W_seq ?_
    refine W_cut [25] [20, 21, 22, 23, 24, 25] (fun vs w4 => ∃ g : Bool, vs = [.bool g] ∧ (g = false → smallC cs ∧ smallC ms) ∧ Keep All w1 w4) ?_ ?_
    · refine W_region ?_
      refine o_mvt rfl ?_
      refine op_call rfl rfl rfl (lw_Great w1 v cs (hv.k hk1)) ?_; rintro v5 w5 ⟨⟨g, rfl, hg⟩, hk5⟩
      refine o_mvt rfl ?_
      refine g_split rfl rfl rfl (fun g6 => ?_) (fun g6 => ?_)
      · refine o_mvt (g_yes rfl rfl rfl g6) ?_
        refine op_call rfl rfl (g_yes rfl rfl rfl g6) (lw_Great w5 _ ms (hvm.k (hk1.trans hk5))) ?_; rintro v7 w7 ⟨⟨g2, rfl, hg2⟩, hk7⟩
        refine o_pkFt rfl g6 rfl ?_
        refine ops_nil ?_
        exact ⟨by (repeat (first | with_reducible exact offM_refl _ _ | refine offM_updc rfl ?_ | refine offM_upd rfl ?_ | refine offM_updo rfl ?_ | refine offM_updo_none ?_ | refine offM_head rfl rfl ?_)), g2, rfl, fun h => ⟨hg g6, hg2 h⟩, hk5.trans hk7⟩
      · refine op_skip (g_no rfl rfl rfl g6) ?_
        refine op_skip (g_no rfl rfl rfl g6) ?_
        refine o_pkTc rfl g6 rfl ?_
        refine ops_nil ?_
        exact ⟨by (repeat (first | with_reducible exact offM_refl _ _ | refine offM_updc rfl ?_ | refine offM_upd rfl ?_ | refine offM_updo rfl ?_ | refine offM_updo_none ?_ | refine offM_head rfl rfl ?_)), true, rfl, (fun h => by cases h), hk5⟩
    · rintro J10 vs w10 ⟨g, rfl, hg, hk10⟩ -
      refine W_cond rfl (fun h11 => ?_) (fun h11 => ?_)
      · refine W_seq ?_
        refine W_region ?_
        refine o_asc rfl ?_
        refine ops_nil ?_
        refine W_ret ?_
        refine ret1 (.bool true) rfl ?_ ?_; rfl
        exact ⟨rfl, hk1.trans hk10⟩
      · refine W_skip ?_
        refine W_seq ?_
        refine W_region ?_
        obtain ⟨hsm, hsmm⟩ := hg h11
        have hkw10 : Keep All w w10 := hk1.trans hk10
        have hms50 := hsmm.1
        obtain ⟨B, hB⟩ : ∃ B, B = w10.heap.size := ⟨_, rfl⟩
        refine o_mvt rfl ?_
        refine op_call rfl rfl rfl (lw_play w10 v cs (hv.k hkw10) hsm) ?_; rintro v13 w13 ⟨u, rfl, hT13, hI13, hk13⟩
        rw [← hB] at hT13 ⊢
        have hag := play_ok cs (.no, []) (fun _ => rfl) trivial
        have hsv := play_short 200 cs (.no, []) (fun x h => by cases h) hsm.2
        have hll := play_len cs (.no, [])
        obtain ⟨T, hT_⟩ : ∃ T, T = (playC cs).1 := ⟨_, rfl⟩
        obtain ⟨l, hl_⟩ : ∃ l, l = (playC cs).2 := ⟨_, rfl⟩
        have ha : Agree T l := by rw [hT_, hl_]; exact hag.1
        have hw : T.wf 64 := by rw [hT_]; exact hag.2
        have hnd : (l.map (·.1)).Nodup := by rw [hl_]; exact play_nodup cs (.no, []) List.nodup_nil
        have hs1 : ∀ x ∈ l, x.2.length ≤ 200 := by rw [hl_]; exact hsv
        have hl50 : l.length ≤ 50 := by
          rw [hl_]
          have e0 : ((Tre.no, ([] : List It)) : Tre × List It).2.length = 0 := rfl
          have : (playC cs).2.length ≤ _ := hll
          have := hsm.1
          omega
        have hsh : T.short := ha.short hw fun x hx => Nat.le_trans (hs1 x hx) (by decide)
        have hkc : (keysT T []).length ≤ 2 ^ 20 := Nat.le_trans (ha.keys_le hw) (by omega)
        have hke : (keysT T []).length = l.length := ha.keys_eq hw hnd
        rw [← hT_] at hT13
        rw [← hl_] at hI13
        obtain ⟨au, cu, rfl, _, _⟩ := hI13.form
        refine o_mvt rfl ?_
        refine op_run (r_extract rfl rfl) rfl ?_
        refine op_run (r_extract rfl rfl) rfl ?_
        refine o_ast rfl ?_
        refine o_ast rfl ?_
        refine ops_nil ?_
        refine W_seq ?_
        refine W_seq ?_
        refine W_region ?_
        refine o_mvt rfl ?_
        refine op_run (r_isNilP rfl rfl) rfl ?_
        refine ops_nil ?_
        refine W_cond rfl (fun h14 => ?_) (fun h14 => ?_)
        · refine W_seq ?_
          refine W_region ?_
          refine o_asc rfl ?_
          refine ops_nil ?_
          refine W_ret ?_
          refine ret1 (.bool false) rfl ?_ ?_; rfl
          cases h14
        · refine W_skip ?_
          refine W_seq ?_
          refine W_region ?_
          refine o_mvt rfl ?_
          refine op_call rfl rfl rfl (tr_Root w13 B T hT13 hsh) ?_; rintro v16 w16 ⟨rfl, hk16⟩
          refine o_mvt rfl ?_
          obtain ⟨X, hX⟩ : ∃ X, X = w16.heap.size := ⟨_, rfl⟩
          refine op_call rfl rfl rfl (tr_Twin w16 B T (hT13.k hk16)) ?_; rintro v17 w17 ⟨rfl, hX17, hk17⟩
          rw [← hX] at hX17 ⊢
          have hBX : B ≠ X := by obtain ⟨a, ha⟩ := hT13.cell; have := ha.lt; have := hk16.size; omega
          refine o_alloc rfl rfl rfl ?_; intro w18 b18 e18 hB18 hk18 hs18
          refine o_storeA (cs := dgR (rootT T)) rfl rfl (by first | rfl | exact binV_one _ | exact dgR_one _ | exact refR_one _ | exact secR_one _ | exact all_c8 _ | first | exact callR_one (Sl.oneI hby) | exact itR_one (Sl.oneI hby) | exact okC_dgR _) (by first | rfl | (rw [binV_len]; rfl) | (rw [dgR_len]; rfl) | (rw [refR_len]; rfl) | (rw [secR_len]; rfl) | (rw [List.length_map, tagF_len]; rfl) | (rw [callR_len]; rfl) | (rw [itR_len]; rfl) | (rw [dgR_len]; rfl)) hB18 (by exact Nat.le_of_eq (by simp [dgR_len])) rfl ?_; intro w19 hB19 hk19 hs19
          have hB19 : Blk w19 b18 (dgR (rootT T)) 30 := by
            have h := hB19
            rwa [splice_all (by simp [dgR_len])] at h
          have hk1719 : Keep All w17 w19 := hk18.new hk19 (by omega)
          have hkw19 : Keep All w w19 := (((hkw10.trans hk13).trans hk16).trans hk17).trans hk1719
          have hT19 : TrieIn w19 B T := ((hT13.k hk16).k hk17).k hk1719
          have hX19 : TrieIn w19 X T := hX17.k hk1719
          have hI19 : ItIn w19 (.slice au l.length cu) l := ((hI13.k hk16).k hk17).k hk1719
          have hwX : w.heap.size ≤ X := by have := ((hkw10.trans hk13).trans hk16).size; omega
          have hb18X : b18 ≠ X := by obtain ⟨a, ha⟩ := hX17.cell; have := ha.lt; omega
          have stay : ∀ (wa wb : World) (X0 : Tre), TrieIn wa X X0 → Keep (fun z => z ≠ X) wa wb → TrieIn wa B T → ItIn wa (.slice au l.length cu) l → Blk wa b18 (dgR (rootT T)) 30 → Keep All w wa → TrieIn wb B T ∧ ItIn wb (.slice au l.length cu) l ∧ Blk wb b18 (dgR (rootT T)) 30 ∧ Keep All w wb := fun wa wb X0 h1 hk h2 h3 h5 h4 => by
            obtain ⟨a, hc⟩ := h1.cell
            exact ⟨h2.other hc hBX hk, h3.other hc hk, hk.blk' h5 hb18X, h4.new hk hwX⟩
          refine o_ast rfl ?_
          refine ops_nil ?_
          refine W_seq ?_
          refine W_seq ?_
          refine W_region ?_
          refine o_mvt rfl ?_
          refine op_run (r_len rfl rfl rfl) rfl ?_
          refine o_mvc rfl ?_
          refine ops_nil ?_
          refine W_block ?_
          refine W_loop [39] [4, 10, 11, 12, 13, 39, 40, 41, 42, 43, 44, 45, 46, 47, 48, 49, 50, 51, 52, 53, 54, 55, 56, 57, 58, 59, 60, 61, 62, 63, 64, 65, 66, 67, 68, 69, 70, 71, 72, 73, 74, 75, 76, 77, 78, 79, 80, 81] (fun vs w' => ∃ (k : Nat) (Y : Tre), vs = [.int .i64 k] ∧ k ≤ ms.length ∧ (Y.wf 64 ∧ ∀ (d : Dig) (x : List UInt8), Y.get (nibs d.val) = some x → lookI l d ≠ none) ∧ TrieIn w' X Y ∧ TrieIn w' B T ∧ ItIn w' (.slice au l.length cu) l ∧ Blk w' b18 (dgR (rootT T)) 30 ∧ Keep All w w') (fun vs _ => match vs with | [.int _ y] => ms.length - y.toNat | _ => 0)
            ⟨0, T, rfl, Nat.zero_le _, ⟨hw, fun d x h => by rw [ha d] at h; rw [h]; exact fun h => by cases h⟩, hX19, hT19, hI19, hB19, hkw19⟩ ?_
          clear hT19 hX19 hI19
          rintro J20 vs w20 ⟨k, Y, rfl, hk, ⟨hYw, hYg⟩, hX20, hT20, hI20, hR20, hkw⟩ -
          refine W_seq ?_
          refine W_region ?_
          refine op_run (r_lss rfl rfl) rfl ?_
          refine ops_nil ?_
          refine W_seq ?_
          refine W_cond_p rfl (fun h21 => ?_) (fun h21 => ?_)
          · refine W_skip ?_
            refine W_seq ?_
            refine W_block ?_
            refine W_seq ?_
            refine W_region ?_
            have hkl : k < ms.length := by omega
            obtain ⟨c, hc⟩ : ∃ c, ms[k]? = some c := ⟨_, List.getElem?_eq_getElem hkl⟩
            obtain ⟨b, off, cp, vv, ev_, hby, hcell⟩ := (hvm.k hkw).at hc
            cases ev_
            obtain ⟨av, cv, rfl, _, _⟩ := hby.form
            have hinc := inc64' k (by omega)
            have hcl := hsmm.2 c (List.mem_of_getElem? hc)
            refine op_run (r_idxS rfl rfl rfl rfl (by omega) (by omega)) rfl ?_
            refine op_run (r_loadA (callR c.1 c.2.1 (.slice av c.2.2.length cv)) rfl rfl rfl (by first | rfl | (rw [binV_len]; rfl) | (rw [dgR_len]; rfl) | (rw [refR_len]; rfl) | (rw [secR_len]; rfl) | (rw [List.length_map, tagF_len]; rfl) | (rw [callR_len]; rfl) | (rw [itR_len]; rfl) | (rw [dgR_len]; rfl)) ((fun j u hj => by rw [Int.toNat_natCast]; exact hcell j u hj))) rfl ?_
            refine o_alloc rfl rfl rfl ?_; intro w24 b24 e24 hB24 hk24 hs24
            refine o_storeA (cs := callR c.1 c.2.1 (.slice av c.2.2.length cv)) rfl rfl (by first | rfl | exact binV_one _ | exact dgR_one _ | exact refR_one _ | exact secR_one _ | exact all_c8 _ | first | exact callR_one (Sl.oneI hby) | exact itR_one (Sl.oneI hby) | exact okC_dgR _) (by first | rfl | (rw [binV_len]; rfl) | (rw [dgR_len]; rfl) | (rw [refR_len]; rfl) | (rw [secR_len]; rfl) | (rw [List.length_map, tagF_len]; rfl) | (rw [callR_len]; rfl) | (rw [itR_len]; rfl) | (rw [dgR_len]; rfl)) hB24 (by exact Nat.le_of_eq (by simp [callR_len])) rfl ?_; intro w25 hB25 hk25 hs25
            have hB25 : Blk w25 b24 (callR c.1 c.2.1 (.slice av c.2.2.length cv)) 47 := by
              have h := hB25
              rwa [splice_all (by simp [callR_len])] at h
            have hk2025 : Keep All w20 w25 := hk24.new hk25 (by omega)
            have hb24X : b24 ≠ X := by obtain ⟨a, ha⟩ := hX20.cell; have := ha.lt; omega
            refine ops_nil ?_
            refine W_seq ?_
            refine W_region ?_
            refine o_mvt rfl ?_
            refine op_run (r_fieldAddr rfl rfl rfl rfl rfl) rfl ?_
            refine op_run (r_loadA (dgR c.2.1) rfl rfl rfl (by first | rfl | (rw [binV_len]; rfl) | (rw [dgR_len]; rfl) | (rw [refR_len]; rfl) | (rw [secR_len]; rfl) | (rw [List.length_map, tagF_len]; rfl) | (rw [callR_len]; rfl) | (rw [itR_len]; rfl) | (rw [dgR_len]; rfl)) (hB25.key)) rfl ?_
            refine op_run (r_fieldAddr rfl rfl rfl rfl rfl) rfl ?_
            refine op_run (r_load rfl rfl rfl (hB25.cell callR_val)) rfl ?_
            refine op_call rfl rfl rfl (tr_Put w25 X Y c.2.1 _ c.2.2 (hX20.k hk2025) (Sl.k hby hk2025) (by omega)) ?_; rintro v28 w28 ⟨hX28, hk28⟩
            obtain ⟨hT28, hI28, hR28, hkw28⟩ := stay w25 w28 _ (hX20.k hk2025) hk28 (hT20.k hk2025) (hI20.k hk2025) (hk2025.blk' hR20 trivial) (hkw.trans hk2025)
            have hB28 : Blk w28 b24 (callR c.1 c.2.1 (.slice av c.2.2.length cv)) 47 := hk28.blk' hB25 hb24X
            have hby28 : By w28 (.slice av c.2.2.length cv) c.2.2 := by obtain ⟨a, ha⟩ := (hX20.k hk2025).cell; exact By.other (Sl.k hby hk2025) ha hk28
            have hget : (putTT Y c.2.1 c.2.2).get (nibs c.2.1.val) = some c.2.2 := by rw [get_putTT hYw, if_pos rfl]
            refine ops_nil ?_
            refine W_seq ?_
            refine W_region ?_
            refine o_mvt rfl ?_
            refine op_run (r_fieldAddr rfl rfl rfl rfl rfl) rfl ?_
            refine op_run (r_loadA (dgR c.2.1) rfl rfl rfl (by first | rfl | (rw [binV_len]; rfl) | (rw [dgR_len]; rfl) | (rw [refR_len]; rfl) | (rw [secR_len]; rfl) | (rw [List.length_map, tagF_len]; rfl) | (rw [callR_len]; rfl) | (rw [itR_len]; rfl) | (rw [dgR_len]; rfl)) (hB28.key)) rfl ?_
            refine op_call rfl rfl rfl (tr_GetO w28 X (putTT Y c.2.1 c.2.2) c.2.1 hX28 (fun x hx => by rw [hget] at hx; injection hx with hx; subst hx; omega)) ?_; rintro v30 w30 ⟨vg, rfl, hOg, hing, hk30⟩
            rw [hget] at hOg
            have hOg : OwnB w30 5 vg c.2.2 := hOg
            obtain ⟨ag, cg, rfl, _, _⟩ := (OwnB.by_ hOg).form
            refine o_mvt rfl ?_
            refine op_run (r_extract rfl rfl) rfl ?_
            refine op_run (r_extract rfl rfl) rfl ?_
            refine o_ast rfl ?_
            refine o_ast rfl ?_
            refine ops_nil ?_
            refine W_seq ?_
            refine W_cut [64] [56, 57, 58, 59, 60, 61, 62, 63, 64] (fun vs w31 => vs = [.bool false] ∧ Keep All w30 w31) ?_ ?_
            · refine W_region ?_
              refine o_mvt rfl ?_
              refine op_run (r_not rfl) rfl ?_
              refine o_mvt rfl ?_
              refine g_split rfl rfl rfl (fun g32 => ?_) (fun g32 => ?_)
              · refine o_mvt (g_yes rfl rfl rfl (by rw [g32] <;> rfl)) ?_
                refine op_run (r_fieldAddr rfl rfl rfl rfl rfl) (g_yes rfl rfl rfl (by rw [g32] <;> rfl)) ?_
                refine op_run (r_load rfl rfl rfl ((hk30.blk' hB28 trivial).cell callR_val)) (g_yes rfl rfl rfl (by rw [g32] <;> rfl)) ?_
                refine op_call rfl rfl (g_yes rfl rfl rfl (by rw [g32] <;> rfl)) (ref01_Same w30 _ _ c.2.2 c.2.2 (OwnB.by_ hOg) (Sl.k hby28 hk30)) ?_; rintro v34 w34 ⟨rfl, hk34⟩
                refine op_run (r_not rfl) (g_yes rfl rfl rfl (by rw [g32] <;> rfl)) ?_
                refine o_pkFt rfl (by rw [g32] <;> rfl) rfl ?_
                refine ops_nil ?_
                exact ⟨by (repeat (first | with_reducible exact offM_refl _ _ | refine offM_updc rfl ?_ | refine offM_upd rfl ?_ | refine offM_updo rfl ?_ | refine offM_updo_none ?_ | refine offM_head rfl rfl ?_)), congrArg (fun b => [Value.bool b]) (by simp), hk34⟩
              · refine op_skip (g_no rfl rfl rfl (by rw [g32] <;> rfl)) ?_
                refine op_skip (g_no rfl rfl rfl (by rw [g32] <;> rfl)) ?_
                refine op_skip (g_no rfl rfl rfl (by rw [g32] <;> rfl)) ?_
                refine op_skip (g_no rfl rfl rfl (by rw [g32] <;> rfl)) ?_
                refine op_skip (g_no rfl rfl rfl (by rw [g32] <;> rfl)) ?_
                refine o_pkTc rfl (by rw [g32] <;> rfl) rfl ?_
                refine ops_nil ?_
                exact absurd g32 (by rw [hget]; simp)
            · rintro J37 vs w37 ⟨rfl, hk37⟩ -
              refine W_cond rfl (fun h38 => ?_) (fun h38 => ?_)
              · refine W_seq ?_
                refine W_region ?_
                refine o_asc rfl ?_
                refine ops_nil ?_
                refine W_ret ?_
                refine ret1 (.bool false) rfl ?_ ?_; rfl
                cases h38
              · refine W_skip ?_
                refine W_seq ?_
                refine W_seq ?_
                refine W_region ?_
                refine o_mvt rfl ?_
                refine op_run (r_len rfl rfl rfl) rfl ?_
                refine o_mvc rfl ?_
                refine ops_nil ?_
                refine W_block ?_
                have hO37 : OwnB w37 5 (.slice ag c.2.2.length cg) c.2.2 := Own.keep hOg hk37 (fun _ _ => trivial)
                refine W_loop [67] [13, 67, 68, 69, 70, 71, 72, 73, 74, 75, 76] (fun vs w' => ∃ (i : Nat) (ys : List UInt8), vs = [.int .i64 i] ∧ i ≤ c.2.2.length ∧ ys.length = c.2.2.length ∧ OwnB w' 5 (.slice ag c.2.2.length cg) ys ∧ Keep All w28 w') (fun vs _ => match vs with | [.int _ y] => c.2.2.length - y.toNat | _ => 0) ⟨0, c.2.2, rfl, Nat.zero_le _, rfl, hO37, hk30.trans hk37⟩ ?_
                rintro J40 vs w40 ⟨i, ys, rfl, hi, hyl, hO40, hk2840⟩ -
                refine W_seq ?_
                refine W_region ?_
                refine op_run (r_lss rfl rfl) rfl ?_
                refine ops_nil ?_
                refine W_seq ?_
                refine W_cond_p rfl (fun h41 => ?_) (fun h41 => ?_)
                · refine W_skip ?_
                  refine W_seq ?_
                  refine W_block ?_
                  refine W_seq ?_
                  refine W_region ?_
                  refine o_mvt rfl ?_
                  refine o_ast rfl ?_
                  refine ops_nil ?_
                  refine W_region ?_
                  refine o_mvt rfl ?_
                  refine o_mvt rfl ?_
                  have hil : i < ys.length := by omega
                  obtain ⟨g3, cap3, ext3, y, e3, hB3, hy, hset⟩ := hO40.vec hil
                  injection e3 with e31 e32 e33; subst e31; subst e33
                  have hincI := inc64' i (by omega)
                  have hgy : (ys.map c8 ++ ext3)[i]? = some (c8 y) := by rw [List.getElem?_append_left (by simpa using hil), List.getElem?_map, hy]; rfl
                  refine op_run (r_idxS1 rfl rfl rfl rfl (by omega) (by omega)) rfl ?_
                  refine op_run (r_load (v := c8 y) rfl rfl rfl (hB3.cell (by rw [Int.toNat_natCast, Nat.zero_add]; exact hgy))) rfl ?_
                  refine op_run ((r_xor rfl rfl).val (congrArg (Value.int .u8) (xor_u8 y))) rfl ?_
                  refine op_run (r_idxS1 rfl rfl rfl rfl (by omega) (by omega)) rfl ?_
                  refine o_store (v := (c8 ((y.toNat ^^^ 1).toUInt8))) rfl rfl rfl rfl hB3 (by (rw [Int.toNat_natCast, List.length_append, List.length_map]; omega)) rfl ?_; intro w45 hB45 hk45 hs45
                  have hB45 : Blk w45 g3 ((ys.map c8 ++ ext3).set i (c8 ((y.toNat ^^^ 1).toUInt8))) 5 := by
                    have h := hB45
                    rwa [Int.toNat_natCast, Nat.zero_add] at h
                  have hg3 : w28.heap.size ≤ g3 := (hing g3 rfl).1
                  refine ops_nil ?_
                  refine W_region ?_
                  refine op_run (r_add rfl rfl) rfl ?_
                  refine o_mvt rfl ?_
                  refine ops_nil ?_
                  refine ⟨by (repeat (first | with_reducible exact offM_refl _ _ | refine offM_updc rfl ?_ | refine offM_upd rfl ?_ | refine offM_updo rfl ?_ | refine offM_updo_none ?_ | refine offM_head rfl rfl ?_)), ⟨i + 1, ys.set i ((y.toNat ^^^ 1).toUInt8), congrArg (fun z : Int => [Value.int .i64 z]) hincI, by omega, by rw [List.length_set]; exact hyl, hset w45 _ hB45, hk2840.new hk45 hg3⟩, ?_⟩
                  show c.2.2.length - (IntKind.i64.wrap ((i : Int) + 1)).toNat < c.2.2.length - (i : Int).toNat
                  rw [hincI]; omega
                · refine W_exit ?_
                  refine W_region ?_
                  refine o_mvt rfl ?_
                  refine op_run (r_fieldAddr rfl rfl rfl rfl rfl) rfl ?_
                  refine op_run (r_loadA (dgR c.2.1) rfl rfl rfl (by first | rfl | (rw [binV_len]; rfl) | (rw [dgR_len]; rfl) | (rw [refR_len]; rfl) | (rw [secR_len]; rfl) | (rw [List.length_map, tagF_len]; rfl) | (rw [callR_len]; rfl) | (rw [itR_len]; rfl) | (rw [dgR_len]; rfl)) ((hk2840.blk' hB28 trivial).key)) rfl ?_
                  refine op_call rfl rfl rfl (tr_Drop w40 X (putTT Y c.2.1 c.2.2) c.2.1 (hX28.k hk2840)) ?_; rintro v48 w48 ⟨rfl, hX48, hk48⟩
                  refine ops_nil ?_
                  refine W_region ?_
                  refine op_run (r_add rfl rfl) rfl ?_
                  refine o_mvt rfl ?_
                  refine ops_nil ?_
                  obtain ⟨h1, h2, h3, h4⟩ := stay w40 w48 _ (hX28.k hk2840) hk48 (hT28.k hk2840) (hI28.k hk2840) (hk2840.blk' hR28 trivial) (hkw28.trans hk2840)
                  refine ⟨by (repeat (first | with_reducible exact offM_refl _ _ | refine offM_updc rfl ?_ | refine offM_upd rfl ?_ | refine offM_updo rfl ?_ | refine offM_updo_none ?_ | refine offM_head rfl rfl ?_)), ⟨k + 1, _, congrArg (fun z : Int => [Value.int .i64 z]) hinc, by omega, ⟨wf_dropTT (wf_putTT hYw _ _) _, fun d x hd => ?_⟩, hX48, h1, h2, h3, h4⟩, ?_⟩
                  · rw [get_dropTT (wf_putTT hYw _ _), get_putTT hYw] at hd
                    by_cases e : d = c.2.1
                    · rw [if_pos e] at hd; cases hd
                    · rw [if_neg e, if_neg e] at hd; exact hYg d x hd
                  · show ms.length - (IntKind.i64.wrap ((k : Int) + 1)).toNat < ms.length - (k : Int).toNat
                    rw [hinc]; omega
          · refine W_exit ?_
            refine W_seq ?_
            refine W_seq ?_
            refine W_region ?_
            refine o_mvt rfl ?_
            refine op_run (r_len rfl rfl rfl) rfl ?_
            refine o_mvc rfl ?_
            refine ops_nil ?_
            refine W_block ?_
            refine W_loop [84] [4, 15, 17, 84, 85, 86, 87, 88, 89, 90, 91, 92, 93, 94, 95, 96, 97, 98, 99, 100, 101, 102, 103, 104, 105, 106, 107, 108, 109, 110] (fun vs w' => ∃ (k : Nat) (Y : Tre), vs = [.int .i64 k] ∧ k ≤ l.length ∧ (Y.wf 64 ∧ ∀ (d : Dig) (x : List UInt8), Y.get (nibs d.val) = some x → ∃ y ∈ l.drop k, y.1 = d) ∧ TrieIn w' X Y ∧ TrieIn w' B T ∧ ItIn w' (.slice au l.length cu) l ∧ Blk w' b18 (dgR (rootT T)) 30 ∧ Keep All w w') (fun vs _ => match vs with | [.int _ y] => l.length - y.toNat | _ => 0)
              ⟨0, Y, rfl, Nat.zero_le _, ⟨hYw, fun d x h => by
                obtain ⟨z, hz⟩ := Option.ne_none_iff_exists'.1 (hYg d x h)
                exact ⟨_, look_mem hz, rfl⟩⟩, hX20, hT20, hI20, hR20, hkw⟩ ?_
            clear hX20 hT20 hI20 hR20 hkw
            rintro J50 vs w50 ⟨k, Y, rfl, hk, ⟨hYw, hYg⟩, hX50, hT50, hI50, hR50, hkw⟩ -
            refine W_seq ?_
            refine W_region ?_
            refine op_run (r_lss rfl rfl) rfl ?_
            refine ops_nil ?_
            refine W_seq ?_
            refine W_cond_p rfl (fun h51 => ?_) (fun h51 => ?_)
            · refine W_skip ?_
              refine W_seq ?_
              refine W_block ?_
              refine W_seq ?_
              refine W_region ?_
              have hkl : k < l.length := by omega
              obtain ⟨q, hq⟩ : ∃ q, l[k]? = some q := ⟨_, List.getElem?_eq_getElem hkl⟩
              obtain ⟨b, off, cp, vv, ev_, hby, hcell⟩ := hI50.at hq
              cases ev_
              have hinc := inc64' k (by omega)
              have hdk : l.drop k = q :: l.drop (k + 1) := by rw [List.drop_eq_getElem_cons hkl, (List.getElem?_eq_some_iff.1 hq).2]
              refine op_run (r_idxS rfl rfl rfl rfl (by omega) (by omega)) rfl ?_
              refine op_run (r_loadA (itR (q.1, vv)) rfl rfl rfl (by first | rfl | (rw [binV_len]; rfl) | (rw [dgR_len]; rfl) | (rw [refR_len]; rfl) | (rw [secR_len]; rfl) | (rw [List.length_map, tagF_len]; rfl) | (rw [callR_len]; rfl) | (rw [itR_len]; rfl) | (rw [dgR_len]; rfl)) ((fun j u hj => by rw [Int.toNat_natCast]; exact hcell j u hj))) rfl ?_
              refine o_alloc rfl rfl rfl ?_; intro w54 b54 e54 hB54 hk54 hs54
              refine o_storeA (cs := itR (q.1, vv)) rfl rfl (by first | rfl | exact binV_one _ | exact dgR_one _ | exact refR_one _ | exact secR_one _ | exact all_c8 _ | first | exact callR_one (Sl.oneI hby) | exact itR_one (Sl.oneI hby) | exact okC_dgR _) (by first | rfl | (rw [binV_len]; rfl) | (rw [dgR_len]; rfl) | (rw [refR_len]; rfl) | (rw [secR_len]; rfl) | (rw [List.length_map, tagF_len]; rfl) | (rw [callR_len]; rfl) | (rw [itR_len]; rfl) | (rw [dgR_len]; rfl)) hB54 (by exact Nat.le_of_eq (by simp [itR_len])) rfl ?_; intro w55 hB55 hk55 hs55
              have hB55 : Blk w55 b54 (itR (q.1, vv)) 33 := by
                have h := hB55
                rwa [splice_all (by simp [itR_len])] at h
              have hk5055 : Keep All w50 w55 := hk54.new hk55 (by omega)
              have hb54X : b54 ≠ X := by obtain ⟨a, ha⟩ := hX50.cell; have := ha.lt; omega
              refine ops_nil ?_
              refine W_seq ?_
              refine W_region ?_
              refine o_mvt rfl ?_
              refine op_run (r_fieldAddr rfl rfl rfl rfl rfl) rfl ?_
              refine op_run (r_loadA (dgR q.1) rfl rfl rfl (by first | rfl | (rw [binV_len]; rfl) | (rw [dgR_len]; rfl) | (rw [refR_len]; rfl) | (rw [secR_len]; rfl) | (rw [List.length_map, tagF_len]; rfl) | (rw [callR_len]; rfl) | (rw [itR_len]; rfl) | (rw [dgR_len]; rfl)) ((itR_dg (y := q) hB55.all))) rfl ?_
              refine op_call rfl rfl rfl (tr_Drop w55 X Y q.1 (hX50.k hk5055)) ?_; rintro v57 w57 ⟨rfl, hX57, hk57⟩
              obtain ⟨hT57, hI57, hR57, hkw57⟩ := stay w55 w57 _ (hX50.k hk5055) hk57 (hT50.k hk5055) (hI50.k hk5055) (hk5055.blk' hR50 trivial) (hkw.trans hk5055)
              have hB57 : Blk w57 b54 (itR (q.1, vv)) 33 := hk57.blk' hB55 hb54X
              refine ops_nil ?_
              refine W_seq ?_
              refine W_region ?_
              refine o_mvt rfl ?_
              refine op_run (r_fieldAddr rfl rfl rfl rfl rfl) rfl ?_
              refine op_run (r_loadA (dgR q.1) rfl rfl rfl (by first | rfl | (rw [binV_len]; rfl) | (rw [dgR_len]; rfl) | (rw [refR_len]; rfl) | (rw [secR_len]; rfl) | (rw [List.length_map, tagF_len]; rfl) | (rw [callR_len]; rfl) | (rw [itR_len]; rfl) | (rw [dgR_len]; rfl)) ((itR_dg (y := q) hB57.all))) rfl ?_
              refine op_call rfl rfl rfl (tr_Prove w57 B T q.1 hT57 hsh) ?_; rintro v59 w59 ⟨rws, hO59, hR59, hin59, hk59⟩
              obtain ⟨a59, c59, rfl, _, hcm59⟩ := hO59.sl.form
              have hN59 := hR59.n (prove_ne T q.1)
              have hrl : rws.length ≤ 65 := by
                rw [hR59.len]; unfold proveT; rw [List.length_map]; exact wayT_len T _ 64 hw
              refine op_run (r_len rfl rfl rfl) rfl ?_
              refine o_mvc rfl ?_
              refine ops_nil ?_
              refine W_block ?_
              refine W_loop [97] [4, 17, 97, 98, 99, 100, 101, 102, 103, 104, 105, 106, 107, 108, 109] (fun vs w' => ∃ j : Nat, vs = [.int .i64 j] ∧ j ≤ rws.length ∧ Own w' 31 1 (.slice a59 rws.length c59) rws.length rws ∧ RowsN w' w57.heap.size rws ∧ Keep All w57 w') (fun vs _ => match vs with | [.int _ y] => rws.length - y.toNat | _ => 0) ⟨0, rfl, Nat.zero_le _, hO59, hN59, hk59⟩ ?_
              rintro J60 vs w60 ⟨j, rfl, hj, hO60, hN60, hk60⟩ -
              refine W_seq ?_
              refine W_region ?_
              refine op_run (r_lss rfl rfl) rfl ?_
              refine ops_nil ?_
              refine W_seq ?_
              refine W_cond_p rfl (fun h61 => ?_) (fun h61 => ?_)
              · refine W_skip ?_
                refine W_seq ?_
                refine W_block ?_
                refine W_seq ?_
                refine W_region ?_
                have hjl : j < rws.length := by omega
                obtain ⟨vr, hvr⟩ : ∃ vr, rws[j]? = some vr := ⟨_, List.getElem?_eq_getElem hjl⟩
                obtain ⟨⟨ys, hyne, hOr⟩, hIr⟩ := hN60 vr (List.mem_of_getElem? hvr)
                have hy0 : 0 < ys.length := List.length_pos_iff.2 hyne
                obtain ⟨g3, cap3, ext3, y, e3, hB3, hy, hset⟩ := hOr.vec hy0
                obtain ⟨bo, oo, co, eo, _, _, hco⟩ := hO60.sl.at (by omega)
                cases eo
                have hincJ := inc64' j (by omega)
                have hgy : (ys.map c8 ++ ext3)[0]? = some (c8 y) := by rw [List.getElem?_append_left (by simpa using hy0), List.getElem?_map, hy]; rfl
                subst e3
                refine op_run (r_idxS1 rfl rfl rfl rfl (by omega) (by omega)) rfl ?_
                refine op_run (r_load (v := .slice (some ⟨g3, 0, none⟩) ys.length cap3) rfl rfl rfl (by rw [Int.toNat_natCast]; exact hco j _ hvr)) rfl ?_
                refine o_ast rfl ?_
                refine ops_nil ?_
                refine W_seq ?_
                refine W_seq ?_
                refine W_region ?_
                refine o_mvt rfl ?_
                refine op_run (r_len rfl rfl rfl) rfl ?_
                refine op_run (r_eql rfl rfl) rfl ?_
                refine ops_nil ?_
                refine W_cond_p rfl (fun h64 => ?_) (fun h64 => ?_)
                · refine W_seq ?_
                  refine W_region ?_
                  refine o_asc rfl ?_
                  refine ops_nil ?_
                  refine W_ret ?_
                  refine ret1 (.bool false) rfl ?_ ?_; rfl
                  omega
                · refine W_skip ?_
                  refine W_region ?_
                  refine o_mvt rfl ?_
                  refine op_run (r_idxS1 rfl rfl rfl rfl (by decide) (by omega)) rfl ?_
                  refine op_run (r_load (v := c8 y) rfl rfl rfl (hB3.cell hgy)) rfl ?_
                  refine op_run ((r_xor rfl rfl).val (congrArg (Value.int .u8) (xor_u8 y))) rfl ?_
                  refine op_run (r_idxS1 rfl rfl rfl rfl (by decide) (by omega)) rfl ?_
                  refine o_store (v := (c8 ((y.toNat ^^^ 1).toUInt8))) rfl rfl rfl rfl hB3 (by (show 0 + (0 : Int).toNat < _; rw [List.length_append, List.length_map]; show 0 < _; omega)) rfl ?_; intro w69 hB69 hk69 hs69
                  refine ops_nil ?_
                  refine W_region ?_
                  refine op_run (r_add rfl rfl) rfl ?_
                  refine o_mvt rfl ?_
                  refine ops_nil ?_
                  have hB69 : Blk w69 g3 ((ys.map c8 ++ ext3).set 0 (c8 ((y.toNat ^^^ 1).toUInt8))) 5 := hB69
                  have hne : ∀ z, (Value.slice (some ⟨bo, oo, none⟩) rws.length c59).ownBlock = some z → z ≠ g3 := fun z hz e => by
                    subst e
                    exact own_ne hO60 hOr ne_rows2 hz rfl
                  refine ⟨by (repeat (first | with_reducible exact offM_refl _ _ | refine offM_updc rfl ?_ | refine offM_upd rfl ?_ | refine offM_updo rfl ?_ | refine offM_updo_none ?_ | refine offM_head rfl rfl ?_)), ⟨j + 1, congrArg (fun z : Int => [Value.int .i64 z]) hincJ, by omega, hO60.keep hk69 hne, hN60.hit hB3 hB69 hk69, hk60.new hk69 (hIr g3 rfl)⟩, ?_⟩
                  show rws.length - (IntKind.i64.wrap ((j : Int) + 1)).toNat < rws.length - (j : Int).toNat
                  rw [hincJ]; omega
              · refine W_exit ?_
                refine W_region ?_
                refine op_run (r_add rfl rfl) rfl ?_
                refine o_mvt rfl ?_
                refine ops_nil ?_
                refine ⟨by (repeat (first | with_reducible exact offM_refl _ _ | refine offM_updc rfl ?_ | refine offM_upd rfl ?_ | refine offM_updo rfl ?_ | refine offM_updo_none ?_ | refine offM_head rfl rfl ?_)), ⟨k + 1, _, congrArg (fun z : Int => [Value.int .i64 z]) hinc, by omega, ⟨wf_dropTT hYw _, fun d x hd => ?_⟩, hX57.k hk60, hT57.k hk60, hI57.k hk60, hk60.blk' hR57 trivial, hkw57.trans hk60⟩, ?_⟩
                · rw [get_dropTT hYw] at hd
                  by_cases e : d = q.1
                  · rw [if_pos e] at hd; cases hd
                  · rw [if_neg e] at hd
                    obtain ⟨z, hz, e2⟩ := hYg d x hd
                    rw [hdk] at hz
                    rcases List.mem_cons.1 hz with rfl | h
                    · exact absurd e2.symm e
                    · exact ⟨z, h, e2⟩
                · show l.length - (IntKind.i64.wrap ((k : Int) + 1)).toNat < l.length - (k : Int).toNat
                  rw [hinc]; omega
            · refine W_exit ?_
              refine W_seq ?_
              have hkee : k = l.length := by omega
              rw [hkee, List.drop_length] at hYg
              obtain rfl : Y = .no := Tre.uniqD hYw trivial fun d => by
                cases hg : Y.get (nibs d.val) with
                | none => rfl
                | some x => obtain ⟨_, h, _⟩ := hYg d x hg; cases h
              refine W_held (fun w' => Keep All w50 w') (by kernel_rfl) (Keep.drawn w50) (fun hS => ?_)
              refine any_mvt 0 rfl (by kernel_rfl) (by kernel_rfl) (by kernel_rfl) rfl hS ?_
              refine any_run 2 (fun w' hS' => (r_loadA (dgR (rootT T)) rfl rfl rfl (by first | rfl | (rw [binV_len]; rfl) | (rw [dgR_len]; rfl) | (rw [refR_len]; rfl) | (rw [secR_len]; rfl) | (rw [List.length_map, tagF_len]; rfl) | (rw [callR_len]; rfl) | (rw [itR_len]; rfl) | (rw [dgR_len]; rfl)) ((hS'.blk' hR50 trivial).all))) rfl (by kernel_rfl) (by kernel_rfl) (by kernel_rfl) rfl hS ?_
              refine any_one 1 (by kernel_rfl) (one_of rfl ?_)
              refine op_call rfl rfl rfl (tr_Root _ B T (hT50.k hS) hsh) ?_; rintro v74 w74 ⟨rfl, hk74⟩
              refine ops_nil ⟨hS.trans hk74, fun hS => ?_⟩
              refine any_run 3 (fun w' hS' => (r_eqlC (p := rootT T = rootT T) rfl rfl rfl rfl (by kernel_rfl) (okC_dgR _) (okC_dgR _) rfl (dgR_inj))) rfl (by kernel_rfl) (by kernel_rfl) (by kernel_rfl) rfl hS ?_
              refine any_mvt 4 rfl (by kernel_rfl) (by kernel_rfl) (by kernel_rfl) rfl hS ?_
              refine a_split 115 true rfl (fun g77 => ?_) (fun g77 => ?_)
              · refine any_mvt 5 rfl (by kernel_rfl) (by kernel_rfl) (by kernel_rfl) (g_yes rfl rfl rfl g77) hS ?_
                refine any_mvt 8 rfl (by kernel_rfl) (by kernel_rfl) (by kernel_rfl) (g_yes rfl rfl rfl g77) hS ?_
                refine any_run 9 (fun w' hS' => (r_len rfl rfl rfl)) rfl (by kernel_rfl) (by kernel_rfl) (by kernel_rfl) (g_yes rfl rfl rfl g77) hS ?_
                refine any_one 6 (by kernel_rfl) (one_of rfl ?_)
                refine op_call rfl rfl (g_yes rfl rfl rfl g77) (tr_Keys w74 B T (hT50.k hS) hkc) ?_; rintro v78 w78 ⟨hO78, hk78⟩
                obtain ⟨a78, c78, rfl, _, _⟩ := hO78.sl.form
                refine ops_nil ⟨hS.trans hk78, fun hS => ?_⟩
                refine any_run 7 (fun w' hS' => (r_len rfl rfl rfl)) rfl (by kernel_rfl) (by kernel_rfl) (by kernel_rfl) (g_yes rfl rfl rfl g77) hS ?_
                refine any_run 10 (fun w' hS' => (r_eql rfl rfl)) rfl (by kernel_rfl) (by kernel_rfl) (by kernel_rfl) (g_yes rfl rfl rfl g77) hS ?_
                refine any_run 11 (fun w' hS' => (r_pickT rfl g77)) rfl (by kernel_rfl) (by kernel_rfl) (by kernel_rfl) rfl hS ?_
                refine any_mvt 12 rfl (by kernel_rfl) (by kernel_rfl) (by kernel_rfl) rfl hS ?_
                refine a_split 123 true rfl (fun g80 => ?_) (fun g80 => ?_)
                · refine any_mvt 13 rfl (by kernel_rfl) (by kernel_rfl) (by kernel_rfl) (g_yes rfl rfl rfl g80) hS ?_
                  refine any_one 14 (by kernel_rfl) (one_of rfl ?_)
                  refine op_call rfl rfl (g_yes rfl rfl rfl g80) (tr_Keys w78 X .no (hX50.k hS) (Nat.zero_le _)) ?_; rintro v81 w81 ⟨hO81, hk81⟩
                  obtain ⟨a81, c81, rfl, _, _⟩ := hO81.sl.form
                  refine ops_nil ⟨hS.trans hk81, fun hS => ?_⟩
                  refine any_run 15 (fun w' hS' => (r_len rfl rfl rfl)) rfl (by kernel_rfl) (by kernel_rfl) (by kernel_rfl) (g_yes rfl rfl rfl g80) hS ?_
                  refine any_run 16 (fun w' hS' => (r_eql rfl rfl)) rfl (by kernel_rfl) (by kernel_rfl) (by kernel_rfl) (g_yes rfl rfl rfl g80) hS ?_
                  refine any_run 17 (fun w' hS' => (r_pickT rfl g80)) rfl (by kernel_rfl) (by kernel_rfl) (by kernel_rfl) rfl hS ?_
                  refine any_mvt 18 rfl (by kernel_rfl) (by kernel_rfl) (by kernel_rfl) rfl hS ?_
                  refine a_split 129 true rfl (fun g83 => ?_) (fun g83 => ?_)
                  · refine any_mvt 19 rfl (by kernel_rfl) (by kernel_rfl) (by kernel_rfl) (g_yes rfl rfl rfl g83) hS ?_
                    refine any_one 20 (by kernel_rfl) (one_of rfl ?_)
                    refine op_call rfl rfl (g_yes rfl rfl rfl g83) (tr_Root w81 X .no (hX50.k hS) trivial) ?_; rintro v84 w84 ⟨rfl, hk84⟩
                    refine ops_nil ⟨hS.trans hk84, fun hS => ?_⟩
                    refine any_one 21 (by kernel_rfl) (one_of rfl ?_)
                    refine op_call rfl rfl (g_yes rfl rfl rfl g83) (tr_New w84) ?_; rintro v86 w86 ⟨rfl, hT86, hk86⟩
                    refine ops_nil ⟨hS.trans hk86, fun hS => ?_⟩
                    refine any_one 22 (by kernel_rfl) (one_of rfl ?_)
                    refine op_call rfl rfl (g_yes rfl rfl rfl g83) (tr_Root w86 _ .no hT86 trivial) ?_; rintro v88 w88 ⟨rfl, hk88⟩
                    refine ops_nil ⟨hS.trans hk88, fun hS => ?_⟩
                    refine any_run 23 (fun w' hS' => (r_eqlC (p := rootT .no = rootT .no) rfl rfl rfl rfl (by kernel_rfl) (okC_dgR _) (okC_dgR _) rfl (dgR_inj))) rfl (by kernel_rfl) (by kernel_rfl) (by kernel_rfl) (g_yes rfl rfl rfl g83) hS ?_
                    refine any_run 24 (fun w' hS' => (r_pickT rfl g83)) rfl (by kernel_rfl) (by kernel_rfl) (by kernel_rfl) rfl hS ?_
                    refine any_ast 25 rfl (by kernel_rfl) (by kernel_rfl) (by kernel_rfl) rfl hS ?_
                    refine any_done (by kernel_rfl) ?_
                    refine W_ret ?_
                    refine ret1 (.bool (decide (rootT .no = rootT .no))) rfl ?_ ?_; rfl
                    exact ⟨by rw [decide_eq_true rfl], hkw.trans hS⟩
                  · refine any_skip 19 rfl (by kernel_rfl) (by kernel_rfl) (by kernel_rfl) (g_no rfl rfl rfl g83) hS ?_
                    refine any_one 20 (by kernel_rfl) (one_of rfl ?_)
                    refine op_skip (g_no rfl rfl rfl g83) ?_
                    refine ops_nil ⟨hS, fun hS => ?_⟩
                    refine any_one 21 (by kernel_rfl) (one_of rfl ?_)
                    refine op_skip (g_no rfl rfl rfl g83) ?_
                    refine ops_nil ⟨hS, fun hS => ?_⟩
                    refine any_one 22 (by kernel_rfl) (one_of rfl ?_)
                    refine op_skip (g_no rfl rfl rfl g83) ?_
                    refine ops_nil ⟨hS, fun hS => ?_⟩
                    refine any_skip 23 rfl (by kernel_rfl) (by kernel_rfl) (by kernel_rfl) (g_no rfl rfl rfl g83) hS ?_
                    refine any_run 24 (fun w' hS' => (r_pickF rfl g83)) rfl (by kernel_rfl) (by kernel_rfl) (by kernel_rfl) rfl hS ?_
                    refine any_ast 25 rfl (by kernel_rfl) (by kernel_rfl) (by kernel_rfl) rfl hS ?_
                    refine any_done (by kernel_rfl) ?_
                    refine W_ret ?_
                    refine ret1 (.bool false) rfl ?_ ?_; rfl
                    exact absurd g83 (by decide)
                · refine any_skip 13 rfl (by kernel_rfl) (by kernel_rfl) (by kernel_rfl) (g_no rfl rfl rfl g80) hS ?_
                  refine any_one 14 (by kernel_rfl) (one_of rfl ?_)
                  refine op_skip (g_no rfl rfl rfl g80) ?_
                  refine ops_nil ⟨hS, fun hS => ?_⟩
                  refine any_skip 15 rfl (by kernel_rfl) (by kernel_rfl) (by kernel_rfl) (g_no rfl rfl rfl g80) hS ?_
                  refine any_skip 16 rfl (by kernel_rfl) (by kernel_rfl) (by kernel_rfl) (g_no rfl rfl rfl g80) hS ?_
                  refine any_run 17 (fun w' hS' => (r_pickF rfl g80)) rfl (by kernel_rfl) (by kernel_rfl) (by kernel_rfl) rfl hS ?_
                  refine any_mvt 18 rfl (by kernel_rfl) (by kernel_rfl) (by kernel_rfl) rfl hS ?_
                  refine any_skip 19 rfl (by kernel_rfl) (by kernel_rfl) (by kernel_rfl) (g_no rfl rfl rfl rfl) hS ?_
                  refine any_one 20 (by kernel_rfl) (one_of rfl ?_)
                  refine op_skip (g_no rfl rfl rfl rfl) ?_
                  refine ops_nil ⟨hS, fun hS => ?_⟩
                  refine any_one 21 (by kernel_rfl) (one_of rfl ?_)
                  refine op_skip (g_no rfl rfl rfl rfl) ?_
                  refine ops_nil ⟨hS, fun hS => ?_⟩
                  refine any_one 22 (by kernel_rfl) (one_of rfl ?_)
                  refine op_skip (g_no rfl rfl rfl rfl) ?_
                  refine ops_nil ⟨hS, fun hS => ?_⟩
                  refine any_skip 23 rfl (by kernel_rfl) (by kernel_rfl) (by kernel_rfl) (g_no rfl rfl rfl rfl) hS ?_
                  refine any_run 24 (fun w' hS' => (r_pickF rfl rfl)) rfl (by kernel_rfl) (by kernel_rfl) (by kernel_rfl) rfl hS ?_
                  refine any_ast 25 rfl (by kernel_rfl) (by kernel_rfl) (by kernel_rfl) rfl hS ?_
                  refine any_done (by kernel_rfl) ?_
                  refine W_ret ?_
                  refine ret1 (.bool false) rfl ?_ ?_; rfl
                  exfalso
                  have g80 : decide ((((keysT T []).map packDig).length : Int) = (l.length : Int)) = false := g80
                  rw [List.length_map, hke] at g80; simp at g80
              · refine any_skip 5 rfl (by kernel_rfl) (by kernel_rfl) (by kernel_rfl) (g_no rfl rfl rfl g77) hS ?_
                refine any_skip 8 rfl (by kernel_rfl) (by kernel_rfl) (by kernel_rfl) (g_no rfl rfl rfl g77) hS ?_
                refine any_skip 9 rfl (by kernel_rfl) (by kernel_rfl) (by kernel_rfl) (g_no rfl rfl rfl g77) hS ?_
                refine any_one 6 (by kernel_rfl) (one_of rfl ?_)
                refine op_skip (g_no rfl rfl rfl g77) ?_
                refine ops_nil ⟨hS, fun hS => ?_⟩
                refine any_skip 7 rfl (by kernel_rfl) (by kernel_rfl) (by kernel_rfl) (g_no rfl rfl rfl g77) hS ?_
                refine any_skip 10 rfl (by kernel_rfl) (by kernel_rfl) (by kernel_rfl) (g_no rfl rfl rfl g77) hS ?_
                refine any_run 11 (fun w' hS' => (r_pickF rfl g77)) rfl (by kernel_rfl) (by kernel_rfl) (by kernel_rfl) rfl hS ?_
                refine any_mvt 12 rfl (by kernel_rfl) (by kernel_rfl) (by kernel_rfl) rfl hS ?_
                refine any_skip 13 rfl (by kernel_rfl) (by kernel_rfl) (by kernel_rfl) (g_no rfl rfl rfl rfl) hS ?_
                refine any_one 14 (by kernel_rfl) (one_of rfl ?_)
                refine op_skip (g_no rfl rfl rfl rfl) ?_
                refine ops_nil ⟨hS, fun hS => ?_⟩
                refine any_skip 15 rfl (by kernel_rfl) (by kernel_rfl) (by kernel_rfl) (g_no rfl rfl rfl rfl) hS ?_
                refine any_skip 16 rfl (by kernel_rfl) (by kernel_rfl) (by kernel_rfl) (g_no rfl rfl rfl rfl) hS ?_
                refine any_run 17 (fun w' hS' => (r_pickF rfl rfl)) rfl (by kernel_rfl) (by kernel_rfl) (by kernel_rfl) rfl hS ?_
                refine any_mvt 18 rfl (by kernel_rfl) (by kernel_rfl) (by kernel_rfl) rfl hS ?_
                refine any_skip 19 rfl (by kernel_rfl) (by kernel_rfl) (by kernel_rfl) (g_no rfl rfl rfl rfl) hS ?_
                refine any_one 20 (by kernel_rfl) (one_of rfl ?_)
                refine op_skip (g_no rfl rfl rfl rfl) ?_
                refine ops_nil ⟨hS, fun hS => ?_⟩
                refine any_one 21 (by kernel_rfl) (one_of rfl ?_)
                refine op_skip (g_no rfl rfl rfl rfl) ?_
                refine ops_nil ⟨hS, fun hS => ?_⟩
                refine any_one 22 (by kernel_rfl) (one_of rfl ?_)
                refine op_skip (g_no rfl rfl rfl rfl) ?_
                refine ops_nil ⟨hS, fun hS => ?_⟩
                refine any_skip 23 rfl (by kernel_rfl) (by kernel_rfl) (by kernel_rfl) (g_no rfl rfl rfl rfl) hS ?_
                refine any_run 24 (fun w' hS' => (r_pickF rfl rfl)) rfl (by kernel_rfl) (by kernel_rfl) (by kernel_rfl) rfl hS ?_
                refine any_ast 25 rfl (by kernel_rfl) (by kernel_rfl) (by kernel_rfl) rfl hS ?_
                refine any_done (by kernel_rfl) ?_
                refine W_ret ?_
                refine ret1 (.bool false) rfl ?_ ?_; rfl
                exfalso
                simp at g77
end Go.Proofs.Ytpiidddccmohdaa.B
