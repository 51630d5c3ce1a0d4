/-
  sporranlaw08: TrieTwin.
-/
import Derived.Test.YtpiidddccmohdabDoorTreO
import Derived.Test.YtpiidddccmohdabDoorTreP
namespace Go.Proofs.YtpiidddccmohdabDoor.B
open Go
set_option linter.unusedVariables false
set_option maxHeartbeats 2000000
set_option maxRecDepth 100000
attribute [local irreducible] W OpsW OpsQ retP
/-! ### No key comes twice -/
theorem putGo_keys (key : Dig) (val : List UInt8) : ∀ (l : List It) (d : Bool) (k : Dig), k ∈ (putGo key val d l).map (·.1) → (k = key ∧ d = false) ∨ (k ≠ key ∧ k ∈ l.map (·.1))
  | [], d, k, h => by
    unfold putGo at h
    cases d with
    | true => cases h
    | false => exact .inl ⟨List.mem_singleton.1 h, rfl⟩
  | x :: l, d, k, h => by
    unfold putGo at h
    rw [List.map_append, List.map_append] at h
    rcases List.mem_append.1 h with h | h
    · rcases List.mem_append.1 h with h | h
      · cases d with
        | true => simp at h
        | false =>
          split at h
          · exact .inl ⟨List.mem_singleton.1 h, rfl⟩
          · cases h
      · split at h
        · rename_i hne
          have e := List.mem_singleton.1 h
          exact .inr ⟨fun e2 => hne (by rw [← e2, e]), by rw [e]; exact List.mem_cons_self ..⟩
        · cases h
    · rcases putGo_keys key val l _ k h with ⟨h1, h2⟩ | ⟨h1, h2⟩
      · cases d with
        | true => cases h2
        | false => exact .inl ⟨h1, rfl⟩
      · exact .inr ⟨h1, List.mem_cons_of_mem _ h2⟩
theorem putGo_nodup (key : Dig) (val : List UInt8) : ∀ (l : List It) (d : Bool), (l.map (·.1)).Nodup → ((putGo key val d l).map (·.1)).Nodup
  | [], d, _ => by
    unfold putGo; split
    · exact List.nodup_nil
    · exact List.nodup_cons.2 ⟨(fun h => by cases h), List.nodup_nil⟩
  | x :: l, d, h => by
    obtain ⟨h1, h2⟩ := List.nodup_cons.1 (show (x.1 :: l.map (·.1)).Nodup from h)
    unfold putGo
    rw [List.map_append, List.map_append]
    refine List.nodup_append.2 ⟨List.nodup_append.2 ⟨?_, ?_, ?_⟩, putGo_nodup key val l _ h2, ?_⟩
    · split
      · exact List.nodup_cons.2 ⟨(fun h => by cases h), List.nodup_nil⟩
      · exact List.nodup_nil
    · split
      · exact List.nodup_cons.2 ⟨(fun h => by cases h), List.nodup_nil⟩
      · exact List.nodup_nil
    · intro a ha b hb e
      split at ha
      · split at hb
        · rename_i hne
          rw [List.mem_singleton.1 ha, List.mem_singleton.1 hb] at e
          exact hne e.symm
        · cases hb
      · cases ha
    · intro a ha b hb e
      subst e
      rcases putGo_keys key val l _ a hb with ⟨h3, h4⟩ | ⟨h3, h4⟩
      · rcases List.mem_append.1 ha with h | h
        · split at h
          · rename_i hc
            cases d with
            | true => simp at hc
            | false =>
              have hc : (!lessB x.1.val key.val) = true := by simpa using hc
              rw [hc] at h4; simp at h4
          · cases h
        · split at h
          · rename_i hne; exact hne (by rw [← h3, List.mem_singleton.1 h])
          · cases h
      · rcases List.mem_append.1 ha with h | h
        · split at h
          · exact h3 (List.mem_singleton.1 h)
          · cases h
        · split at h
          · have e : a = x.1 := List.mem_singleton.1 h
            exact h1 (by rw [← e]; exact h4)
          · cases h
theorem stepC_nodup (s : Tre × List It) (c : Cl) (h : (s.2.map (·.1)).Nodup) : ((stepC s c).2.map (·.1)).Nodup := by
  unfold stepC; split
  · exact putGo_nodup _ _ _ _ h
  · exact List.Nodup.sublist (List.Sublist.map _ List.filter_sublist) h
theorem play_nodup : ∀ (cs : List Cl) (s : Tre × List It), (s.2.map (·.1)).Nodup → ((cs.foldl stepC s).2.map (·.1)).Nodup
  | [], _, h => h
  | c :: cs, s, h => play_nodup cs _ (stepC_nodup s c h)
/-! ### Bytes that are written -/
theorem Own.partsT {w : World} {e sz : Nat} {v : Value} {n : Nat} {xs : List Value} (h : Own w e sz v n xs) :
    (v = .slice none 0 0 ∧ n = 0) ∨ ∃ g cap ext, v = .slice (some ⟨g, 0, none⟩) n cap ∧ Blk w g (xs ++ ext) e ∧ n ≤ cap ∧ cap ≤ maxLen ∧ (xs ++ ext).length = cap * sz := by
  rcases h.2 with h2 | ⟨g, cap, cur, rfl, hg, hh, h1, h2, h3, h4⟩
  · exact .inl h2
  · refine .inr ⟨g, cap, cur.toList.drop (n * sz), rfl, ?_, h1, h2, ?_⟩
    · show w.heap[g]? = some (.cells (xs ++ cur.toList.drop (n * sz)).toArray e)
      rw [← h4, List.take_append_drop]; exact hh
    · rw [← h4, List.take_append_drop]; simpa using h3
theorem Own.ofPartsT {w : World} {e sz g cap n : Nat} {xs ext : List Value} (hB : Blk w g (xs ++ ext) e) (hn : n ≤ cap) (hm : cap ≤ maxLen) (hl : (xs ++ ext).length = cap * sz) (hx : xs.length = n * sz) : Own w e sz (.slice (some ⟨g, 0, none⟩) n cap) n xs :=
  ⟨hx, .inr ⟨g, cap, (xs ++ ext).toArray, rfl, Nat.zero_le _, hB, hn, hm, by simpa using hl, by rw [← hx]; simp⟩⟩
theorem Blk.uniq {w : World} {b : Nat} {l m : List Value} {e f : TypeId} (h1 : Blk w b l e) (h2 : Blk w b m f) : l = m := by
  have h : some (Obj.cells _ _ _) = some (Obj.cells _ _ _) := h1.symm.trans h2
  injection h with h; injection h with h; exact congrArg Array.toList h
theorem OwnB.vec {w : World} {v : Value} {xs : List UInt8} {i : Nat} (h : OwnB w 5 v xs) (hi : i < xs.length) : ∃ g cap ext y, v = .slice (some ⟨g, 0, none⟩) xs.length cap ∧ Blk w g (xs.map c8 ++ ext) 5 ∧ xs[i]? = some y ∧
    ∀ (w' : World) (z : UInt8), Blk w' g ((xs.map c8 ++ ext).set i (c8 z)) 5 → OwnB w' 5 v (xs.set i z) := by
  rcases Own.partsT h with ⟨_, h0⟩ | ⟨g, cap, ext, rfl, hB, h1, h2, h3⟩
  · omega
  · refine ⟨g, cap, ext, xs[i], rfl, hB, List.getElem?_eq_getElem hi, fun w' z hB' => ?_⟩
    rw [List.set_append_left _ _ (by simpa using hi), ← List.map_set] at hB'
    have hl : (xs.set i z).length = xs.length := List.length_set ..
    have := Own.ofPartsT (n := xs.length) (sz := 1) hB' h1 h2 (by rw [← h3]; simp) (by simp)
    unfold OwnB; rw [hl]; exact this
/-- A row of bytes in whose block perhaps a byte is written is a row of bytes. -/
theorem OwnB.hit {w w' : World} {v : Value} {ys : List UInt8} {g : Nat} {l : List Value} {z : UInt8} (h : OwnB w 5 v ys) (hB : Blk w g l 5) (hB' : Blk w' g (l.set 0 (c8 z)) 5) (hk : Keep (· ≠ g) w w') : ∃ ys' : List UInt8, ys'.length = ys.length ∧ OwnB w' 5 v ys' := by
  rcases Own.partsT h with ⟨rfl, h0⟩ | ⟨g2, cap, ext, rfl, hB2, h1, h2, h3⟩
  · obtain rfl : ys = [] := List.eq_nil_of_length_eq_zero h0
    exact ⟨[], rfl, own_nil _ _ _⟩
  · by_cases e : g2 = g
    · subst e
      have hl := hB.uniq hB2
      subst hl
      cases ys with
      | nil =>
        refine ⟨[], rfl, ?_⟩
        have hB'' : Blk w' g2 ([] ++ ext.set 0 (c8 z)) 5 := hB'
        exact Own.ofPartsT (n := 0) (sz := 1) hB'' h1 h2 (by rw [← h3]; simp) rfl
      | cons y ys =>
        refine ⟨z :: ys, rfl, ?_⟩
        have hB'' : Blk w' g2 ((z :: ys).map c8 ++ ext) 5 := hB'
        exact Own.ofPartsT (n := (z :: ys).length) (sz := 1) hB'' h1 h2 (by rw [← h3]; simp) (by simp)
    · exact ⟨ys, rfl, h.keep hk (fun z hz => by obtain rfl : g2 = z := Option.some.inj hz; exact e)⟩
def RowsN (w : World) (lo : Nat) (vs : List Value) : Prop := ∀ v ∈ vs, (∃ ys : List UInt8, ys ≠ [] ∧ OwnB w 5 v ys) ∧ InB (fun z => lo ≤ z) v
theorem RowsO.n {w : World} {lo : Nat} : ∀ {vs : List Value} {bs : List (List UInt8)}, RowsO w lo vs bs → (∀ b ∈ bs, b ≠ []) → RowsN w lo vs
  | [], [], _, _ => fun v h => by cases h
  | v :: vs, b :: bs, h, hb => fun u hu => by
    rcases List.mem_cons.1 hu with rfl | hu
    · exact ⟨⟨b, hb b (List.mem_cons_self ..), h.1⟩, h.2.1⟩
    · exact RowsO.n h.2.2 (fun c hc => hb c (List.mem_cons_of_mem _ hc)) u hu
  | [], _ :: _, h, _ => h.elim
  | _ :: _, [], h, _ => h.elim
theorem RowsN.hit {w w' : World} {lo g : Nat} {vs : List Value} {l : List Value} {z : UInt8} (h : RowsN w lo vs) (hB : Blk w g l 5) (hB' : Blk w' g (l.set 0 (c8 z)) 5) (hk : Keep (· ≠ g) w w') : RowsN w' lo vs := fun v hv => by
  obtain ⟨⟨ys, hne, hO⟩, hI⟩ := h v hv
  obtain ⟨ys', hl, hO'⟩ := OwnB.hit hO hB hB' hk
  exact ⟨⟨ys', fun e => hne (List.eq_nil_of_length_eq_zero (by rw [← hl, e]; rfl)), hO'⟩, hI⟩
theorem encN_ne (n : Nat) : encN n ≠ [] := by unfold encN; split <;> simp
theorem nodeB_ne {T : Tre} (h : T ≠ .no) : nodeB T ≠ [] := by
  cases T with
  | no => exact absurd rfl h
  | leaf b v => rw [nodeB]; simp [encN_ne]
  | branch b k => rw [nodeB_br]; simp [encN_ne]
theorem prove_ne (T : Tre) (key : Dig) : ∀ b ∈ proveT T key, b ≠ [] := fun b hb => by
  obtain ⟨x, hx, rfl⟩ := List.mem_map.1 hb
  exact nodeB_ne (wayT_ne _ _ _ hx)
theorem xor_u8 (y : UInt8) : bitw .xor .u8 ((y.toNat : Nat) : Int) 1 = ((((y.toNat ^^^ 1).toUInt8).toNat : Nat) : Int) := by
  have h3 := Nat.xor_lt_two_pow (show y.toNat < 2 ^ 8 from y.toNat_lt) (show 1 < 2 ^ 8 by decide)
  rw [show (1 : Int) = ((1 : Nat) : Int) from rfl, bitw_xor rfl _ _ (show y.toNat < 2 ^ 8 from y.toNat_lt) (by decide), toU8_lt h3]
theorem ne_rows2 : (25 : Nat) ≠ 5 := by decide
end Go.Proofs.YtpiidddccmohdabDoor.B
