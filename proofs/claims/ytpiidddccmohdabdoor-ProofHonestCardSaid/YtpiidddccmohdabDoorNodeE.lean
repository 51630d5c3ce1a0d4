/-
  Nodes of a trie, told by their own bytes; what the nodes on the way to a key show.
-/
import Derived.Test.YtpiidddccmohdabDoorProofP
import Derived.Test.YtpiidddccmohdabDoorMTreU
namespace Go.Proofs.YtpiidddccmohdabDoor.B
open Go
set_option linter.unusedVariables false
set_option maxHeartbeats 2000000
set_option maxRecDepth 100000
attribute [local irreducible] W OpsW OpsQ retP
attribute [local irreducible] numR
theorem mask_bit (K : Nat → Tre) : ∀ n i, i < n → (maskTo K n / 2 ^ i % 2 = 1 ↔ (K i).isNo = false)
  | 0, i, h => by omega
  | n + 1, i, h => by
    show ((maskTo K n + if (K n).isNo = true then 0 else 2 ^ n) / 2 ^ i % 2 = 1) ↔ _
    have hp : 0 < 2 ^ i := Nat.two_pow_pos i
    by_cases e : i = n
    · subst e
      have hlt := maskTo_lt K i
      have h0 : maskTo K i / 2 ^ i = 0 := Nat.div_eq_of_lt hlt
      cases hno : (K i).isNo with
      | true => rw [if_pos rfl, Nat.add_zero, h0]; simp
      | false => rw [if_neg (by decide), Nat.add_div_right _ hp, h0]; simp
    · have ih := mask_bit K n i (by omega)
      cases hno : (K n).isNo with
      | true => rw [if_pos rfl, Nat.add_zero]; exact ih
      | false =>
        obtain ⟨d, hd⟩ : ∃ d, n = i + (d + 1) := ⟨n - i - 1, by omega⟩
        have e2 : 2 ^ n = 2 ^ i * (2 * 2 ^ d) := by rw [hd, Nat.pow_add, Nat.pow_succ, Nat.mul_comm (2 ^ d) 2]
        rw [if_neg (by decide), e2, Nat.add_mul_div_left _ _ hp, ← ih]
        omega
theorem digsTo_pre (K : Nat → Tre) (n : Nat) : ∀ d, ∃ r, digsTo K (n + d) = digsTo K n ++ r
  | 0 => ⟨[], by simp⟩
  | d + 1 => by
    obtain ⟨r, h⟩ := digsTo_pre K n d
    exact ⟨r ++ _, by rw [show n + (d + 1) = (n + d) + 1 by omega, digsTo_s, h, List.append_assoc]⟩
def kidsD (K : Nat → Tre) (i : Nat) : Nat → Option Dig := fun j => if j < i ∧ (K j).isNo = false then some (tagD 4 [nodeB (K j)]) else none
theorem kd_enc0 (K : Nat → Tre) (D : List UInt8) (hD : D = digsTo K 16) (M : Nat) (hM : M = maskTo K 16) : ∀ i, i ≤ 16 → ∃ rest, D = digsTo K i ++ rest ∧ kdR M D false i = (kidsD K i, rest, false) := by
  intro i
  induction i with
  | zero =>
    intro _
    exact ⟨D, by rw [show digsTo K 0 = [] from rfl, List.nil_append], by
      have e : kidsD K 0 = fun _ => none := by funext j; unfold kidsD; rw [if_neg (fun h => by omega)]
      rw [e]; rfl⟩
  | succ i ih =>
    intro hi
    obtain ⟨rest, e, h⟩ := ih (by omega)
    obtain ⟨r2, e2⟩ := digsTo_pre K (i + 1) (16 - (i + 1))
    rw [show i + 1 + (16 - (i + 1)) = 16 by omega, ← hD] at e2
    have hb := mask_bit K 16 i (by omega)
    rw [← hM] at hb
    cases hno : (K i).isNo with
    | true =>
      rw [hno] at hb
      have hd : digsTo K (i + 1) = digsTo K i := by rw [digsTo_s, if_pos hno, List.append_nil]
      refine ⟨rest, by rw [hd]; exact e, ?_⟩
      rw [kdR_no (fun h => by have := hb.1 h; cases this), h]
      congr 1
      funext j
      unfold kidsD
      by_cases ej : j = i
      · subst ej; rw [if_neg (fun h => by rw [hno] at h; exact absurd h.2 (by decide)), if_neg (fun h => by rw [hno] at h; exact absurd h.2 (by decide))]
      · by_cases hj : j < i ∧ (K j).isNo = false
        · rw [if_pos hj, if_pos ⟨by omega, hj.2⟩]
        · rw [if_neg hj, if_neg (fun h => hj ⟨by omega, h.2⟩)]
    | false =>
      rw [hno] at hb
      have hd : digsTo K (i + 1) = digsTo K i ++ (tagD 4 [nodeB (K i)]).val := by rw [digsTo_s, if_neg (by rw [hno]; decide)]
      have er : rest = (tagD 4 [nodeB (K i)]).val ++ r2 := by
        rw [hd, List.append_assoc] at e2
        exact List.append_cancel_left (e.symm.trans e2)
      refine ⟨r2, e2, ?_⟩
      rw [kdR_yes (hb.2 rfl), h]
      simp only [er, digR_enc]
      congr 1
      funext j
      unfold kidsD
      by_cases ej : j = i
      · subst ej; rw [if_pos rfl, if_pos ⟨by omega, hno⟩]
      · rw [if_neg ej]
        by_cases hj : j < i ∧ (K j).isNo = false
        · rw [if_pos hj, if_pos ⟨by omega, hj.2⟩]
        · rw [if_neg hj, if_neg (fun h => hj ⟨by omega, h.2⟩)]
theorem kd_enc (K : Nat → Tre) : kdR (maskTo K 16) (digsTo K 16) false 16 = (kidsD K 16, [], false) := by
  obtain ⟨D, hD⟩ : ∃ D, D = digsTo K 16 := ⟨_, rfl⟩
  obtain ⟨M, hM⟩ : ∃ M, M = maskTo K 16 := ⟨_, rfl⟩
  obtain ⟨rest, e1, e2⟩ := kd_enc0 K D hD M hM 16 (Nat.le_refl _)
  have : rest = [] := by
    have := congrArg List.length e1
    rw [← hD, List.length_append] at this
    exact List.eq_nil_of_length_eq_zero (by omega)
  rw [this] at e2
  rw [← hD, ← hM]; exact e2
theorem nd_leaf {b v : List UInt8} (hb : b.length ≤ 64) (hv : v.length ≤ 1000) : ndR ndM (nodeB (.leaf b v)) = (⟨true, b, v, 0, fun _ => none⟩, [], false) := by
  have e : nodeB (.leaf b v) = encN 0 ++ (encB b ++ encB v) := by rw [nodeB, List.append_assoc]
  have h1 : nA (nodeB (.leaf b v)) = (0, encB b ++ encB v, false) := by unfold nA; rw [e]; exact numR_enc (by decide) (by decide) _
  have h2 : gA (nodeB (.leaf b v)) = (b, encB v, false) := by unfold gA; rw [h1]; exact bytsR_enc hb (by omega) _
  have h3 : vA ndM (nodeB (.leaf b v)) = (v, [], false) := by
    unfold vA; rw [h2]
    have := bytsR_enc (b := v) (most := ndM) (by unfold ndM; omega) (by omega) []
    rwa [List.append_nil] at this
  rw [ndR_leaf (by rw [h1]), h2, h3]
theorem nd_branch {b : List UInt8} {K : Nat → Tre} (hb : b.length ≤ 64) : ndR ndM (nodeB (.branch b K)) = (⟨false, b, [], maskTo K 16, kidsD K 16⟩, [], false) := by
  have e : nodeB (.branch b K) = encN 1 ++ (encB b ++ (encN (maskTo K 16) ++ digsTo K 16)) := by rw [nodeB_br]; simp only [List.append_assoc]
  have hm := maskTo_lt K 16
  have h1 : nA (nodeB (.branch b K)) = (1, encB b ++ (encN (maskTo K 16) ++ digsTo K 16), false) := by unfold nA; rw [e]; exact numR_enc (by decide) (by decide) _
  have h2 : gA (nodeB (.branch b K)) = (b, encN (maskTo K 16) ++ digsTo K 16, false) := by unfold gA; rw [h1]; exact bytsR_enc hb (by omega) _
  have h3 : mA (nodeB (.branch b K)) = (maskTo K 16, digsTo K 16, false) := by unfold mA; rw [h2]; exact numR_enc (by omega) (by omega) _
  have h4 : kA (nodeB (.branch b K)) 16 = (kidsD K 16, [], false) := by
    unfold kA; rw [h3]; exact kd_enc K
  rw [ndR_branch (by rw [h1]; simp), h2, h3, h4]
theorem cnt_one {m i : Nat} : ∀ n, i < n → m / 2 ^ i % 2 = 1 → 1 ≤ cntB m n
  | 0, h, _ => by omega
  | n + 1, h, hb => by
    unfold cntB
    by_cases e : i = n
    · subst e; omega
    · have := cnt_one n (by omega) hb; omega
theorem cnt_two {m i j : Nat} : ∀ n, i < n → j < n → i ≠ j → m / 2 ^ i % 2 = 1 → m / 2 ^ j % 2 = 1 → 2 ≤ cntB m n
  | 0, h, _, _, _, _ => by omega
  | n + 1, h1, h2, hne, b1, b2 => by
    unfold cntB
    by_cases e1 : i = n
    · subst e1
      have := cnt_one i (show j < i by omega) b2
      omega
    · by_cases e2 : j = n
      · subst e2
        have := cnt_one j (show i < j by omega) b1
        omega
      · have := cnt_two n (by omega) (by omega) hne b1 b2
        omega
/-- A node of a trie is one. -/
theorem okN_node {T : Tre} {L : Nat} (hw : T.wf L) (hs : T.short) (hT : T ≠ .no) : okN L (ndR ndM (nodeB T)) := by
  cases T with
  | no => exact absurd rfl hT
  | leaf b v =>
    rw [nd_leaf hs.1 hs.2]
    exact ⟨⟨hw.1, hw.2⟩, rfl, rfl⟩
  | branch b K =>
    rw [nd_branch hs.1]
    obtain ⟨h1, h2, h3, h4, i, j, hij, hi, hj⟩ := hw
    have hi16 : i < 16 := Nat.lt_of_not_le fun h => hi (h4 i h)
    have hj16 : j < 16 := Nat.lt_of_not_le fun h => hj (h4 j h)
    exact ⟨⟨⟨h1, cnt_two 16 hi16 hj16 hij ((mask_bit K 16 i hi16).2 (Tre.notNo.2 hi)) ((mask_bit K 16 j hj16).2 (Tre.notNo.2 hj))⟩, h2⟩, rfl, rfl⟩
/-- What a trie tells, as nodes show it. -/
def tellT (T : Tre) (r : List UInt8) : Option (Bool × List UInt8) := some ((T.get r).isSome, (T.get r).getD [])
theorem tell_none {T : Tre} {r : List UInt8} (h : T.get r = none) : tellT T r = some (false, []) := by unfold tellT; rw [h]; rfl
/-- The steps of the way: how a node goes on. -/
theorem next_stop {b rest : List UInt8} {K : Nat → Tre} (h : comm b rest < b.length) : nextD rest ⟨false, b, [], maskTo K 16, kidsD K 16⟩ = none := by
  unfold nextD; rw [if_neg (comm_lt h)]
theorem next_go {b rs : List UInt8} {y : UInt8} {K : Nat → Tre} : nextD (b ++ y :: rs) ⟨false, b, [], maskTo K 16, kidsD K 16⟩ = kidsD K 16 y.toNat := by
  unfold nextD
  rw [if_pos (List.prefix_append _ _)]
  show (match (b ++ y :: rs)[b.length]? with | some x => kidsD K 16 x.toNat | none => none) = _
  rw [List.getElem?_append_right (Nat.le_refl _), Nat.sub_self]; rfl
theorem kids_no {K : Nat → Tre} {n : Nat} (h : K n = .no) : kidsD K 16 n = none := by unfold kidsD; rw [if_neg (fun hh => by rw [h] at hh; exact absurd hh.2 (by decide))]
theorem kids_is {K : Nat → Tre} {n : Nat} (h : K n ≠ .no) (hn : n < 16) : kidsD K 16 n = some (tagD 4 [nodeB (K n)]) := by unfold kidsD; rw [if_pos ⟨hn, Tre.notNo.2 h⟩]
/-- The way ends here. -/
theorem leaf_get {b v rest : List UInt8} {L : Nat} (hw : (Tre.leaf b v).wf L) (hr : rest.length = L) : (if b <+: rest then some (true, v) else some (false, [])) = tellT (.leaf b v) rest := by
  unfold tellT
  show _ = some ((if b = rest then some v else none : Option (List UInt8)).isSome, (if b = rest then some v else none : Option (List UInt8)).getD [])
  by_cases h : b <+: rest
  · have e : b = rest := h.eq_of_length (by rw [hr]; exact hw.1)
    rw [if_pos h, if_pos e]; rfl
  · rw [if_neg h, if_neg (fun e => h (by rw [e]; exact List.prefix_refl _))]; rfl
/-- Where a branch's way goes: it stops there, or goes on in a kid. -/
theorem br_cases {b rest : List UInt8} {K : Nat → Tre} {L : Nat} (hw : (Tre.branch b K).wf L) (hr : rest.length = L) :
    (wayB (.branch b K) rest = [nodeB (.branch b K)] ∧ nextD rest ⟨false, b, [], maskTo K 16, kidsD K 16⟩ = none ∧ (Tre.branch b K).get rest = none) ∨
    ∃ y rs, rest = b ++ y :: rs ∧ K y.toNat ≠ .no ∧ rs.length = L - b.length - 1 ∧ rest.drop (b.length + 1) = rs ∧ wayB (.branch b K) rest = nodeB (.branch b K) :: wayB (K y.toNat) rs ∧ nextD rest ⟨false, b, [], maskTo K 16, kidsD K 16⟩ = some (tagD 4 [nodeB (K y.toNat)]) ∧ (Tre.branch b K).get rest = (K y.toNat).get rs := by
  have hbl := hw.1
  by_cases hc : comm b rest < b.length
  · exact .inl ⟨by unfold wayB; rw [wayT_stop hc]; rfl, next_stop hc, get_noPre (comm_lt hc)⟩
  · obtain ⟨t, rfl⟩ := comm_ge hc
    cases t with
    | nil => rw [List.append_nil] at hr; omega
    | cons y rs =>
      by_cases hK : K y.toNat = .no
      · refine .inl ⟨by unfold wayB; rw [wayT_go, hK]; rfl, by rw [next_go, kids_no hK], by rw [Tre.get_br, hK]; rfl⟩
      · have h16 : y.toNat < 16 := Nat.lt_of_not_le fun hh => hK (hw.2.2.2.1 _ hh)
        rw [List.length_append, List.length_cons] at hr
        exact .inr ⟨y, rs, rfl, hK, by omega, drop_mid, by unfold wayB; rw [wayT_go]; rfl, by rw [next_go, kids_is hK h16], by rw [Tre.get_br]⟩
/-- What a trie tells is shown by its nodes on the way. -/
theorem chk_honest : ∀ (T : Tre) (L : Nat) (rest : List UInt8), T.wf L → T.short → T ≠ .no → rest.length = L → chkR (tagD 4 [nodeB T]) rest (wayB T rest) = tellT T rest := by
  intro T
  induction T with
  | no => intro L rest _ _ h; exact absurd rfl h
  | leaf b v =>
    intro L rest hw hs hT hr
    have hok := okN_node hw hs hT
    rw [← hr] at hok
    have e := nd_leaf hs.1 hs.2
    show chkR _ rest [nodeB (.leaf b v)] = _
    rw [chkR_leaf ⟨hok, rfl⟩ (by rw [e]), e, if_neg (fun h => h rfl)]
    exact leaf_get hw hr
  | branch b K ih =>
    intro L rest hw hs hT hr
    have hok := okN_node hw hs hT
    rw [← hr] at hok
    have e := nd_branch (b := b) (K := K) hs.1
    rcases br_cases hw hr with ⟨h1, h2, h3⟩ | ⟨y, rs, h0, hK, hl, hd, h1, h2, h3⟩
    · rw [h1, chkR_none ⟨hok, rfl⟩ (by rw [e]) (by rw [e]; exact h2), if_pos rfl, tell_none h3]
    · rw [h1, chkR_some ⟨hok, rfl⟩ (by rw [e]) (by rw [e]; exact h2), e]
      show chkR _ (rest.drop (b.length + 1)) _ = _
      rw [hd, ih y.toNat _ rs (hw.2.2.1 _) (hs.2 _) hK hl]
      unfold tellT
      rw [h3]
/-- Where nodes show something of a key, that is what the trie tells, or two nodes clash. -/
theorem chk_bound : ∀ (T : Tre) (L : Nat) (rest : List UInt8) (ns : List (List UInt8)) (r : Bool × List UInt8), T.wf L → T.short → T ≠ .no → rest.length = L → chkR (tagD 4 [nodeB T]) rest ns = some r →
    some r = tellT T rest ∨ ∃ (i : Nat) (x y : List UInt8), (wayB T rest)[i]? = some x ∧ ns[i]? = some y ∧ x ≠ y ∧ tagD 4 [x] = tagD 4 [y] ∧ ∀ j : Nat, j < i → (wayB T rest)[j]? = ns[j]? := by
  intro T
  induction T with
  | no => intro L rest ns r _ _ h; exact absurd rfl h
  | leaf b v =>
    intro L rest ns r hw hs hT hr h
    cases ns with
    | nil => cases h
    | cons x ns =>
      by_cases hx : okN rest.length (ndR ndM x) ∧ tagD 4 [x] = tagD 4 [nodeB (.leaf b v)]
      · by_cases he : x = nodeB (.leaf b v)
        · subst he
          have e := nd_leaf hs.1 hs.2
          rw [chkR_leaf hx (by rw [e]), e] at h
          by_cases hn : ns = []
          · rw [if_neg (fun hh => hh hn)] at h
            exact .inl (by rw [← h]; exact leaf_get hw hr)
          · rw [if_pos hn] at h; cases h
        · exact .inr ⟨0, _, x, rfl, rfl, fun hh => he hh.symm, hx.2.symm, fun j hj => by omega⟩
      · rw [chkR_bad hx] at h; cases h
  | branch b K ih =>
    intro L rest ns r hw hs hT hr h
    cases ns with
    | nil => cases h
    | cons x ns =>
      by_cases hx : okN rest.length (ndR ndM x) ∧ tagD 4 [x] = tagD 4 [nodeB (.branch b K)]
      · by_cases he : x = nodeB (.branch b K)
        · subst he
          have e := nd_branch (b := b) (K := K) hs.1
          rcases br_cases hw hr with ⟨h1, h2, h3⟩ | ⟨y, rs, h0, hK, hl, hd, h1, h2, h3⟩
          · rw [chkR_none hx (by rw [e]) (by rw [e]; exact h2)] at h
            by_cases hn : ns = []
            · rw [if_pos hn] at h
              exact .inl (by rw [← h, tell_none h3])
            · rw [if_neg hn] at h; cases h
          · rw [chkR_some hx (by rw [e]) (by rw [e]; exact h2), e] at h
            have h : chkR (tagD 4 [nodeB (K y.toNat)]) (rest.drop (b.length + 1)) ns = some r := h
            rw [hd] at h
            rcases ih y.toNat _ rs ns r (hw.2.2.1 _) (hs.2 _) hK hl h with h4 | ⟨i, p, q, p1, p2, p3, p4, p5⟩
            · refine .inl ?_
              rw [h4]; unfold tellT; rw [h3]
            · refine .inr ⟨i + 1, p, q, by rw [h1]; exact p1, p2, p3, p4, fun j hj => ?_⟩
              rw [h1]
              cases j with
              | zero => rfl
              | succ j => exact p5 j (by omega)
        · obtain ⟨t, ht⟩ := wayT_head rest hT
          exact .inr ⟨0, nodeB (.branch b K), x, by unfold wayB; rw [ht]; rfl, rfl, fun hh => he hh.symm, hx.2.symm, fun j hj => by omega⟩
      · rw [chkR_bad hx] at h; cases h
/-- One more behind shows nothing. -/
theorem chk_more : ∀ (T : Tre) (L : Nat) (rest more : List UInt8) (want : Dig), T.wf L → T.short → T ≠ .no → rest.length = L → chkR want rest (wayB T rest ++ [more]) = none := by
  intro T
  induction T with
  | no => intro L rest more want _ _ h; exact absurd rfl h
  | leaf b v =>
    intro L rest more want hw hs hT hr
    show chkR want rest (nodeB (.leaf b v) :: [more]) = none
    by_cases hx : okN rest.length (ndR ndM (nodeB (.leaf b v))) ∧ tagD 4 [nodeB (.leaf b v)] = want
    · rw [chkR_leaf hx (by rw [nd_leaf hs.1 hs.2]), if_pos (by simp)]
    · exact chkR_bad hx
  | branch b K ih =>
    intro L rest more want hw hs hT hr
    have e := nd_branch (b := b) (K := K) hs.1
    rcases br_cases hw hr with ⟨h1, h2, h3⟩ | ⟨y, rs, h0, hK, hl, hd, h1, h2, h3⟩
    · rw [h1]
      show chkR want rest (nodeB (.branch b K) :: [more]) = none
      by_cases hx : okN rest.length (ndR ndM (nodeB (.branch b K))) ∧ tagD 4 [nodeB (.branch b K)] = want
      · rw [chkR_none hx (by rw [e]) (by rw [e]; exact h2), if_neg (by simp)]
      · exact chkR_bad hx
    · rw [h1]
      show chkR want rest (nodeB (.branch b K) :: (wayB (K y.toNat) rs ++ [more])) = none
      by_cases hx : okN rest.length (ndR ndM (nodeB (.branch b K))) ∧ tagD 4 [nodeB (.branch b K)] = want
      · rw [chkR_some hx (by rw [e]) (by rw [e]; exact h2), e]
        show chkR _ (rest.drop (b.length + 1)) _ = none
        rw [hd]
        exact ih y.toNat _ rs more _ (hw.2.2.1 _) (hs.2 _) hK hl
      · exact chkR_bad hx
theorem wayB_ne {T : Tre} {r : List UInt8} (h : T ≠ .no) : wayB T r ≠ [] := by
  obtain ⟨t, ht⟩ := wayT_head r h
  unfold wayB; rw [ht]; simp
/-- Without the last one nothing is shown. -/
theorem chk_less : ∀ (T : Tre) (L : Nat) (rest : List UInt8) (want : Dig), T.wf L → T.short → T ≠ .no → rest.length = L → chkR want rest (wayB T rest).dropLast = none := by
  intro T
  induction T with
  | no => intro L rest want _ _ h; exact absurd rfl h
  | leaf b v => intro L rest want hw hs hT hr; rfl
  | branch b K ih =>
    intro L rest want hw hs hT hr
    have e := nd_branch (b := b) (K := K) hs.1
    rcases br_cases hw hr with ⟨h1, h2, h3⟩ | ⟨y, rs, h0, hK, hl, hd, h1, h2, h3⟩
    · rw [h1]; rfl
    · rw [h1, List.dropLast_cons_of_ne_nil (wayB_ne hK)]
      by_cases hx : okN rest.length (ndR ndM (nodeB (.branch b K))) ∧ tagD 4 [nodeB (.branch b K)] = want
      · rw [chkR_some hx (by rw [e]) (by rw [e]; exact h2), e]
        show chkR _ (rest.drop (b.length + 1)) _ = none
        rw [hd]
        exact ih y.toNat _ rs _ (hw.2.2.1 _) (hs.2 _) hK hl
      · exact chkR_bad hx
end Go.Proofs.YtpiidddccmohdabDoor.B
