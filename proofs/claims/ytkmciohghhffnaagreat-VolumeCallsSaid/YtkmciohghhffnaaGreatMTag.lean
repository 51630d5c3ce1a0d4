/-
  Texts merged (mtpl.py): Tag RowsB RowsC.
-/
import Derived.Test.YtkmciohghhffnaaGreatTrod
import Derived.Test.YtkmciohghhffnaaGreatRefSha2
import Derived.Test.YtkmciohghhffnaaGreatMPack
import Derived.Test.YtkmciohghhffnaaGreatMLib
/-! sha: digests of tagged rows, the program's and the document's. -/
namespace Go.Proofs.YtkmciohghhffnaaGreat.B
open Go
set_option linter.unusedVariables false
set_option maxHeartbeats 2000000
set_option maxRecDepth 100000
attribute [local irreducible] W OpsW OpsQ retP
/-- The bytes of tagged rows. -/
def tagB (use : UInt8) (pss : List (List UInt8)) : List UInt8 := use :: (pss.map encB).flatten
/-- Their digest. -/
def tagF (use : UInt8) (pss : List (List UInt8)) : List UInt8 := sumF (tagB use pss)
theorem tagF_len (use : UInt8) (pss : List (List UInt8)) : (tagF use pss).length = 32 := sumF_len _
theorem tagB_s {use : UInt8} {pss : List (List UInt8)} {k : Nat} {p : List UInt8} (h : pss[k]? = some p) : tagB use (pss.take (k + 1)) = tagB use (pss.take k) ++ encB p := by
  unfold tagB; rw [take_s h]; simp
theorem tagB_le (use : UInt8) (pss : List (List UInt8)) (k : Nat) : (tagB use (pss.take k)).length ≤ (tagB use pss).length := by
  have e : tagB use pss = tagB use (pss.take k) ++ ((pss.drop k).map encB).flatten := by
    unfold tagB
    rw [List.cons_append, ← List.flatten_append, ← List.map_append, List.take_append_drop]
  rw [e, List.length_append]; omega
theorem encB_ge (p : List UInt8) : p.length ≤ (encB p).length := by unfold encB; rw [List.length_append]; omega
theorem flat_enc {n : Nat} (hn : n < 2 ^ 63) : ∀ {l : List (List UInt8)}, (∀ p ∈ l, p.length ≤ n) → (l.map encB).flatten.length ≤ (n + 10) * l.length
  | [], _ => by simp
  | p :: l, h => by
    have h1 := flat_enc hn (l := l) fun q hq => h q (List.mem_cons_of_mem _ hq)
    have h2 := h p (List.mem_cons_self ..)
    have h3 := encB_len p (by omega)
    rw [List.map_cons, List.flatten_cons, List.length_append, List.length_cons, Nat.mul_succ]; omega

theorem sh_Tagged (w : World) (v : Value) (use : UInt8) (pss : List (List UInt8)) (hv : SlR w v 1 (RowB w) pss) (hl : (tagB use pss).length ≤ 1000000) :
    Ret Tryz.prog 37 [c8 use, v].toArray w fun r w' => r = .agg ((tagF use pss).map c8).toArray ∧ Keep All w w' := by
  obtain ⟨a0, c0, rfl, hc0, hcm0⟩ := hv.form
  refine enter (fn := Tryz.f37) (n := 22) Tryz.func37 rfl rfl (by simp) ?_
  refine W_seq ?_
  refine W_region ?_
  refine o_alloc rfl rfl rfl ?_; intro w1 b1 e1 hB1 hk1 hs1
  refine ops_nil ?_
  refine W_seq ?_
  refine W_region ?_
  refine o_mvt rfl ?_
  refine o_bs1 (v := (c8 use)) rfl rfl rfl rfl rfl rfl ?_; intro w2 b2 e2 hB2 hk2 hs2
  have hown2 : OwnB w2 5 (.slice (some ⟨b2, 0, none⟩) 1 1) (tagB use (pss.take 0)) := Own.blk hB2 rfl (by unfold maxLen; omega)
  refine o_ast rfl ?_
  refine ops_nil ?_
  refine W_seq ?_
  refine W_seq ?_
  refine W_region ?_
  refine o_mvt rfl ?_
  refine op_run (r_len rfl rfl rfl) rfl ?_
  refine o_mvc rfl ?_
  refine ops_nil ?_
  refine W_block ?_
  refine W_loop [5, 12] [5, 7, 12, 13, 14, 15, 16, 17, 18, 19] (fun vs w' => ∃ (vf : Value) (k : Nat), vs = [vf, .int .i64 k] ∧ k ≤ pss.length ∧ OwnB w' 5 vf (tagB use (pss.take k)) ∧ InB (fun b => w1.heap.size ≤ b) vf ∧ Keep (· < w1.heap.size) w1 w') (fun vs _ => match vs with | [_, .int _ k] => pss.length - k.toNat | _ => 0) ⟨_, 0, rfl, by omega, hown2, (fun b hb => by cases hb; show w1.heap.size ≤ b2; omega), hk2.all⟩ ?_
  rintro J3 vs w3 ⟨vf, k, rfl, hk, hown, hin, hk3⟩ -
  have hz1 := hk1.size
  have hz3 := hk3.size
  have hkw3 : Keep (· < w1.heap.size) w w3 := hk1.all.trans hk3
  refine W_seq ?_
  refine W_region ?_
  refine op_run (r_lss rfl rfl) rfl ?_
  refine ops_nil ?_
  refine W_seq ?_
  refine W_cond_p rfl (fun h4 => ?_) (fun h4 => ?_)
  · refine W_skip ?_
    refine W_seq ?_
    refine W_block ?_
    refine W_seq ?_
    refine W_region ?_
    have hkl : k < pss.length := by omega
    have hpk : pss[k]? = some pss[k] := List.getElem?_eq_getElem hkl
    obtain ⟨bp, op, cp, ep, _, hcells⟩ := hv.at (by decide) (by omega)
    cases ep
    obtain ⟨csk, _, hck, vk, rfl, hby⟩ := hcells k _ hpk
    have hck := hck 0 vk rfl
    have hinck := inc64' k (by unfold maxLen at hcm0; omega)
    have hs1 := tagB_s (use := use) hpk
    have hle := tagB_le use pss (k + 1)
    rw [hs1, List.length_append] at hle
    have hge := encB_ge pss[k]
    refine op_run (r_idxS1 rfl rfl rfl rfl (by omega) (by omega)) rfl ?_
    refine op_run (r_load rfl rfl rfl (by rw [Int.toNat_natCast, ← Nat.mul_one k]; exact hkw3.cell hck (show bp < w1.heap.size by have := World.block_lt_of_cell? w _ hck; exact Nat.lt_of_lt_of_le this hz1))) rfl ?_
    refine o_ast rfl ?_
    refine ops_nil ?_
    refine W_region ?_
    refine o_mvt rfl ?_
    refine o_mvt rfl ?_
    refine op_call rfl rfl rfl (pack_Bytes w3 vf vk (tagB use (pss.take k)) pss[k] hown (fun w'' hk'' => hby.old (A := (· < w1.heap.size)) (hkw3.trans (hk''.mono fun j _ hj e => by have := hin j e.symm; omega)) (fun j hj => Nat.lt_of_lt_of_le hj hz1)) (by omega)) ?_; rintro v7 w7 ⟨hown7, hk7, hb7⟩
    refine o_ast rfl ?_
    refine ops_nil ?_
    refine W_region ?_
    refine op_run (r_add rfl rfl) rfl ?_
    refine o_mvt rfl ?_
    refine ops_nil ?_
    refine ⟨by (repeat (first | with_reducible exact offM_refl _ _ | refine offM_updc rfl ?_ | refine offM_upd rfl ?_ | refine offM_updo rfl ?_ | refine offM_updo_none ?_ | refine offM_head rfl rfl ?_)), ⟨v7, k + 1, ?_, by omega, by rw [hs1]; exact hown7, fun b hb => ?_, hk3.trans (hk7.mono fun j _ hj e => by have := hin j e.symm; omega)⟩, ?_⟩
    · rw [← hinck]; rfl
    · rcases hb7 b hb with h | h
      · exact hin b h
      · omega
    · show pss.length - (IntKind.i64.wrap ((k : Int) + 1)).toNat < pss.length - (k : Int).toNat
      rw [hinck]; omega
  · refine W_exit ?_
    refine W_seq ?_
    refine W_region ?_
    refine o_mvt rfl ?_
    have hkp : k = pss.length := by omega
    subst hkp
    rw [List.take_length] at hown
    refine op_call rfl rfl rfl (sh_Sum w3 vf (tagB use pss) hown.by_ hl) ?_; rintro v9 w9 ⟨rfl, hk9⟩
    have hsl := sumF_len (tagB use pss)
    have hB9 := hk9.blk' (hk3.blk' hB1 (show b1 < w1.heap.size by omega)) trivial
    refine o_storeA (cs := (sumF (tagB use pss)).map c8) rfl rfl (all_c8 _) (by rw [List.length_map, hsl]; rfl) hB9 (by rw [List.length_map, hsl]; exact Nat.le_refl _) rfl ?_; intro w10 hB10 hk10 hs10
    rw [splice_all (by rw [List.length_map, hsl]; rfl)] at hB10
    refine ops_nil ?_
    refine W_ret ?_
    refine retA ((sumF (tagB use pss)).map c8) rfl rfl rfl rfl (by rw [List.length_map, hsl]; rfl) hB10.all ?_
    exact ⟨rfl, ((hk1.outA (B := fun j => ¬ j < w1.heap.size) (hk3.mono fun j _ h => Decidable.not_not.1 h) (fun j hj => by omega)).trans hk9).new hk10 (by omega)⟩

theorem rf_Tagged (w : World) (v : Value) (use : UInt8) (pss : List (List UInt8)) (hv : SlR w v 1 (RowB w) pss) (hl : (tagB use pss).length ≤ 1000000) :
    Ret Tryz.prog 38 [c8 use, v].toArray w fun r w' => r = .agg ((tagF use pss).map c8).toArray ∧ Keep All w w' := by
  obtain ⟨a0, c0, rfl, hc0, hcm0⟩ := hv.form
  refine enter (fn := Tryz.f38) (n := 23) Tryz.func38 rfl rfl (by simp) ?_
  refine W_seq ?_
  refine W_region ?_
  refine o_alloc rfl rfl rfl ?_; intro w1 b1 e1 hB1 hk1 hs1
  refine ops_nil ?_
  refine W_seq ?_
  refine W_region ?_
  refine o_mvt rfl ?_
  refine o_bs1 (v := (c8 use)) rfl rfl rfl rfl rfl rfl ?_; intro w2 b2 e2 hB2 hk2 hs2
  have hown2 : OwnB w2 5 (.slice (some ⟨b2, 0, none⟩) 1 1) (tagB use (pss.take 0)) := Own.blk hB2 rfl (by unfold maxLen; omega)
  refine o_ast rfl ?_
  refine ops_nil ?_
  refine W_seq ?_
  refine W_seq ?_
  refine W_region ?_
  refine o_asc rfl ?_
  refine ops_nil ?_
  refine W_block ?_
  refine W_loop [5, 6] [5, 6, 9, 10, 11, 12, 13, 14, 15, 16, 17, 18, 19, 20] (fun vs w' => ∃ (vf : Value) (k : Nat), vs = [vf, .int .i64 k] ∧ k ≤ pss.length ∧ OwnB w' 5 vf (tagB use (pss.take k)) ∧ InB (fun b => w1.heap.size ≤ b) vf ∧ Keep (· < w1.heap.size) w1 w') (fun vs _ => match vs with | [_, .int _ k] => pss.length - k.toNat | _ => 0) ⟨_, 0, rfl, by omega, hown2, (fun b hb => by cases hb; show w1.heap.size ≤ b2; omega), hk2.all⟩ ?_
  rintro J3 vs w3 ⟨vf, k, rfl, hk, hown, hin, hk3⟩ -
  have hz1 := hk1.size
  have hz3 := hk3.size
  have hkw3 : Keep (· < w1.heap.size) w w3 := hk1.all.trans hk3
  refine W_seq ?_
  refine W_seq ?_
  refine W_region ?_
  refine o_mvt rfl ?_
  refine o_mvt rfl ?_
  refine op_run (r_len rfl rfl rfl) rfl ?_
  refine op_run (r_lss rfl rfl) rfl ?_
  refine ops_nil ?_
  refine W_cond_p rfl (fun h4 => ?_) (fun h4 => ?_)
  · refine W_skip ?_
    refine W_seq ?_
    refine W_block ?_
    refine W_region ?_
    refine o_mvt rfl ?_
    refine o_mvt rfl ?_
    refine o_mvt rfl ?_
    have hkl : k < pss.length := by omega
    have hpk : pss[k]? = some pss[k] := List.getElem?_eq_getElem hkl
    obtain ⟨bp, op, cp, ep, _, hcells⟩ := hv.at (by decide) (by omega)
    cases ep
    obtain ⟨csk, _, hck, vk, rfl, hby⟩ := hcells k _ hpk
    have hck := hck 0 vk rfl
    have hinck := inc64' k (by unfold maxLen at hcm0; omega)
    have hs1 := tagB_s (use := use) hpk
    have hle := tagB_le use pss (k + 1)
    rw [hs1, List.length_append] at hle
    have hge := encB_ge pss[k]
    refine op_run (r_idxS1 rfl rfl rfl rfl (by omega) (by omega)) rfl ?_
    refine op_run (r_load rfl rfl rfl (by rw [Int.toNat_natCast, ← Nat.mul_one k]; exact hkw3.cell hck (show bp < w1.heap.size by have := World.block_lt_of_cell? w _ hck; exact Nat.lt_of_lt_of_le this hz1))) rfl ?_
    refine op_call rfl rfl rfl (ref01_Bytes w3 vf vk (tagB use (pss.take k)) pss[k] hown (fun w'' hk'' => hby.old (A := (· < w1.heap.size)) (hkw3.trans (hk''.mono fun j _ hj e => by have := hin j e.symm; omega)) (fun j hj => Nat.lt_of_lt_of_le hj hz1)) (by omega)) ?_; rintro v7 w7 ⟨hown7, hk7, hb7⟩
    refine o_ast rfl ?_
    refine ops_nil ?_
    refine W_region ?_
    refine o_mvt rfl ?_
    refine op_run (r_add rfl rfl) rfl ?_
    refine o_ast rfl ?_
    refine ops_nil ?_
    refine ⟨by (repeat (first | with_reducible exact offM_refl _ _ | refine offM_updc rfl ?_ | refine offM_upd rfl ?_ | refine offM_updo rfl ?_ | refine offM_updo_none ?_ | refine offM_head rfl rfl ?_)), ⟨v7, k + 1, ?_, by omega, by rw [hs1]; exact hown7, fun b hb => ?_, hk3.trans (hk7.mono fun j _ hj e => by have := hin j e.symm; omega)⟩, ?_⟩
    · rw [← hinck]; rfl
    · rcases hb7 b hb with h | h
      · exact hin b h
      · omega
    · show pss.length - (IntKind.i64.wrap ((k : Int) + 1)).toNat < pss.length - (k : Int).toNat
      rw [hinck]; omega
  · refine W_exit ?_
    refine W_seq ?_
    refine W_region ?_
    refine o_mvt rfl ?_
    have hkp : k = pss.length := by omega
    subst hkp
    rw [List.take_length] at hown
    refine op_call rfl rfl rfl (rf_Sum w3 vf (tagB use pss) hown.by_ hl) ?_; rintro v9 w9 ⟨rfl, hk9⟩
    have hsl := sumF_len (tagB use pss)
    have hB9 := hk9.blk' (hk3.blk' hB1 (show b1 < w1.heap.size by omega)) trivial
    refine o_storeA (cs := (sumF (tagB use pss)).map c8) rfl rfl (all_c8 _) (by rw [List.length_map, hsl]; rfl) hB9 (by rw [List.length_map, hsl]; exact Nat.le_refl _) rfl ?_; intro w10 hB10 hk10 hs10
    rw [splice_all (by rw [List.length_map, hsl]; rfl)] at hB10
    refine ops_nil ?_
    refine W_ret ?_
    refine retA ((sumF (tagB use pss)).map c8) rfl rfl rfl rfl (by rw [List.length_map, hsl]; rfl) hB10.all ?_
    exact ⟨rfl, ((hk1.outA (B := fun j => ¬ j < w1.heap.size) (hk3.mono fun j _ h => Decidable.not_not.1 h) (fun j hj => by omega)).trans hk9).new hk10 (by omega)⟩
end Go.Proofs.YtkmciohghhffnaaGreat.B
/-! Rows of bytes: kept, built, cut. -/
namespace Go.Proofs.YtkmciohghhffnaaGreat.B
open Go
set_option linter.unusedVariables false
set_option maxHeartbeats 2000000
set_option maxRecDepth 100000
attribute [local irreducible] W OpsW OpsQ retP
theorem rowsB_keep {w w' : World} {v : Value} {pss : List (List UInt8)} (h : SlR w v 1 (RowB w) pss) (hk : Keep All w w') : SlR w' v 1 (RowB w') pss := by
  obtain ⟨a, c, rfl, h1, h2, h3, h4⟩ := h
  refine ⟨a, c, rfl, h1, h2, h3, fun x hx i y hy => ?_⟩
  obtain ⟨cs, hl, hc, v, rfl, hb⟩ := h4 x hx i y hy
  exact ⟨[v], hl, fun j u hu => hk.cell (hc j u hu) trivial, v, rfl, hb.keep hk (fun _ _ => trivial)⟩
theorem Sl.k {w w' : World} {v : Value} {n sz : Nat} {xs : List Value} (h : Sl w v n sz xs) (hk : Keep All w w') : Sl w' v n sz xs := h.keep hk (fun _ _ => trivial)
/-- A block of slices of bytes, aa_ rows. -/
theorem rowsB_blk {w : World} {b : Nat} {e : TypeId} {vs : List Value} {xs : List (List UInt8)} (hB : Blk w b vs e) (hl : vs.length = xs.length) (hm : xs.length ≤ maxLen) (h : ∀ (i : Nat) (v : Value) (x : List UInt8), vs[i]? = some v → xs[i]? = some x → By w v x) :
    SlR w (.slice (some ⟨b, 0, none⟩) xs.length xs.length) 1 (RowB w) xs :=
  ⟨_, _, rfl, Nat.le_refl _, hm, (fun e => by cases e), fun x hx i y hy => by
    injection hx with hx; subst hx
    have hi := (List.getElem?_eq_some_iff.1 hy).1
    obtain ⟨v, hv⟩ : ∃ v, vs[i]? = some v := ⟨_, List.getElem?_eq_getElem (by omega)⟩
    refine ⟨[v], rfl, fun j u hu => ?_, v, rfl, h i v y hv hy⟩
    match j, hu with
    | 0, hu =>
      injection hu with hu; subst hu
      rw [Addr.add_lit, Addr.add_lit, Nat.zero_add, Nat.mul_one]
      exact hB.cell hv⟩
theorem rowsB_two {w : World} {b : Nat} {e : TypeId} {va vb : Value} {xa bs : List UInt8} (hB : Blk w b [va, vb] e) (ha : By w va xa) (hb : By w vb bs) : SlR w (.slice (some ⟨b, 0, none⟩) 2 2) 1 (RowB w) [xa, bs] :=
  rowsB_blk (xs := [xa, bs]) hB rfl (show 2 ≤ 2 ^ 63 - 1 by decide) fun i v x hv hx => by
    match i, hv, hx with
    | 0, hv, hx => injection hv with hv; injection hx with hx; subst hv; subst hx; exact ha
    | 1, hv, hx => injection hv with hv; injection hx with hx; subst hv; subst hx; exact hb
theorem tagB_len {use : UInt8} {pss : List (List UInt8)} {n m : Nat} (h : ∀ p ∈ pss, p.length ≤ n) (hn : n < 2 ^ 63) (hm : pss.length ≤ m) : (tagB use pss).length ≤ (n + 10) * m + 1 := by
  have h1 := flat_enc hn h
  have h2 := Nat.mul_le_mul_left (n + 10) hm
  unfold tagB
  rw [List.length_cons]; omega

/-- A part of rows. -/
theorem SlR.sub {α : Type} {w : World} {a : Option Addr} {c sz l h m : Nat} {R : List Value → α → Prop} {xs : List α} (hs : SlR w (.slice a xs.length c) sz R xs) (h1 : l ≤ h) (h2 : h ≤ xs.length) (h3 : h ≤ m) (h4 : m ≤ c) (h0 : 0 < sz) :
    SlR w (subSl a sz l h m) sz R ((xs.take h).drop l) := by
  obtain ⟨a', c', e, h5, h6, h7, h8⟩ := hs
  injection e with e1 e2 e3
  subst e1; subst e3
  have hl : ((xs.take h).drop l).length = h - l := by rw [List.length_drop, List.length_take]; omega
  unfold subSl
  refine ⟨_, _, by rw [hl], by rw [hl]; omega, by omega, ?_, ?_⟩
  · intro he
    cases a with
    | none => have := h7 rfl; omega
    | some x => split at he <;> first | omega | cases he
  · intro x hx i y hy
    have hi := (List.getElem?_eq_some_iff.1 hy).1
    rw [hl] at hi
    rw [List.getElem?_drop, List.getElem?_take, if_pos (by omega)] at hy
    cases a with
    | none => split at hx <;> cases hx
    | some z =>
      rw [if_neg (by omega), Option.map_some] at hx
      injection hx with hx
      obtain ⟨cs, hcl, hc, hr⟩ := h8 z rfl (l + i) y hy
      refine ⟨cs, hcl, fun j u hu => ?_, hr⟩
      obtain ⟨b, o, sp⟩ := z
      have hsp : sp = none := by
        obtain ⟨cs0, hl0, hc0, _⟩ := h8 _ rfl 0 xs[0] (List.getElem?_eq_getElem (by omega))
        have h5 := hc0 0 cs0[0] (List.getElem?_eq_getElem (by omega))
        simp only [Nat.zero_mul, Addr.add_zero'] at h5
        exact World.cell?_spot h5
      subst hsp
      have := hc j u hu
      rw [← hx]
      simp only [Addr.add_lit] at this ⊢
      rw [← this, show o + l * sz + i * sz + j = o + (l + i) * sz + j by rw [Nat.add_mul]; omega]
/-- Rows of one's choice. -/
theorem SlR.nil {α : Type} {w : World} {sz : Nat} {R : List Value → α → Prop} : SlR w (.slice none 0 0) sz R [] := ⟨none, 0, rfl, Nat.le_refl _, Nat.zero_le _, fun _ => rfl, fun x hx => by cases hx⟩
/-- The digest of tagged rows. -/
def tagD (use : UInt8) (pss : List (List UInt8)) : Dig := ⟨tagF use pss, tagF_len use pss⟩
end Go.Proofs.YtkmciohghhffnaaGreat.B
/-! Rows of bytes: one of them; digests as bytes. -/
namespace Go.Proofs.YtkmciohghhffnaaGreat.B
open Go
set_option linter.unusedVariables false
set_option maxHeartbeats 2000000
set_option maxRecDepth 100000
attribute [local irreducible] W OpsW OpsQ retP
theorem By.dg {w : World} {b : Nat} {d : Dig} {e : TypeId} (h : Blk w b (dgR d) e) : By w (.slice (some ⟨b, 0, none⟩) 32 32) d.val := by
  have hl := d.2
  have := By.of_at (w := w) (b := b) (off := 0) (c := 32) (bs := d.val) (fun j u hj => by rw [Nat.zero_add]; exact h.cell hj) (by omega) (by unfold maxLen; omega)
  rwa [hl] at this
theorem tag_dd (use : UInt8) (a b : Dig) : (tagB use [a.val, b.val]).length ≤ 1000000 := Nat.le_trans (tagB_len (n := 32) (m := 2) (fun p hp => by
    rcases List.mem_cons.1 hp with rfl | hp
    · exact Nat.le_of_eq a.2
    · obtain rfl := List.mem_singleton.1 hp; exact Nat.le_of_eq b.2) (by decide) (Nat.le_refl _)) (by decide)
theorem tag_1 (use : UInt8) {p : List UInt8} (h : p.length ≤ 100000) : (tagB use [p]).length ≤ 1000000 := Nat.le_trans (tagB_len (n := 100000) (m := 1) (fun q hq => by
    obtain rfl := List.mem_singleton.1 hq; exact h) (by decide) (Nat.le_refl _)) (by decide)
theorem tag_0 (use : UInt8) : (tagB use []).length ≤ 1000000 := Nat.le_trans (tagB_len (n := 0) (m := 0) (fun q hq => by cases hq) (by decide) (Nat.le_refl _)) (by decide)
theorem rowsB_one {w : World} {b : Nat} {e : TypeId} {va : Value} {xa : List UInt8} (hB : Blk w b [va] e) (ha : By w va xa) : SlR w (.slice (some ⟨b, 0, none⟩) 1 1) 1 (RowB w) [xa] :=
  rowsB_blk (xs := [xa]) hB rfl (show 1 ≤ 2 ^ 63 - 1 by decide) fun i v x hv hx => by
    match i, hv, hx with
    | 0, hv, hx => injection hv with hv; injection hx with hx; subst hv; subst hx; exact ha
/-- Row k: where it lies. -/
theorem rowsB_get {w : World} {v : Value} {pss : List (List UInt8)} {k : Nat} (hv : SlR w v 1 (RowB w) pss) (hk : k < pss.length) : ∃ bp op cp vk, v = .slice (some ⟨bp, op, none⟩) pss.length cp ∧ w.cell? ⟨bp, op + k, none⟩ = some vk ∧ By w vk pss[k] := by
  obtain ⟨bp, op, cp, ep, _, hcells⟩ := hv.at (by decide) (by omega)
  obtain ⟨csk, _, hck, vk, rfl, hby⟩ := hcells k _ (List.getElem?_eq_getElem hk)
  exact ⟨bp, op, cp, vk, ep, by have := hck 0 vk rfl; rwa [Nat.mul_one] at this, hby⟩

end Go.Proofs.YtkmciohghhffnaaGreat.B
