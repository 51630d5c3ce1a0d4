/-
  Volumes from bytes: what is seen of them (plain).
-/
import Derived.Test.YtkmciohghhffnaaGreatVEnc
namespace Go.Proofs.YtkmciohghhffnaaGreat.B
open Go
set_option linter.unusedVariables false
set_option maxHeartbeats 2000000
set_option maxRecDepth 100000
attribute [local irreducible] W OpsW OpsQ retP
def img1 (x : List UInt8 × VA) : Img := ⟨x.1, x.2.q, x.2.fr, x.2.bl⟩
theorem look_of_mem {α β : Type} [DecidableEq α] {l : List (α × β)} {x : α × β} (h : (l.map (·.1)).Nodup) (hm : x ∈ l) : lookP l x.1 = some x.2 := by
  induction l with
  | nil => cases hm
  | cons y l ih =>
    rw [List.map_cons, List.nodup_cons] at h
    unfold lookP
    rcases List.mem_cons.1 hm with rfl | hm
    · rw [if_pos rfl]
    · rw [if_neg (fun e => h.1 (by rw [e]; exact List.mem_map.2 ⟨x, hm, rfl⟩))]
      exact ih h.2 hm
theorem UpN.nodup {last : List UInt8} {l : AL} (h : UpN last l) : (l.map (·.1)).Nodup := by
  refine List.pairwise_map.2 (h.2.imp fun {a b} hab e => ?_)
  rw [e] at hab
  exact List.lt_irrefl _ hab
theorem UpC.nodup {last : Int} {l : List (Int × Bk)} (h : UpC last l) : (l.map (·.1)).Nodup := by
  refine List.pairwise_map.2 (h.2.imp fun {a b} hab e => ?_)
  rw [e] at hab
  exact absurd hab (Int.lt_irrefl _)
theorem UpN.nd {last : List UInt8} {l : AL} (h : UpN last l) : NdA l := ⟨h.nodup, fun x hx => (h.1 x hx).2.2.2.2.2.nodup⟩
theorem blkS_up {last : Int} {l : List (Int × Bk)} (h : UpC last l) : blkS l = l := by
  refine sorted_ext (R := fun a b : Int × Bk => a.1 < b.1) (fun a h => Int.lt_irrefl _ h) (fun a b h1 h2 => Int.lt_irrefl _ (Int.lt_trans h1 h2)) (blkS_lt h.nodup) h.2 fun x => ?_
  rw [blkS_mem]
  constructor
  · exact fun hx => lookP_mem hx
  · exact fun hx => look_of_mem h.nodup hx
theorem imgD_up {last : List UInt8} {l : AL} (h : UpN last l) : imgD l = l.map img1 := by
  refine sorted_ext (R := ltN) (fun a h => List.lt_irrefl _ h) (fun a b h1 h2 => List.lt_irrefl _ (List.lt_trans h1 h2)) (imgD_lt h.nodup) (List.pairwise_map.2 (h.2.imp fun {a b} hab => hab)) fun i => ?_
  rw [imgD_iff]
  constructor
  · rintro ⟨v, hv, e⟩
    have hm := lookP_mem hv
    rw [blkS_up (h.1 _ hm).2.2.2.2.2] at e
    exact List.mem_map.2 ⟨_, hm, e.symm⟩
  · intro hi
    obtain ⟨x, hx, rfl⟩ := List.mem_map.1 hi
    refine ⟨x.2, look_of_mem h.nodup hx, ?_⟩
    show img1 x = ⟨x.1, x.2.q, x.2.fr, blkS x.2.bl⟩
    rw [blkS_up (h.1 _ hx).2.2.2.2.2]; rfl
/-- The document's bytes are the volumes' own. -/
theorem encL_img {last : List UInt8} {l : AL} (h : UpN last l) : encN l.length ++ (imgD l).flatMap encI = encL l := by
  rw [imgD_up h, List.flatMap_map]
  rfl
theorem encL_len2 {last : List UInt8} {l : AL} (h : UpN last l) : 4 * l.length ≤ (encL l).length ∧ ∀ x ∈ l, 33 * x.2.bl.length ≤ (encL l).length := by
  have hc : ∀ (bl : List (Int × Bk)), 33 * bl.length ≤ (bl.flatMap encC).length := fun bl => by
    induction bl with
    | nil => exact Nat.le_refl _
    | cons p bl ih =>
      rw [List.flatMap_cons, List.length_append, List.length_cons]
      have : 33 ≤ (encC p).length := by unfold encC; rw [List.length_append, p.2.2]; have := encN_pos p.1.toNat; omega
      omega
  have hv : ∀ (x : List UInt8 × VA), namedB x.1 → 33 * x.2.bl.length + 4 ≤ (encV x).length := fun x hn => by
    unfold encV encB
    rw [List.length_append, List.length_append, List.length_append, List.length_append]
    have h1 := hc x.2.bl
    have h2 := encN_pos (qN x.2)
    have h3 := encN_pos x.1.length
    have h4 := encN_pos x.2.bl.length
    have h5 := List.length_pos_iff.2 hn.2.1
    omega
  have key : ∀ (l : AL), (∀ x ∈ l, namedB x.1) → 4 * l.length ≤ (l.flatMap encV).length ∧ ∀ x ∈ l, 33 * x.2.bl.length ≤ (l.flatMap encV).length := fun l hl => by
    induction l with
    | nil => exact ⟨Nat.le_refl _, fun x hx => by cases hx⟩
    | cons y l ih =>
      rw [List.flatMap_cons, List.length_append, List.length_cons]
      have h1 := hv y (hl y (List.mem_cons_self ..))
      have ih := ih (fun x hx => hl x (List.mem_cons_of_mem _ hx))
      refine ⟨by have := ih.1; omega, fun x hx => ?_⟩
      rcases List.mem_cons.1 hx with rfl | hx
      · omega
      · have := ih.2 x hx; omega
  have hk := key l (fun x hx => (h.1 x hx).2.1)
  unfold encL
  rw [List.length_append]
  exact ⟨by have := hk.1; omega, fun x hx => by have := hk.2 x hx; omega⟩
theorem ok_all {bs : List UInt8} {l : AL} (h : setR12 bs = some l) (hb : bs.length ≤ 3000) : SmallM l ∧ BlkN 1000 l ∧ ∀ i ∈ imgD l, ImgOk i := by
  obtain ⟨e, hu⟩ := setR12_can h
  have hl := encL_len2 hu
  rw [← e] at hl
  have hB : BlkN 1000 l := fun x hx => ⟨by have := hl.2 x hx; omega, fun p hp => ((hu.1 x hx).2.2.2.2.2.1 p hp).2⟩
  refine ⟨⟨by have := hl.1; omega, fun x hx => (hu.1 x hx).2.1.2.2⟩, hB, fun i hi => ?_⟩
  rw [imgD_up hu] at hi
  obtain ⟨x, hx, rfl⟩ := List.mem_map.1 hi
  have h1 := hu.1 x hx
  exact ⟨h1.2.1.2.2, (hB x hx).1, (hB x hx).2, h1.2.2.1, h1.2.2.2.1⟩
end Go.Proofs.YtkmciohghhffnaaGreat.B
