/-
  Volumes put and taken again (plain).
-/
import Derived.Test.YtkmciohghhffnaaGreatVDecP
import Derived.Test.YtkmciohghhffnaaGreatVBlq
namespace Go.Proofs.YtkmciohghhffnaaGreat.B
open Go
set_option linter.unusedVariables false
set_option maxHeartbeats 2000000
set_option maxRecDepth 100000
attribute [local irreducible] W OpsW OpsQ retP
theorem cellsR_enc : ∀ (l : List (Int × Bk)) (last : Int) (rest : List UInt8), UpC last l → cellsR l.length last (l.flatMap encC ++ rest) = some (l, rest)
  | [], _, _, _ => rfl
  | p :: l, last, rest, ⟨h1, h2⟩ => by
    obtain ⟨hp1, hp2, hp3⟩ := h1 p (List.mem_cons_self ..)
    rw [List.pairwise_cons] at h2
    have hbs : (p :: l).flatMap encC ++ rest = encN p.1.toNat ++ (p.2.val ++ (l.flatMap encC ++ rest)) := by
      rw [List.flatMap_cons]; unfold encC; simp [List.append_assoc]
    have e1 := numR_enc (v := p.1.toNat) (most := 1048575) (by omega) (by omega) (p.2.val ++ (l.flatMap encC ++ rest))
    have e2 := digR_enc p.2 (l.flatMap encC ++ rest)
    have ih := cellsR_enc l p.1 rest ⟨fun q hq => ⟨h2.1 q hq, (h1 q (List.mem_cons_of_mem _ hq)).2⟩, h2.2⟩
    rw [hbs]
    show cellsR (l.length + 1) last _ = _
    unfold cellsR
    simp only [e1, e2]
    have hpn : ((p.1.toNat : Nat) : Int) = p.1 := by omega
    rw [if_neg (by rintro (h | h); omega; cases h), hpn, ih]
theorem volR1_enc {v : VA} (h : VOk v) (r : List UInt8) : volR1 (encN (qN v) ++ (encN v.bl.length ++ (v.bl.flatMap encC ++ r))) = some (v, r) := by
  obtain ⟨h1, h2, h3, h4⟩ := h
  have hq : qN v ≤ 2097153 := by unfold qN; split <;> omega
  have hq2 : qN v / 2 = v.q.toNat := by unfold qN; split <;> omega
  have e1 := numR_enc (v := qN v) (most := 2097153) (by omega) hq (encN v.bl.length ++ (v.bl.flatMap encC ++ r))
  have e2 := numR_enc (v := v.bl.length) (most := qN v / 2) (by omega) (by omega) (v.bl.flatMap encC ++ r)
  have e3 := cellsR_enc v.bl (-1) r h4
  unfold volR1
  simp only [e1, e2]
  rw [if_neg (by decide), e3]
  have hfr : decide (qN v % 2 = 1) = v.fr := by
    unfold qN
    cases v.fr with
    | true => rw [if_pos rfl]; exact decide_eq_true (by omega)
    | false => rw [if_neg (by decide)]; exact decide_eq_false (by omega)
  show some ((⟨((qN v / 2 : Nat) : Int), decide (qN v % 2 = 1), v.bl⟩ : VA), r) = some (v, r)
  rw [hfr, hq2, show ((v.q.toNat : Nat) : Int) = v.q by omega]
theorem volsR_enc : ∀ (l : AL) (last rest : List UInt8), UpN last l → volsR l.length last (l.flatMap encV ++ rest) = some (l, rest)
  | [], _, _, _ => rfl
  | x :: l, last, rest, ⟨h1, h2⟩ => by
    obtain ⟨hx1, hx2, hx3⟩ := h1 x (List.mem_cons_self ..)
    rw [List.pairwise_cons] at h2
    have hbs : (x :: l).flatMap encV ++ rest = encB x.1 ++ (encN (qN x.2) ++ (encN x.2.bl.length ++ (x.2.bl.flatMap encC ++ (l.flatMap encV ++ rest)))) := by
      rw [List.flatMap_cons]; unfold encV; simp [List.append_assoc]
    have e1 := bytsR_enc (b := x.1) (most := 20) hx2.2.2 (by have := hx2.2.2; omega) (encN (qN x.2) ++ (encN x.2.bl.length ++ (x.2.bl.flatMap encC ++ (l.flatMap encV ++ rest))))
    have e2 := volR1_enc hx3 (l.flatMap encV ++ rest)
    have ih := volsR_enc l x.1 rest ⟨fun y hy => ⟨h2.1 y hy, (h1 y (List.mem_cons_of_mem _ hy)).2⟩, h2.2⟩
    rw [hbs]
    show volsR (l.length + 1) last _ = _
    unfold volsR
    simp only [e1]
    rw [if_neg (by decide), e2]
    show (if ¬ namedB x.1 ∨ ¬ last < x.1 then none else _) = _
    rw [if_neg (by rintro (h | h); exact h hx2; exact h hx1)]
    show (match volsR l.length x.1 (l.flatMap encV ++ rest) with | none => none | some r => _) = _
    rw [ih]
theorem setR12_enc {l : AL} (h : UpN [] l) (hl : l.length ≤ 1073741824) : setR12 (encL l) = some l := by
  have e1 := numR_enc (v := l.length) (most := 1073741824) (by omega) hl (l.flatMap encV)
  have e2 := volsR_enc l [] [] h
  rw [List.append_nil] at e2
  unfold setR12 encL
  simp only [e1]
  rw [if_neg (by decide), e2]
  rfl
/-- Volumes, in order. -/
def sorL (l : AL) : AL := (imgD l).map fun i => (i.nm, ⟨i.q, i.fr, i.bl⟩)
theorem sorL_up {l : AL} (hN : NdA l) (hQ : BlQ l) (hM : NQ l) (hB : BlkN 1000 l) : UpN [] (sorL l) := by
  refine ⟨fun x hx => ?_, ?_⟩
  · obtain ⟨i, hi, rfl⟩ := List.mem_map.1 hx
    obtain ⟨v, hv, e⟩ := imgD_iff.1 hi
    have hm := lookP_mem hv
    have h1 := hM _ hm
    have h2 : (v.bl.length : Int) ≤ v.q := hQ _ hm
    have h3 := (hB _ hm).2
    have enm : i.nm = i.nm := rfl
    have eq : i.q = v.q := by rw [e]
    have ebl : i.bl = blkS v.bl := by rw [e]
    have hnd := hN.2 _ hm
    refine ⟨?_, h1.1, ?_, ?_, ?_, ?_⟩
    · cases hn : i.nm with
      | nil => exact absurd hn h1.1.2.1
      | cons a b => exact List.nil_lt_cons _ _
    · show 0 ≤ i.q; rw [eq]; exact h1.2.1
    · show i.q ≤ 1048576; rw [eq]; exact h1.2.2
    · show (i.bl.length : Int) ≤ i.q; rw [ebl, blkS_len, eq]; exact h2
    · show UpC (-1) i.bl
      rw [ebl]
      refine ⟨fun p hp => ?_, blkS_lt hnd⟩
      rw [blkS_mem] at hp
      have := h3 p (lookP_mem hp)
      omega
  · unfold sorL
    rw [List.pairwise_map]
    exact (imgD_lt hN.1).imp fun {a b} hab => hab
theorem sorL_img (l : AL) : (sorL l).map img1 = imgD l := by
  unfold sorL
  rw [List.map_map]
  conv => rhs; rw [← List.map_id (imgD l)]
  apply List.map_congr_left
  intro i _
  rfl
theorem sorL_enc (l : AL) : encN l.length ++ (imgD l).flatMap encI = encL (sorL l) := by
  unfold encL sorL
  rw [List.length_map, imgD_len, List.flatMap_map]
  rfl
theorem imgOk_all {l : AL} (hM : NQ l) (hB : BlkN 1000 l) : ∀ i ∈ imgD l, ImgOk i := fun i hi => by
  obtain ⟨v, hv, e⟩ := imgD_iff.1 hi
  have hm := lookP_mem hv
  have h1 := hM _ hm
  have eq : i.q = v.q := by rw [e]
  have ebl : i.bl = blkS v.bl := by rw [e]
  refine ⟨h1.1.2.2, by rw [ebl, blkS_len]; exact (hB _ hm).1, fun p hp => ?_, by rw [eq]; exact h1.2.1, by rw [eq]; exact h1.2.2⟩
  rw [ebl, blkS_mem] at hp
  exact (hB _ hm).2 p (lookP_mem hp)
end Go.Proofs.YtkmciohghhffnaaGreat.B
