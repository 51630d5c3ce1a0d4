/-
  Two disks beside each other.
-/
import Derived.Test.YtmhbpfbidbccfaaDiskLaw
namespace Go.Proofs.Ytmhbpfbidbccfaa.B
open Go
set_option linter.unusedVariables false
set_option maxHeartbeats 2000000
set_option maxRecDepth 100000
attribute [local irreducible] W OpsW OpsQ retP
/-- Two disks in memory, apart from each other and from the blocks K. -/
def Two (w : World) (K : Nat → Prop) (b bx N : Nat) (Ld : List Sec) (Td : List (Nat × Sec)) (fd : Nat) (Lx : List Sec) (Tx : List (Nat × Sec)) (fx : Nat) (w' : World) : Prop :=
  ∃ Ad Ax : Nat → Prop, DkC w' b Ad N Ld Td fd ∧ DkC w' bx Ax N Lx Tx fx ∧ (∀ j, Ad j → w.heap.size ≤ j ∧ j < w'.heap.size ∧ ¬ Ax j ∧ ¬ K j) ∧ (∀ j, Ax j → w.heap.size ≤ j ∧ j < w'.heap.size ∧ ¬ K j) ∧ (∀ j, K j → j < w'.heap.size) ∧ Keep All w w'
section
variable {w : World} {K : Nat → Prop} {b bx N : Nat} {Ld : List Sec} {Td : List (Nat × Sec)} {fd : Nat} {Lx : List Sec} {Tx : List (Nat × Sec)} {fx : Nat} {w' : World}
theorem Two.swap (h : Two w K b bx N Ld Td fd Lx Tx fx w') : Two w K bx b N Lx Tx fx Ld Td fd w' := by
  obtain ⟨Ad, Ax, h1, h2, h3, h4, h5, h6⟩ := h
  exact ⟨Ax, Ad, h2, h1, fun j hj => ⟨(h4 j hj).1, (h4 j hj).2.1, fun hd => (h3 j hd).2.2.1 hj, (h4 j hj).2.2⟩, fun j hj => ⟨(h3 j hj).1, (h3 j hj).2.1, (h3 j hj).2.2.2⟩, h5, h6⟩
theorem Two.kw (h : Two w K b bx N Ld Td fd Lx Tx fx w') : Keep All w w' := by obtain ⟨_, _, _, _, _, _, _, h⟩ := h; exact h
theorem Two.keep {w2 : World} (h : Two w K b bx N Ld Td fd Lx Tx fx w') (hk : Keep All w' w2) : Two w K b bx N Ld Td fd Lx Tx fx w2 := by
  obtain ⟨Ad, Ax, h1, h2, h3, h4, h5, h6⟩ := h
  have hs := hk.size
  exact ⟨Ad, Ax, h1.keep hk (fun _ _ => trivial), h2.keep hk (fun _ _ => trivial), fun j hj => ⟨(h3 j hj).1, by have := (h3 j hj).2.1; omega, (h3 j hj).2.2⟩, fun j hj => ⟨(h4 j hj).1, by have := (h4 j hj).2.1; omega, (h4 j hj).2.2⟩, fun j hj => by have := h5 j hj; omega, h6.trans hk⟩
/-- A new block, of which one wants to know that it stays. -/
theorem Two.fresh {wa wb : World} {b0 : Nat} (h : Two w K b bx N Ld Td fd Lx Tx fx w') (hk : Keep All w' wa) (hb : w'.heap.size ≤ b0) (hk2 : Keep (· ≠ b0) wa wb) (hlt : b0 < wb.heap.size) : Two w (· = b0) b bx N Ld Td fd Lx Tx fx wb := by
  obtain ⟨Ad, Ax, h1, h2, h3, h4, h5, h6⟩ := h
  have hs := hk.size
  have hs2 := hk2.size
  have h6s := h6.size
  refine ⟨Ad, Ax, (h1.keep hk (fun _ _ => trivial)).keep hk2 (fun j hj => by have := (h3 j hj).2.1; omega), (h2.keep hk (fun _ _ => trivial)).keep hk2 (fun j hj => by have := (h4 j hj).2.1; omega), fun j hj => ?_, fun j hj => ?_, fun j hj => by omega, (h6.trans hk).new hk2 (by omega)⟩
  · have := h3 j hj
    exact ⟨this.1, by omega, this.2.2.1, by omega⟩
  · have := h4 j hj
    exact ⟨this.1, by omega, by omega⟩
/-- One disk was changed, with what is new. -/
theorem Two.step {A' : Nat → Prop} {Ld' : List Sec} {Td' : List (Nat × Sec)} {fd' : Nat} {w2 : World} {Ad Ax : Nat → Prop} (h2 : DkC w' bx Ax N Lx Tx fx) (h3 : ∀ j, Ad j → w.heap.size ≤ j ∧ j < w'.heap.size ∧ ¬ Ax j ∧ ¬ K j) (h4 : ∀ j, Ax j → w.heap.size ≤ j ∧ j < w'.heap.size ∧ ¬ K j) (h5 : ∀ j, K j → j < w'.heap.size) (h6 : Keep All w w')
    (hD : DkC w2 b A' N Ld' Td' fd') (hA' : ∀ j, A' j → Ad j ∨ w'.heap.size ≤ j) (hk : Keep (fun k => ¬ Ad k) w' w2) : Two w K b bx N Ld' Td' fd' Lx Tx fx w2 ∧ Keep K w' w2 := by
  obtain ⟨A2, hD2, hA2⟩ := hD.shrink
  have hs := hk.size
  have h6s := h6.size
  refine ⟨⟨A2, Ax, hD2, h2.keep hk (fun k hk' hd => (h3 k hd).2.2.1 hk'), fun j hj => ?_, fun j hj => ⟨(h4 j hj).1, by have := (h4 j hj).2.1; omega, (h4 j hj).2.2⟩, fun j hj => by have := h5 j hj; omega, h6.outA hk (fun j hj => (h3 j hj).1)⟩, hk.mono fun k _ hk' hd => (h3 k hd).2.2.2 hk'⟩
  have hlt := (hA2 j hj).2
  rcases hA' j (hA2 j hj).1 with hd | hn
  · exact ⟨(h3 j hd).1, hlt, (h3 j hd).2.2⟩
  · exact ⟨by omega, hlt, fun hx => by have := (h4 j hx).2.1; omega, fun hx => by have := h5 j hx; omega⟩
theorem Two.write (h : Two w K b bx N Ld Td fd Lx Tx fx w') (at_ : Int) (s : Sec) (hT : Td.length < 1000000) :
    Ret Try.prog 7 [.pointer (some ⟨b, 0, none⟩), .int .i64 at_, .agg (secR s).toArray].toArray w' fun r w2 => r = .int .i64 (if 0 ≤ at_ ∧ at_ < N then 0 else 2) ∧
      Two w K b bx N Ld (if (0 ≤ at_ ∧ at_ < N) ∧ fd ≠ 1 then Td ++ [(at_.toNat, s)] else Td) (if (0 ≤ at_ ∧ at_ < N) ∧ fd ≠ 1 then fd - 1 else fd) Lx Tx fx w2 ∧ Keep K w' w2 := by
  obtain ⟨Ad, Ax, h1, h2, h3, h4, h5, h6⟩ := h
  refine Calls.mono (dk_Write w' b Ad N Ld Td fd at_ s h1 (fun k hk => (h3 k hk).2.1) hT) fun e w2 ⟨u, he, hu, hD, hk⟩ => ⟨u, he, hu, ?_⟩
  exact Two.step h2 h3 h4 h5 h6 hD (fun j hj => hj) hk
theorem Two.sync (h : Two w K b bx N Ld Td fd Lx Tx fx w') (hT : Td.length < 1000000) :
    Ret Try.prog 8 [.pointer (some ⟨b, 0, none⟩)].toArray w' fun _ w2 => Two w K b bx N (if fd = 1 then Ld else seen Ld Td) (if fd = 1 then Td else []) (if fd = 1 then fd else fd - 1) Lx Tx fx w2 ∧ Keep K w' w2 := by
  obtain ⟨Ad, Ax, h1, h2, h3, h4, h5, h6⟩ := h
  refine Calls.mono (dk_Sync w' b Ad N Ld Td fd h1 (fun k hk => (h3 k hk).2.1) hT) fun e w2 ⟨u, he, hD, hk⟩ => ⟨u, he, ?_⟩
  exact Two.step h2 h3 h4 h5 h6 hD (fun j hj => .inl hj) hk
theorem Two.crash (h : Two w K b bx N Ld Td fd Lx Tx fx w') (v : Value) (ps : List UInt8) (hT : Td.length < 1000000) (hv : By w v ps) :
    Ret Try.prog 10 [.pointer (some ⟨b, 0, none⟩), v].toArray w' fun _ w2 => Two w K b bx N (landL (fate (picks ps)) Ld Td Td.length) [] 0 Lx Tx fx w2 ∧ Keep K w' w2 := by
  obtain ⟨Ad, Ax, h1, h2, h3, h4, h5, h6⟩ := h
  refine Calls.mono (dk_Crash w' b Ad N Ld Td fd _ ps h1 (fun k hk => (h3 k hk).2.1) hT (hv.keep h6 (fun _ _ => trivial)) (fun h0 j hj hd => ?_)) fun e w2 ⟨u, he, hD, hk⟩ => ⟨u, he, ?_⟩
  · obtain ⟨b0, off0, c0, rfl, _, _, hc⟩ := hv.at (by omega)
    have hlt : b0 < w.heap.size := World.block_lt_of_cell? w _ (hc 0 _ (get_c8 h0))
    obtain rfl : b0 = j := by injection hj
    have := (h3 _ hd).1; omega
  · exact Two.step h2 h3 h4 h5 h6 hD (fun j hj => .inl hj) hk
theorem Two.dead (h : Two w K b bx N Ld Td fd Lx Tx fx w') : Ret Try.prog 13 [.pointer (some ⟨b, 0, none⟩)].toArray w' fun r w2 => r = .bool (decide (fd = 1)) ∧ w2 = w' := by
  obtain ⟨Ad, Ax, h1, h2, h3, h4, h5, h6⟩ := h
  exact dk_Dead w' b Ad N Ld Td fd h1
theorem Two.image (h : Two w K b bx N Ld Td fd Lx Tx fx w') (hT : Td.length < 1000000) :
    Ret Try.prog 9 [.pointer (some ⟨b, 0, none⟩)].toArray w' fun r w2 => Own w2 30 64 r (seen Ld Td).length (rows secR (seen Ld Td)) ∧ (seen Ld Td).length = N ∧ N ≤ 65536 ∧ Keep All w' w2 := by
  obtain ⟨Ad, Ax, h1, h2, h3, h4, h5, h6⟩ := h
  have hL : (seen Ld Td).length = N ∧ N ≤ 65536 := by obtain ⟨g, c, ex, vl, _, _, _, _, _, _, _, _, _, h, _, _, h9, _⟩ := h1; exact ⟨by rw [seen_len]; exact h, h9⟩
  refine Calls.mono (dk_Image w' b Ad N Ld Td fd h1 (fun k hk => (h3 k hk).2.1) hT) fun e w2 ⟨u, he, hO, hin, hk⟩ => ⟨u, he, by rw [hL.1]; exact hO, hL.1, hL.2, hk⟩
end
/-- What comes as a call: its kind, place, number, sector; what else lies there. -/
abbrev DCall := Int × Int × Int × Sec
def dcR (y : DCall) (vp : Value) : List Value := .int .i64 y.1 :: .int .i64 y.2.1 :: .int .i64 y.2.2.1 :: (secR y.2.2.2 ++ [vp])
theorem dcR_len (y : DCall) (vp : Value) : (dcR y vp).length = 68 := by simp [dcR, secR_len]
theorem dcR_one (y : DCall) {vp : Value} (h : one vp = true) : (dcR y vp).all one = true := by
  simp only [dcR, List.all_cons, List.all_append, List.all_nil, secR_one, h]; rfl
theorem dcR_sec (y : DCall) (vp : Value) (j : Nat) (hj : j < (secR y.2.2.2).length) : (dcR y vp)[3 + j]? = (secR y.2.2.2)[j]? := by
  rw [Nat.add_comm]
  show (secR y.2.2.2 ++ [vp])[j]? = _
  rw [List.getElem?_append_left hj]
abbrev DCs (w : World) (v : Value) (xs : List DCall) : Prop := SlR w v 68 (fun cs y => ∃ a n c, cs = dcR y (.slice a n c)) xs
theorem ti_dc : ∃ z, tinfo Try.prog 32 = some (some z, 68, 112) ∧ z.cells.size = 68 := ⟨.agg ([Value.int .i64 0, .int .i64 0, .int .i64 0] ++ List.replicate 64 (c8 0) ++ [Value.slice none 0 0]).toArray, by kernel_rfl, rfl⟩
end Go.Proofs.Ytmhbpfbidbccfaa.B
