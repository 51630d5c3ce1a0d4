/-
  Volumes as images.
-/
import Derived.Test.YtkmciohghhffnaaVSrtI
import Derived.Test.YtkmciohghhffnaaMLib
namespace Go.Proofs.Ytkmciohghhffnaa.B
open Go
set_option linter.unusedVariables false
set_option maxHeartbeats 2000000
set_option maxRecDepth 100000
attribute [local irreducible] W OpsW OpsQ retP
/-- A volume's image. -/
structure Img where
  nm : List UInt8
  q : Int
  fr : Bool
  bl : List (Int × Bk)
def nbR (p : Int × Bk) : List Value := .int .i64 p.1 :: blkR p.2
theorem nbR_len (p : Int × Bk) : (nbR p).length = 33 := by unfold nbR; rw [List.length_cons, blkR_len]
theorem nbR_one (p : Int × Bk) : (nbR p).all one = true := by unfold nbR; rw [List.all_cons, blkR_one]; rfl
def imR (y : Img × Value) : List Value := [strA y.1.nm, .int .i64 y.1.q, .bool y.1.fr, y.2]
theorem imR_len (y : Img × Value) : (imR y).length = 4 := rfl
theorem ti_nb : tinfo Try.prog 60 = some (some (.agg (nbR (0, Bk.zero)).toArray), 33, 40) := by kernel_rfl
theorem ti_im : tinfo Try.prog 55 = some (some (.agg #[.string ⟨#[]⟩, .int .i64 0, .bool false, .slice none 0 0]), 4, 56) := by kernel_rfl
def blkS (bl : List (Int × Bk)) : List (Int × Bk) := (sortI (bl.map (·.1))).map fun n => (n, (lookP bl n).getD Bk.zero)
theorem blkS_len (bl : List (Int × Bk)) : (blkS bl).length = bl.length := by unfold blkS sortI; rw [List.length_map, List.length_mergeSort, List.length_map]
def imgOf (l : AL) (nm : List UInt8) : Img := match lookP l nm with
  | some v => ⟨nm, v.q, v.fr, blkS v.bl⟩
  | none => ⟨nm, 0, false, []⟩
theorem imgOf_some {l : AL} {nm : List UInt8} {v : VA} (h : lookP l nm = some v) : imgOf l nm = ⟨nm, v.q, v.fr, blkS v.bl⟩ := by unfold imgOf; rw [h]
def namesD (l : AL) : List (List UInt8) := sortS (l.map (·.1))
theorem namesD_len (l : AL) : (namesD l).length = l.length := by unfold namesD sortS; rw [List.length_mergeSort, List.length_map]
/-- All images. -/
def imgD (l : AL) : List Img := (namesD l).map (imgOf l)
structure ImgsO (w : World) (v : Value) (L : List Img) (ys : List (Img × Value)) : Prop where
  e : ys.map (·.1) = L
  o : Own w 55 4 v L.length (rows imR ys)
  b : ∀ y ∈ ys, Own w 60 33 y.2 y.1.bl.length (rows nbR y.1.bl)
theorem ImgsO.k {w w' : World} {v : Value} {L : List Img} {ys : List (Img × Value)} (h : ImgsO w v L ys) (hk : Keep All w w') : ImgsO w' v L ys :=
  ⟨h.e, h.o.keep hk (fun _ _ => trivial), fun y hy => (h.b y hy).keep hk (fun _ _ => trivial)⟩
theorem own_ne {w : World} {e e' sz sz' n n' : Nat} {v v' : Value} {xs xs' : List Value} (h : Own w e sz v n xs) (h' : Own w e' sz' v' n' xs') (hne : e ≠ e') : InB (fun z => some z ≠ v.ownBlock) v' := by
  intro z hz hzv
  rcases h.2 with ⟨rfl, _⟩ | ⟨g, cap, cur, rfl, _, hg, _⟩
  · cases hzv
  rcases h'.2 with ⟨rfl, _⟩ | ⟨g', cap', cur', rfl, _, hg', _⟩
  · cases hz
  have e1 : g' = z := by simpa [Value.ownBlock] using hz
  have e2 : z = g := by simpa [Value.ownBlock] using hzv
  subst e1; subst e2
  rw [hg] at hg'
  have := Option.some.inj hg'
  injection this with _ h3
  exact hne h3
theorem own_neB {w : World} {b e sz n : Nat} {t : TypeId} {cs : List Value} {v : Value} {xs : List Value} (h : Blk w b cs t) (h' : Own w e sz v n xs) (hne : t ≠ e) : InB (fun z => z ≠ b) v := by
  intro z hz e1
  rcases h'.2 with ⟨rfl, _⟩ | ⟨g', cap', cur', rfl, _, hg', _⟩
  · cases hz
  have e2 : g' = z := by simpa [Value.ownBlock] using hz
  subst e2; subst e1
  have h1 : w.heap[g']? = some (.cells cs.toArray t) := h
  rw [h1] at hg'
  have := Option.some.inj hg'
  injection this with _ h3
  exact hne h3
theorem own_neM {α : Type} {kv : α → Value} {w : World} {b e sz n : Nat} {l : List (α × Value)} {v : Value} {xs : List Value} (h : MapG kv w b l) (h' : Own w e sz v n xs) : InB (fun z => z ≠ b) v := by
  intro z hz e1
  rcases h'.2 with ⟨rfl, _⟩ | ⟨g', cap', cur', rfl, _, hg', _⟩
  · cases hz
  have e2 : g' = z := by simpa [Value.ownBlock] using hz
  subst e2; subst e1
  obtain ⟨es, cl, h1, _⟩ := h
  rw [h1] at hg'; cases hg'
theorem own_neMod {w : World} {mb bm e sz n : Nat} {l : ModL} {v : Value} {xs : List Value} (h : ModW w mb bm l) (h' : Own w e sz v n xs) : InB (fun z => ¬ ModB bm l z) v := by
  intro z hz hB
  rcases hB with e1 | ⟨x, hx, e1⟩
  · exact own_neM h.vs h' z hz e1
  · exact own_neM (h.v x hx).2 h' z hz e1
theorem ImgsO.kM {w w' : World} {mb bm : Nat} {l : ModL} {v : Value} {L : List Img} {ys : List (Img × Value)} (h : ImgsO w v L ys) (hM : ModW w mb bm l) (hk : Keep (fun z => ¬ ModB bm l z) w w') : ImgsO w' v L ys :=
  ⟨h.e, h.o.keep hk (own_neMod hM h.o), fun y hy => (h.b y hy).keep hk (own_neMod hM (h.b y hy))⟩

end Go.Proofs.Ytkmciohghhffnaa.B
