/-
  trie: keys.
-/
import Derived.Test.YtpiidddccmohdaaTreW6
namespace Go.Proofs.Ytpiidddccmohdaa.B
open Go
section
variable {f0 : Bool} {c0 : Ctx} {P : Program} {n : Nat} {ops : Array Oper} {F : Fr} {w : World} {K : Fr → World → Prop} {rest : List Oper} {dst : Option Tmp} {ty : TypeId} {pos : String} {after : Array Edge} {g : Option (Nat × Bool)}
/-- append to a slice that has no room: a new row. -/
theorem o_appFull {s x : Operand} {t e : TypeId} {z : Value} {by_ : Nat} {m k c : Nat} {a : Option Addr} {xs news : List Value} {ad : Addr}
    (hs : ev F s = .slice a m m) (hsl : Sl w (.slice a m m) m 1 xs) (hx : ev F x = .slice (some ad) k c) (ht : P.underlying t = some (.slice e)) (hi : tinfo P e = some (some z, 1, by_)) (hz : one z = true)
    (hl : news.length = k) (hnews : ∀ (j : Nat) (u : Value), news[j]? = some u → w.cell? (ad.add j) = some u) (h1 : news.all one = true) (hk0 : 0 < k)
    (h63 : m + k ≤ maxLen) (hby : (m + k) * by_ ≤ 140737488355328)
    (hg : wantedF ops F ⟨dst, .call ⟨.builtin .append, #[s, x], #[t, t]⟩, ty, pos, after, g⟩ = true)
    (h : ∀ v' w', Own w' e 1 v' (m + k) (xs ++ news) → Keep All w w' → InB (fun b => w.heap.size ≤ b) v' → OpsW f0 c0 P n ops rest (updo n F dst v') w' K) :
    OpsW f0 c0 P n ops (⟨dst, .call ⟨.builtin .append, #[s, x], #[t, t]⟩, ty, pos, after, g⟩ :: rest) F w K := by
  obtain ⟨a', c', ea, h5, h6, h7, h8, h9⟩ := hsl
  injection ea with ea1 ea2 ea3; subst ea1; subst ea3
  rw [Nat.mul_one] at h7
  cases a with
  | none =>
    have hm := h8 rfl
    subst hm
    obtain rfl : xs = [] := List.eq_nil_of_length_eq_zero h7
    obtain ⟨v', w', hr, ho, hk, hb, _⟩ := run_app (P := P) (ty := ty) (c := c) ht hi (by rw [cells_one hz]; rfl) (by decide) (own_nil w e 1) (by rw [hl, Nat.mul_one]) hnews h1 h63 hby
    refine op_run0 (v := v') (w' := w') ?_ hg (h v' w' ho (hk.mono fun z _ _ h => by cases h) (hb.mono fun z hz => by
      rcases hz with h | h
      · cases h
      · exact h))
    (try unfold Run1); simp [execOp, resolve, invoke, builtin, hs, hx, hr]
  | some b =>
    obtain ⟨i, hi1, hi2, hi3, hi4⟩ := tinfo_info hi
    have holds : ∀ j u, xs[j]? = some u → w.cell? (b.add j) = some u := fun j u hu => by
      obtain ⟨hsp, hc⟩ := h9 b rfl j u hu
      obtain ⟨bb, bo, bs⟩ := b
      cases hsp
      rw [Addr.add_lit]; exact hc
    have hr := run_append_grow (P := P) w t ty e i z ht hi1 hi2 b m m xs (by rw [hi3, Nat.mul_one]; exact h7) holds ad k c news (by rw [hi3, Nat.mul_one]; exact hl) hnews (by omega) (by unfold maxLen at h63; omega) (growslice_fits (by omega) (by rw [hi4]; exact hby))
    have hge := grownCap_ge w (m + k) m e
    have hcm := grownCap_le_maxLen w (m + k) m e h63
    have hzs : z.cells.size = 1 := by rw [cells_one hz]; rfl
    refine op_run0 (v := .slice (some ⟨w.heap.size, 0, none⟩) (m + k) (grownCap w (m + k) m e)) (w' := w.drew.alloc (.cells (xs.toArray ++ news.toArray ++ Builtin.zeroCells z.cells (grownCap w (m + k) m e - (m + k))) e)) ?_ hg (h _ _ ⟨by rw [List.length_append]; omega, .inr ⟨w.heap.size, _, _, rfl, Nat.zero_le _, heap_alloc_new w.drew _, hge, hcm, ?_, ?_⟩⟩ ((Keep.drawn w).trans (Keep.alloc w.drew _)) (fun z hz => by
      have : w.heap.size = z := Option.some.inj hz; omega))
    · (try unfold Run1); simp [execOp, resolve, invoke, builtin, hs, hx, hr]
    · simp only [Array.size_append, List.size_toArray, size_zeroCells, hzs]; omega
    · simp only [Array.toList_append, List.append_assoc, Nat.mul_one]
      rw [← List.append_assoc]
      exact List.take_left' (by rw [List.length_append]; omega)
end
set_option linter.unusedVariables false
set_option maxHeartbeats 2000000
set_option maxRecDepth 100000
attribute [local irreducible] W OpsW OpsQ retP
theorem sl_ClipT (w : World) (a : Option Addr) (c : Nat) (n : Nat) (hc : n ≤ c) : Ret Try.prog 55 [.slice a n c].toArray w fun r w' => r = subSl a 1 0 n n ∧ w' = w := by
  refine enter (fn := Try.f55) (n := 9) Try.func55 rfl rfl (by simp) ?_
  refine W_seq ?_
  refine W_region ?_
  refine o_asc rfl ?_
  refine ops_nil ?_
  refine W_seq ?_
  refine W_region ?_
  refine o_mvt rfl ?_
  refine o_mvt rfl ?_
  refine op_run (r_len rfl rfl rfl) rfl ?_
  refine o_mvt rfl ?_
  refine op_run (r_len rfl rfl rfl) rfl ?_
  refine op_run (r_sliceS_himx rfl rfl rfl rfl rfl (by omega) (by omega) (by omega)) rfl ?_
  refine o_ast rfl ?_
  refine ops_nil ?_
  refine W_ret ?_
  refine ret1 (subSl a 1 0 n n) rfl ?_ ?_; rfl
  exact ⟨rfl, rfl⟩
theorem NodeB.mono {B C : Nat → Prop} {w : World} (hB : ∀ z, B z → C z) : ∀ {T : Tre} {v : Value}, NodeB B w T v → NodeB C w T v := by
  intro T
  induction T with
  | no => intro v h; exact h
  | leaf beg val => rintro v ⟨b, vb, vv, e, h1, h2, h3, h4, h5, h6⟩; exact ⟨b, vb, vv, e, h1, h2, h3, hB _ h4, fun h => (h5 h).mono hB, fun h => (h6 h).mono hB⟩
  | branch beg kids ih => rintro v ⟨b, vb, vv, bk, ps, e, h1, h2, h3, h4, h5, h7, h8, h9, h6⟩; exact ⟨b, vb, vv, bk, ps, e, h1, h2, h3, h4, h5, hB _ h7, hB _ h8, fun h => (h9 h).mono hB, fun i p hp => ih i (h6 i p hp)⟩
/-! ### The keys -/
def packStep (d : List UInt8) (i : Nat) (x : UInt8) : List UInt8 := d.set (i / 2) (((d.getD (i / 2) 0).toNat * 16 % 256 ||| x.toNat).toUInt8)
def packTo (r : List UInt8) : Nat → List UInt8
  | 0 => List.replicate 32 0
  | k + 1 => packStep (packTo r k) k (r.getD k 0)
theorem packTo_len (r : List UInt8) : ∀ k, (packTo r k).length = 32
  | 0 => List.length_replicate ..
  | k + 1 => by unfold packTo packStep; rw [List.length_set, packTo_len r k]
def packDig (r : List UInt8) : Dig := ⟨packTo r r.length, packTo_len r _⟩
def keysT : Tre → List UInt8 → List (List UInt8)
  | .no, _ => []
  | .leaf b _, a => [a ++ b]
  | .branch b k, a => (List.range 16).flatMap fun i => keysT (k i) ((a ++ b) ++ [i.toUInt8])
def keysTo (K : Nat → Tre) (a : List UInt8) (n : Nat) : List (List UInt8) := (List.range n).flatMap fun i => keysT (K i) (a ++ [i.toUInt8])
theorem keysTo_s (K : Nat → Tre) (a : List UInt8) (n : Nat) : keysTo K a (n + 1) = keysTo K a n ++ keysT (K n) (a ++ [n.toUInt8]) := by
  unfold keysTo; rw [List.range_succ, List.flatMap_append]; simp
theorem keysTo_le (K : Nat → Tre) (a : List UInt8) (n : Nat) (h : n ≤ 16) : (keysTo K a n).length ≤ (keysTo K a 16).length := by
  obtain ⟨j, hj⟩ : ∃ j, 16 = n + j := ⟨16 - n, by omega⟩
  unfold keysTo
  rw [hj, List.range_add, List.flatMap_append, List.length_append]; omega
theorem or_u8 (x y : UInt8) : bitw .or .u8 (((x.toNat * 16 % 256 : Nat) : Nat) : Int) ((y.toNat : Nat) : Int) = ((((x.toNat * 16 % 256 ||| y.toNat).toUInt8).toNat : Nat) : Int) := by
  have h1 : x.toNat * 16 % 256 < 2 ^ 8 := by omega
  have h2 : y.toNat < 2 ^ 8 := y.toNat_lt
  have h3 := Nat.or_lt_two_pow h1 h2
  rw [bitw_or rfl _ _ h1 h2, toU8_lt h3]
theorem shl_u8 (x : UInt8) : IntKind.u8.wrap (((x.toNat : Nat) : Int) * 2 ^ (min ((4 : Int)).toNat IntKind.u8.bits)) = (((x.toNat * 16 % 256 : Nat)) : Int) := by
  rw [show (min ((4 : Int)).toNat IntKind.u8.bits) = 4 from rfl]
  show (((x.toNat : Nat) : Int) * 2 ^ 4) % 256 = _
  omega
theorem quo2 (k : Nat) (h : k < 2 ^ 20) : IntKind.i64.wrap (Int.tdiv (k : Int) 2) = ((k / 2 : Nat) : Int) := by
  rw [Int.tdiv_eq_ediv_of_nonneg (by omega), wrap_i64 (by omega) (by omega)]; omega
def KeysOk (T : Tre) : Prop := ∀ (w : World) (L lo : Nat) (v va vo : Value) (ahead : List UInt8) (out : List Dig), T.wf L → ahead.length + L = 64 → NodeB (fun z => z < lo) w T v → By w va ahead →
  Own w 30 32 vo out.length (rows dgR out) → InB (fun z => lo ≤ z) vo → lo ≤ w.heap.size → out.length + (keysT T ahead).length ≤ 2 ^ 20 →
  Ret Try.prog 39 [v, va, vo].toArray w fun r w' => Own w' 30 32 r (out ++ (keysT T ahead).map packDig).length (rows dgR (out ++ (keysT T ahead).map packDig)) ∧ Keep (fun z => some z ≠ vo.ownBlock) w w' ∧ InB (fun z => vo.ownBlock = some z ∨ w.heap.size ≤ z) r
theorem ti_dgK : tinfo Try.prog 30 = some (some (.agg (List.replicate 32 (c8 0)).toArray), 32, 32) := by kernel_rfl
theorem tr_keys1 (T : Tre) (hT : T ≠ .no) (ih : ∀ b k, T = .branch b k → ∀ i, k i ≠ .no → KeysOk (k i)) : KeysOk T := by
  intro w L lo v va vo ahead out hwf hL hN hah hO hIn hlo hcount
  obtain ⟨b, vb, vvn, pk, rfl, hB, hb, hvn, hcase⟩ := hN.open hT
  obtain ⟨ab, cb, rfl, hcb0, hcbm⟩ := hb.form
  obtain ⟨aa, ca, rfl, _, _⟩ := hah.form
  have hbl := (wf_beg hwf).1
  obtain ⟨r, hr_⟩ : ∃ r, r = ahead ++ begT T := ⟨_, rfl⟩
  have hrl : r.length ≤ 64 := by rw [hr_, List.length_append]; omega
  have hvlt : ∀ z, vo.ownBlock = some z → z < w.heap.size := fun z hz => hO.lt z hz
  refine enter (fn := Try.f39) (n := 69) Try.func39 rfl rfl (by simp) ?_
  refine W_seq ?_
  refine W_region ?_
  refine o_asc rfl ?_
  refine ops_nil ?_
  refine W_seq ?_
  refine W_region ?_
  refine o_mvt rfl ?_
  refine o_mvt rfl ?_
  refine op_run (r_nilCheck rfl) rfl ?_
  refine op_run (r_fieldAddr rfl rfl rfl rfl rfl) rfl ?_
  refine op_run (r_load rfl rfl rfl (hB.cell rfl)) rfl ?_
  refine o_bsL ([.slice aa ahead.length ca, .slice ab (begT T).length cb]) rfl rfl rfl rfl rfl rfl rfl rfl rfl ?_; intro w2 b2 e2 hB2 hk2 hs2
  have hS2 : Sl w2 (.slice (some ⟨b2, 0, none⟩) 2 2) 2 1 [.slice aa ahead.length ca, .slice ab (begT T).length cb] := (Own.blk (n := 2) (sz := 1) hB2 rfl (by unfold maxLen; omega)).sl
  have hgs : ∀ x ∈ [(Value.slice aa ahead.length ca, ahead), (Value.slice ab (begT T).length cb, begT T)], By w2 x.1 x.2 := fun x hx => by
    rcases List.mem_cons.1 hx with rfl | hx
    · exact Sl.k hah hk2
    · rcases List.mem_cons.1 hx with rfl | hx
      · exact Sl.k hb hk2
      · cases hx
  rw [hr_, List.length_append] at hrl
  refine op_call rfl rfl rfl (sl_ConcatB w2 _ [(.slice aa ahead.length ca, ahead), (.slice ab (begT T).length cb, begT T)] hS2 hgs (by simp; omega) (by simp)) ?_; rintro v3 w3 ⟨hO3, hin3, hk3⟩
  have hO3 : OwnB w3 5 v3 r := by
    have h := hO3
    have e : ([(Value.slice aa ahead.length ca, ahead), (Value.slice ab (begT T).length cb, begT T)].flatMap (·.2)) = r := by rw [hr_]; simp
    rwa [e] at h
  have hrl : r.length ≤ 64 := by rw [hr_, List.length_append]; omega
  have hkw3 : Keep All w w3 := hk2.trans hk3
  have hby3 := OwnB.by_ hO3
  obtain ⟨a3, c3, rfl, hc3, _⟩ := hby3.form
  have hz2 := hk2.size
  refine o_ast rfl ?_
  refine ops_nil ?_
  refine W_seq ?_
  refine W_seq ?_
  refine W_region ?_
  refine o_mvt rfl ?_
  refine op_run (r_nilCheck rfl) rfl ?_
  refine op_run (r_fieldAddr rfl rfl rfl rfl rfl) rfl ?_
  refine op_run (r_load rfl rfl rfl ((hkw3.blk' hB trivial).cell rfl)) rfl ?_
  refine op_run (r_isNilP rfl rfl) rfl ?_
  refine ops_nil ?_
  refine W_cond rfl (fun h5 => ?_) (fun h5 => ?_)
  · refine W_seq ?_
    refine W_region ?_
    obtain ⟨beg, val, rfl⟩ : ∃ beg val, T = .leaf beg val := by
      rcases hcase with ⟨_, beg, v0, e, _⟩ | ⟨_, _, _, _, _, e, _⟩
      · exact ⟨_, _, e⟩
      · subst e; cases h5
    refine o_alloc rfl rfl rfl ?_; intro w6 b6 e6 hB6 hk6 hs6
    have hB6 : Blk w6 b6 ((packTo r 0).map c8) 30 := hB6
    refine ops_nil ?_
    refine W_seq ?_
    refine W_seq ?_
    refine W_region ?_
    refine o_mvt rfl ?_
    refine op_run (r_len rfl rfl rfl) rfl ?_
    refine o_mvc rfl ?_
    refine ops_nil ?_
    refine W_block ?_
    refine W_loop [26] [8, 9, 26, 27, 28, 29, 30, 31, 32, 33, 34, 35, 36, 37, 38, 39, 40, 41] (fun vs w' => ∃ k : Nat, vs = [.int .i64 k] ∧ k ≤ r.length ∧ Blk w' b6 ((packTo r k).map c8) 30 ∧ Keep (fun z => z ≠ b6) w6 w') (fun vs _ => match vs with | [.int _ y] => r.length - y.toNat | _ => 0) ⟨0, rfl, Nat.zero_le _, hB6, Keep.refl _⟩ ?_
    rintro J7 vs w7 ⟨k, rfl, hk, hB7, hk7⟩ -
    refine W_seq ?_
    refine W_region ?_
    refine op_run (r_lss rfl rfl) rfl ?_
    refine ops_nil ?_
    refine W_seq ?_
    refine W_cond_p rfl (fun h8 => ?_) (fun h8 => ?_)
    · refine W_skip ?_
      refine W_seq ?_
      refine W_block ?_
      refine W_seq ?_
      refine W_region ?_
      refine o_mvt rfl ?_
      have hkl : k < r.length := by omega
      obtain ⟨x, hx⟩ : ∃ x, r[k]? = some x := ⟨_, List.getElem?_eq_getElem hkl⟩
      have hpl := packTo_len r k
      obtain ⟨y, hy⟩ : ∃ y, (packTo r k)[k / 2]? = some y := ⟨_, List.getElem?_eq_getElem (by omega)⟩
      have hkw7 : Keep All w w7 := (hkw3.trans hk6).new hk7 (by have := hkw3.size; omega)
      have hby7 : By w7 (.slice a3 r.length c3) r := Sl.keep (Sl.k hby3 hk6) hk7 (fun z hz e => by have := hO3.lt z hz; omega)
      obtain ⟨bq, oq, cq, eq_, _, _, hcy⟩ := hby7.at (by omega)
      cases eq_
      have hinc := inc64' k (by omega)
      refine op_run (r_idxS1 rfl rfl rfl rfl (by omega) (by omega)) rfl ?_
      refine op_run (r_load (v := c8 x) rfl rfl rfl (by rw [Int.toNat_natCast]; exact hcy k _ (by rw [List.getElem?_map, hx]; rfl))) rfl ?_
      refine o_ast rfl ?_
      refine o_ast rfl ?_
      refine ops_nil ?_
      refine W_region ?_
      refine o_mvt rfl ?_
      refine op_run ((r_quo rfl rfl (by decide)).val (congrArg (Value.int .i64) (quo2 k (by omega)))) rfl ?_
      refine o_mvt rfl ?_
      refine op_run ((r_quo rfl rfl (by decide)).val (congrArg (Value.int .i64) (quo2 k (by omega)))) rfl ?_
      refine op_run (r_idxA1 rfl rfl rfl rfl (by omega) (by omega)) rfl ?_
      refine op_run (r_load (v := c8 y) rfl rfl rfl (hB7.cell (by rw [Int.toNat_natCast, Nat.zero_add, List.getElem?_map, hy]; rfl))) rfl ?_
      refine op_run ((r_shl rfl rfl (by decide)).val (congrArg (Value.int .u8) (shl_u8 y))) rfl ?_
      refine o_mvt rfl ?_
      refine op_run ((r_or rfl rfl).val (congrArg (Value.int .u8) (or_u8 y x))) rfl ?_
      refine op_run (r_idxA1 rfl rfl rfl rfl (by omega) (by omega)) rfl ?_
      refine o_store (v := (c8 ((y.toNat * 16 % 256 ||| x.toNat).toUInt8))) rfl rfl rfl rfl hB7 (by (rw [List.length_map, hpl, Int.toNat_natCast]; omega)) rfl ?_; intro w14 hB14 hk14 hs14
      have hB14 : Blk w14 b6 ((packTo r (k + 1)).map c8) 30 := by
        have h : Blk w14 b6 (((packTo r k).map c8).set (0 + ((k / 2 : Nat) : Int).toNat) (c8 ((y.toNat * 16 % 256 ||| x.toNat).toUInt8))) 30 := hB14
        rw [Int.toNat_natCast, Nat.zero_add, ← List.map_set] at h
        show Blk w14 b6 ((packStep (packTo r k) k (r.getD k 0)).map c8) _
        unfold packStep
        rw [List.getD_eq_getElem?_getD, List.getD_eq_getElem?_getD, hx, hy]; exact h
      refine ops_nil ?_
      refine W_region ?_
      refine op_run (r_add rfl rfl) rfl ?_
      refine o_mvt rfl ?_
      refine ops_nil ?_
      refine ⟨by (repeat (first | with_reducible exact offM_refl _ _ | refine offM_updc rfl ?_ | refine offM_upd rfl ?_ | refine offM_updo rfl ?_ | refine offM_updo_none ?_ | refine offM_head rfl rfl ?_)), ⟨k + 1, congrArg (fun z : Int => [Value.int .i64 z]) hinc, by omega, hB14, hk7.trans hk14⟩, ?_⟩
      show r.length - (IntKind.i64.wrap ((k : Int) + 1)).toNat < r.length - (k : Int).toNat
      rw [hinc]; omega
    · refine W_exit ?_
      refine W_seq ?_
      refine W_region ?_
      refine o_mvt rfl ?_
      have hke : k = r.length := by omega
      subst hke
      have hkw7 : Keep All w w7 := (hkw3.trans hk6).new hk7 (by have := hkw3.size; omega)
      have hB7 : Blk w7 b6 (dgR (packDig r)) 30 := hB7
      refine op_run (r_loadA (dgR (packDig r)) rfl rfl rfl (by first | rfl | (rw [binV_len]; rfl) | (rw [dgR_len]; rfl) | (rw [refR_len]; rfl) | (rw [secR_len]; rfl) | (rw [List.length_map, tagF_len]; rfl) | (rw [dgR_len]; rfl)) (hB7.all)) rfl ?_
      refine o_bsA1 (dgR (packDig r)) rfl rfl (by rw [dgR_len]; exact ti_dgK) (by rw [dgR_len]; rfl) (by rw [dgR_len]; decide) rfl ?_; intro w17 b17 e17 hB17 hk17 hs17
      have hcl : out.length + 1 ≤ 2 ^ 20 := hcount
      refine o_app (v := vo) (c := 1) (m := out.length) (dgR (packDig r)) rfl rfl rfl ti_dgK rfl (by decide) (hO.keep (hkw7.trans hk17) (fun _ _ => trivial)) (by rw [dgR_len]) hB17.all (all_c8 _) (by unfold maxLen; omega) (by omega) rfl ?_; intro v18 w18 hown18 hk18 hb18
      refine o_ast rfl ?_
      refine ops_nil ?_
      refine W_ret ?_
      refine ret1 v18 rfl ?_ ?_; rfl
      have e : (keysT (.leaf beg val) ahead).map packDig = [packDig r] := by rw [hr_]; rfl
      rw [e]
      refine ⟨?_, (hkw7.trans hk17).all.trans hk18, fun z hz => ?_⟩
      · rw [rows_app, List.length_append]
        have e2 : rows dgR [packDig r] = dgR (packDig r) := List.append_nil _
        rw [e2]; exact hown18
      · rcases hb18 z hz with h | h
        · exact .inl h
        · have := (hkw7.trans hk17).size; exact .inr (by omega)
  · refine W_skip ?_
    refine W_seq ?_
    refine W_seq ?_
    refine W_region ?_
    obtain ⟨beg, kids, bk, ps, rfl, rfl, hBk, hps, hkids⟩ : ∃ beg kids bk ps, T = .branch beg kids ∧ pk = some ⟨bk, 0, none⟩ ∧ Blk w bk ps 88 ∧ ps.length = 16 ∧ ∀ (i : Nat) (p : Value), ps[i]? = some p → NodeB (fun z => z < lo) w (kids i) p := by
      rcases hcase with ⟨rfl, _⟩ | h
      · cases h5
      · exact h
    have hB : Blk w b [.slice ab beg.length cb, vvn, .pointer (some ⟨bk, 0, none⟩)] 69 := hB
    have hBklo : bk < lo := by obtain ⟨_, _, _, _, _, e1, h1, _, _, _, _, _, h2, _⟩ := hN; cases e1; have h3 : some (Obj.cells _ _ _) = some (Obj.cells _ _ _) := h1.symm.trans hB; injection h3 with h3; injection h3 with h3; have := congrArg (fun x => x[2]?) h3; simp at this; rw [← this]; exact h2
    have hkT : keysT (.branch beg kids) ahead = keysTo kids r 16 := by rw [hr_]; rfl
    rw [hkT] at hcount ⊢
    refine o_mvt rfl ?_
    refine op_run (r_nilCheck rfl) rfl ?_
    refine op_run (r_fieldAddr rfl rfl rfl rfl rfl) rfl ?_
    refine op_run (r_load rfl rfl rfl ((hkw3.blk' hB trivial).cell rfl)) rfl ?_
    refine o_mvc rfl ?_
    refine ops_nil ?_
    refine W_block ?_
    refine W_loop [2, 50] [2, 10, 11, 50, 51, 52, 53, 54, 55, 56, 57, 58, 59, 60, 61, 62, 63, 64, 65, 66, 67] (fun vs w' => ∃ (k : Nat) (u : Value), vs = [u, .int .i64 k] ∧ k ≤ 16 ∧ Own w' 30 32 u (out ++ (keysTo kids r k).map packDig).length (rows dgR (out ++ (keysTo kids r k).map packDig)) ∧ Keep (fun z => some z ≠ vo.ownBlock) w3 w' ∧ InB (fun z => vo.ownBlock = some z ∨ w3.heap.size ≤ z) u) (fun vs _ => match vs with | [_, .int _ y] => 16 - y.toNat | _ => 0)
      ⟨0, vo, rfl, Nat.zero_le _, by rw [show (out ++ (keysTo kids r 0).map packDig) = out from List.append_nil _]; exact hO.keep hkw3 (fun _ _ => trivial), Keep.refl _, fun z hz => .inl hz⟩ ?_
    rintro J21 vs w21 ⟨k, u, rfl, hk, hOu, hku, hIu⟩ -
    refine W_seq ?_
    refine W_region ?_
    refine op_run (r_lss rfl rfl) rfl ?_
    refine ops_nil ?_
    refine W_seq ?_
    refine W_cond_p rfl (fun h22 => ?_) (fun h22 => ?_)
    · refine W_skip ?_
      refine W_seq ?_
      refine W_block ?_
      refine W_seq ?_
      have hk16 : k < 16 := by omega
      obtain ⟨q, hq⟩ : ∃ q, ps[k]? = some q := ⟨_, List.getElem?_eq_getElem (by omega)⟩
      have hNq := hkids _ _ hq
      obtain ⟨aq, rfl, haq⟩ := hNq.toIn.ptr
      have hinc := inc64' k (by omega)
      have hvlo : ∀ z, z < lo → some z ≠ vo.ownBlock := fun z hz e => by have := hIn z e.symm; omega
      have hkle := keysTo_le kids r (k + 1) (by omega)
      have hks := keysTo_s kids r k
      have hksl := congrArg List.length hks
      rw [List.length_append] at hksl
      refine W_quiet (Keep All w21) (by kernel_rfl) (by kernel_rfl) (Keep.drawn _) ?_
      refine q_mvt rfl ?_
      refine q_run (fun _ _ => (r_nilCheck rfl)) rfl ?_
      refine q_run (fun _ _ => r_idxA1 rfl rfl rfl rfl (by omega) (by omega)) rfl ?_
      refine q_run (fun _ hk => r_load (v := .pointer aq) rfl rfl rfl (hk.cell (hku.cell (hkw3.cell (hBk.cell (show ps[0 + ((k : Nat) : Int).toNat]? = _ from by rw [Int.toNat_natCast, Nat.zero_add]; exact hq)) trivial) (hvlo bk hBklo)) trivial)) rfl ?_
      refine q_ast rfl ?_
      refine q_ast rfl ?_
      refine q_nil ?_; intro w26 hk26
      refine W_seq ?_
      refine W_region ?_
      refine o_mvt rfl ?_
      refine op_run (r_notNilP rfl rfl) rfl ?_
      refine ops_nil ?_
      refine W_cond rfl (fun h28 => ?_) (fun h28 => ?_)
      · refine W_region ?_
        have hnn : kids k ≠ .no := fun e => by
          have := haq.2 e
          subst this; cases h28
        refine o_mvt rfl ?_
        refine o_mvt rfl ?_
        refine op_call rfl rfl rfl (sl_ClipT w26 a3 c3 r.length hc3) ?_; rintro v29 w29 ⟨rfl, hw29⟩
        subst hw29
        have hby3v : InB (fun z => some z ≠ vo.ownBlock) (.slice a3 r.length c3) := fun z hz e => by
          have h1 := hin3 z hz
          have h2 := hvlt z e.symm
          omega
        have hby26 : By w29 (.slice a3 r.length c3) r := Sl.k (Sl.keep hby3 hku hby3v) hk26
        have hcl26 : By w29 (subSl a3 1 0 r.length r.length) r := by
          have := Sl.sub (l := 0) (h := r.length) (m := r.length) hby26 (Nat.zero_le _) (Nat.le_refl _) (Nat.le_refl _) hc3
          rwa [Nat.mul_one, List.take_of_length_le (by simp), List.drop_zero] at this
        refine o_mvt rfl ?_
        refine op_run ((r_conv rfl rfl rfl).val (congrArg (Value.int .u8) (show IntKind.u8.wrap (k : Int) = ((k.toUInt8.toNat : Nat) : Int) from by rw [u8_of hk16]; exact (show IntKind.u8.wrap (k : Int) = (k : Int) % 256 from rfl).trans (by omega)))) rfl ?_
        refine o_bs1 (v := (c8 k.toUInt8)) rfl rfl rfl rfl rfl rfl ?_; intro w30 b30 e30 hB30 hk30 hs30
        refine o_appFull (m := r.length) (k := 1) (c := 1) (a := if r.length = 0 then a3 else a3.map (·.add (0 * 1))) (news := [c8 k.toUInt8]) rfl (Sl.k hcl26 hk30) rfl rfl ti_u8 rfl rfl hB30.all rfl (by decide) (by unfold maxLen; omega) (by omega) rfl ?_; intro v31 w31 hown31 hk31 hb31
        have hby31 : By w31 v31 (r ++ [k.toUInt8]) := by
          have h := OwnB.app (xs := r) (ys := [k.toUInt8]) (e := 5) hown31
          exact h.by_
        have hk2131 : Keep All w21 w31 := (hk26.trans hk30).trans hk31
        have hz321 := hku.size
        have hz2131 := hk2131.size
        have hz3 := hkw3.size
        have hInU : InB (fun z => lo ≤ z) u := fun z hz => by
          rcases hIu z hz with h | h
          · exact hIn z h
          · omega
        refine o_mvt rfl ?_
        refine op_call rfl rfl rfl (ih _ _ rfl k hnn w31 (L - beg.length - 1) lo (.pointer aq) v31 u (r ++ [k.toUInt8]) (out ++ (keysTo kids r k).map packDig) (hwf.2.2.1 k) (by have := hwf.1; have e : r.length = ahead.length + beg.length := (by rw [hr_, List.length_append]; rfl); rw [List.length_append, List.length_singleton]; omega) (((hNq.k hkw3 (fun _ _ => trivial)).k hku hvlo).k hk2131 (fun _ _ => trivial)) hby31 (hOu.keep hk2131 (fun _ _ => trivial)) hInU (by omega) (by rw [List.length_append, List.length_map]; omega)) ?_; rintro v32 w32 ⟨hO32, hk32, hin32⟩
        refine o_ast rfl ?_
        refine ops_nil ?_
        refine W_region ?_
        refine op_run (r_add rfl rfl) rfl ?_
        refine o_mvt rfl ?_
        refine ops_nil ?_
        have e : out ++ (keysTo kids r k).map packDig ++ (keysT (kids k) (r ++ [k.toUInt8])).map packDig = out ++ (keysTo kids r (k + 1)).map packDig := by rw [hks, List.map_append, List.append_assoc]
        rw [e] at hO32
        refine ⟨by (repeat (first | with_reducible exact offM_refl _ _ | refine offM_updc rfl ?_ | refine offM_upd rfl ?_ | refine offM_updo rfl ?_ | refine offM_updo_none ?_ | refine offM_head rfl rfl ?_)), ⟨k + 1, v32, congrArg (fun z : Int => [v32, Value.int .i64 z]) hinc, by omega, hO32, ?_, fun z hz => ?_⟩, ?_⟩
        · exact (hku.trans hk2131.all).own hk32 (fun z hz h => by
            rcases hIu z hz with h2 | h2
            · exact absurd h2.symm h
            · exact h2)
        · rcases hin32 z hz with h | h
          · exact hIu z h
          · exact .inr (by omega)
        · show 16 - (IntKind.i64.wrap ((k : Int) + 1)).toNat < 16 - (k : Int).toNat
          rw [hinc]; omega
      · refine W_skip ?_
        refine W_region ?_
        refine op_run (r_add rfl rfl) rfl ?_
        refine o_mvt rfl ?_
        refine ops_nil ?_
        have hno : kids k = .no := haq.1 (by cases aq with
          | none => rfl
          | some x => cases h28)
        have e : keysTo kids r k = keysTo kids r (k + 1) := by rw [hks, hno]; exact (List.append_nil _).symm
        refine ⟨by (repeat (first | with_reducible exact offM_refl _ _ | refine offM_updc rfl ?_ | refine offM_upd rfl ?_ | refine offM_updo rfl ?_ | refine offM_updo_none ?_ | refine offM_head rfl rfl ?_)), ⟨k + 1, u, congrArg (fun z : Int => [u, Value.int .i64 z]) hinc, by omega, by rw [← e]; exact hOu.keep hk26 (fun _ _ => trivial), hku.trans hk26.all, hIu⟩, ?_⟩
        show 16 - (IntKind.i64.wrap ((k : Int) + 1)).toNat < 16 - (k : Int).toNat
        rw [hinc]; omega
    · refine W_exit ?_
      refine W_seq ?_
      refine W_region ?_
      refine o_mvt rfl ?_
      refine o_ast rfl ?_
      refine ops_nil ?_
      refine W_ret ?_
      refine ret1 u rfl ?_ ?_; rfl
      have hke : k = 16 := by omega
      subst hke
      refine ⟨hOu, hkw3.all.trans hku, fun z hz => ?_⟩
      rcases hIu z hz with h | h
      · exact .inl h
      · have := hkw3.size; exact .inr (by omega)
theorem tr_keys : ∀ (T : Tre), T ≠ .no → KeysOk T := by
  intro T
  induction T with
  | no => intro h; exact absurd rfl h
  | leaf b v => intro h; exact tr_keys1 _ h (fun _ _ e => by cases e)
  | branch b k ih => intro h; exact tr_keys1 _ h (fun b' k' e i hi => by cases e; exact ih i hi)
theorem tr_Keys (w : World) (b : Nat) (T : Tre) (h : TrieIn w b T) (hc : (keysT T []).length ≤ 2 ^ 20) : Ret Try.prog 20 [.pointer (some ⟨b, 0, none⟩)].toArray w fun r w' => Own w' 30 32 r ((keysT T []).map packDig).length (rows dgR ((keysT T []).map packDig)) ∧ Keep All w w' := by
  obtain ⟨v, hBt, hN, hwf⟩ := h
  obtain ⟨a, rfl, ha⟩ := hN.ptr
  refine enter (fn := Try.f20) (n := 13) Try.func20 rfl rfl (by simp) ?_
  refine W_seq ?_
  refine W_region ?_
  refine o_asc rfl ?_
  refine ops_nil ?_
  refine W_seq ?_
  refine W_seq ?_
  refine W_region ?_
  refine o_mvt rfl ?_
  refine op_run (r_nilCheck rfl) rfl ?_
  refine op_run (r_fieldAddr rfl rfl rfl rfl rfl) rfl ?_
  refine op_run (r_load rfl rfl rfl (hBt.cell rfl)) rfl ?_
  refine op_run (r_isNilP rfl rfl) rfl ?_
  refine ops_nil ?_
  refine W_cond rfl (fun h2 => ?_) (fun h2 => ?_)
  · refine W_seq ?_
    refine W_region ?_
    refine o_asc rfl ?_
    refine ops_nil ?_
    refine W_ret ?_
    refine ret1 (.slice none 0 0) rfl ?_ ?_; rfl
    obtain rfl : T = .no := ha.1 (by cases a with
      | none => rfl
      | some x => cases h2)
    exact ⟨own_nil _ _ _, Keep.refl _⟩
  · refine W_skip ?_
    refine W_seq ?_
    refine W_region ?_
    have hTn : T ≠ .no := fun e => by
      have := ha.2 e
      subst this; cases h2
    refine o_mvt rfl ?_
    refine op_run (r_nilCheck rfl) rfl ?_
    refine op_run (r_fieldAddr rfl rfl rfl rfl rfl) rfl ?_
    refine op_run (r_load rfl rfl rfl (hBt.cell rfl)) rfl ?_
    refine op_call rfl rfl rfl (tr_keys T hTn w 64 w.heap.size (.pointer a) (.slice none 0 0) (.slice none 0 0) [] [] hwf rfl (hN.toB0.mono fun z hz => hz.1) (Sl.nil _ _) (own_nil _ _ _) InB.nil (Nat.le_refl _) (by rw [List.length_nil, Nat.zero_add]; exact hc)) ?_; rintro v5 w5 ⟨hO5, hk5, hin5⟩
    refine o_ast rfl ?_
    refine ops_nil ?_
    refine W_ret ?_
    refine ret1 v5 rfl ?_ ?_; rfl
    exact ⟨hO5, hk5.mono fun z _ _ h => by cases h⟩
end Go.Proofs.Ytpiidddccmohdaa.B
