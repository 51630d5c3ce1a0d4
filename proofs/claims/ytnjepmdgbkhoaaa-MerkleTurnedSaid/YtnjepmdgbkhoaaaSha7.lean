/-
  sha: the published numbers, the document's example, digests of tagged rows.
-/
import Derived.Test.YtnjepmdgbkhoaaaSha6
namespace Go.Proofs.Ytnjepmdgbkhoaaa.B
open Go
set_option linter.unusedVariables false
set_option maxHeartbeats 2000000
set_option maxRecDepth 100000
attribute [local irreducible] W OpsW OpsQ retP
/-- The published numbers. -/
def K64 : List Wd := [0x428a2f98#32, 0x71374491#32, 0xb5c0fbcf#32, 0xe9b5dba5#32, 0x3956c25b#32, 0x59f111f1#32, 0x923f82a4#32, 0xab1c5ed5#32, 0xd807aa98#32, 0x12835b01#32, 0x243185be#32, 0x550c7dc3#32, 0x72be5d74#32, 0x80deb1fe#32, 0x9bdc06a7#32, 0xc19bf174#32, 0xe49b69c1#32, 0xefbe4786#32, 0x0fc19dc6#32, 0x240ca1cc#32, 0x2de92c6f#32, 0x4a7484aa#32, 0x5cb0a9dc#32, 0x76f988da#32, 0x983e5152#32, 0xa831c66d#32, 0xb00327c8#32, 0xbf597fc7#32, 0xc6e00bf3#32, 0xd5a79147#32, 0x06ca6351#32, 0x14292967#32, 0x27b70a85#32, 0x2e1b2138#32, 0x4d2c6dfc#32, 0x53380d13#32, 0x650a7354#32, 0x766a0abb#32, 0x81c2c92e#32, 0x92722c85#32, 0xa2bfe8a1#32, 0xa81a664b#32, 0xc24b8b70#32, 0xc76c51a3#32, 0xd192e819#32, 0xd6990624#32, 0xf40e3585#32, 0x106aa070#32, 0x19a4c116#32, 0x1e376c08#32, 0x2748774c#32, 0x34b0bcb5#32, 0x391c0cb3#32, 0x4ed8aa4a#32, 0x5b9cca4f#32, 0x682e6ff3#32, 0x748f82ee#32, 0x78a5636f#32, 0x84c87814#32, 0x8cc70208#32, 0x90befffa#32, 0xa4506ceb#32, 0xbef9a3f7#32, 0xc67178f2#32]
def I8 : V8 := ⟨0x6a09e667#32, 0xbb67ae85#32, 0x3c6ef372#32, 0xa54ff53a#32, 0x510e527f#32, 0x9b05688c#32, 0x1f83d9ab#32, 0x5be0cd19#32⟩
theorem tabK_lit : tabK 64 = K64 := by decide +kernel
theorem initV_lit : initV = I8 := by kernel_rfl
theorem abc_len : (padL [97, 98, 99]).length / 64 = 1 := by decide +kernel
def abcW : List Wd := [0x61626380#32, 0#32, 0#32, 0#32, 0#32, 0#32, 0#32, 0#32, 0#32, 0#32, 0#32, 0#32, 0#32, 0#32, 0#32, 0x18#32]
theorem abc_load : load16 (blk (padL [97, 98, 99]) 0) = abcW := by decide +kernel
theorem abc_r : (rounds K64 (I8, abcW) 64).1.a = 0x506e3058#32 := by kernel_rfl
theorem abc_a : (sumSt (padL [97, 98, 99]) ((padL [97, 98, 99]).length / 64)).a = 0xba7816bf#32 := by
  rw [abc_len, show (1 : Nat) = 0 + 1 from rfl, sumSt_s, sumSt_0, initV_lit]
  unfold blockF V8.add
  rw [abc_load, tabK_lit]
  show I8.a + (rounds K64 (I8, abcW) 64).1.a = _
  rw [abc_r]
  decide +kernel
theorem abc_0 : (sumF [97, 98, 99])[0]? = some 0xba := by
  unfold sumF
  rw [List.getElem?_map, List.getElem?_range (by decide)]
  show some (dgB _ 0) = _
  refine congrArg some ?_
  unfold dgB
  rw [show (sumSt (padL [97, 98, 99]) ((padL [97, 98, 99]).length / 64)).ws.getD (0 / 4) 0 = (sumSt (padL [97, 98, 99]) ((padL [97, 98, 99]).length / 64)).a from rfl]
  rw [abc_a]; decide +kernel
theorem abc_1 : (sumF [97, 98, 99])[1]? = some 0x78 := by
  unfold sumF
  rw [List.getElem?_map, List.getElem?_range (by decide)]
  show some (dgB _ 1) = _
  refine congrArg some ?_
  unfold dgB
  rw [show (sumSt (padL [97, 98, 99]) ((padL [97, 98, 99]).length / 64)).ws.getD (1 / 4) 0 = (sumSt (padL [97, 98, 99]) ((padL [97, 98, 99]).length / 64)).a from rfl]
  rw [abc_a]; decide +kernel
end Go.Proofs.Ytnjepmdgbkhoaaa.B
