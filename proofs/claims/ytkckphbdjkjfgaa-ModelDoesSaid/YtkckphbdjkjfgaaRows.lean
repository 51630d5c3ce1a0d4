/-
  No cell of these rows narrows 'for every input' (looked for: loops, veiled, ifaces, maps, wideKeys, modest, calm, conditions, laid).
  DERIVED. THE GIVEN ROWS OF THIS SEAT. 5 by the template 'for every input the law returns true; each argument reads behind the call as it read before'; 0 by the template 'total and deterministic' (their statements: YtkckphbdjkjfgaaTotals.lean).
  GIVEN WITH THE SEED: the statements are not yours to turn. If you find one false, say at which input.
  Laid BY PROGRAM, IN A SANDBOX (cutbox-rows.mjs): the forced cells as the released guide's own fill.sh prints them over the translation 88bb928819b351e3… (all of the seat's roots in one cut). By AI agents, Wed Nov 11 2026. No macro, syntax, notation, axiom, sorry.
-/
import Derived.Test.YtkckphbdjkjfgaaChecked
import GoSem.Claim
import GoSem.ClaimJoined
import GoSem.ClaimMapViews
import Derived.JoinedTies
import Derived.KernelRfl
namespace Go.Proofs.Ytkckphbdjkjfgaa
/- THE CELL 'sum', in the pinned program and in every row, IS THE sha256 OF THE DUMP (.gsa) THAT YtkckphbdjkjfgaaProg.lean LOADS. Nothing in Lean hashes anything: it is a label: what it is worth is what the hold of that sum in a sandbox is worth. -/
noncomputable def Try.pinned : Pinned := { name := "ytkckphbdjkjfgaa", sum := "88bb928819b351e34afef0632c25ca126dd75074a7603004ddf99192c3ba3fad", checked := Try.checked }
namespace Rows
def none {H : Type} : Left H := { results := [], args := [] }

/-- 'sporranlaw15.ModelTrims': WHATEVER THE INPUT: true; the input reads as it did. -/
def modelTrimsSpec : ChangeSpec := { name := "modelTrims", fn := fun _ => fun
  | [d1, d2] => { results := [.lit (.bool true)], args := [d1, d2] }
  | _ => none }
def modelTrimsRow : OpenClaim := { program := "ytkckphbdjkjfgaa", sum := "88bb928819b351e34afef0632c25ca126dd75074a7603004ddf99192c3ba3fad", func := "sporran/sporranlaw15.ModelTrims", spec := "modelTrims", inPlace := ["maps.clone"], unfollowed := true, recurses := true, plainKeys := false, apart := false }
def ModelTrimsSaid : Prop := modelTrimsRow.holds Try.pinned (OpenSpec.ofChange modelTrimsSpec)

/-- ITS FALSE NEIGHBOUR: 'it returns false'. Refute it at one input. -/
def modelTrimsWrong : ChangeSpec := { name := "modelTrims", fn := fun _ => fun
  | [d1, d2] => { results := [.lit (.bool false)], args := [d1, d2] }
  | _ => none }
def ModelTrimsWrongFalsely : Prop := modelTrimsRow.holds Try.pinned (OpenSpec.ofChange modelTrimsWrong)

/-- 'sporranlaw15.ModelFrozen': WHATEVER THE INPUT: true; the input reads as it did. -/
def modelFrozenSpec : ChangeSpec := { name := "modelFrozen", fn := fun _ => fun
  | [d1, d2, d3] => { results := [.lit (.bool true)], args := [d1, d2, d3] }
  | _ => none }
def modelFrozenRow : OpenClaim := { program := "ytkckphbdjkjfgaa", sum := "88bb928819b351e34afef0632c25ca126dd75074a7603004ddf99192c3ba3fad", func := "sporran/sporranlaw15.ModelFrozen", spec := "modelFrozen", inPlace := ["maps.clone"], unfollowed := true, recurses := true, plainKeys := false, apart := false }
def ModelFrozenSaid : Prop := modelFrozenRow.holds Try.pinned (OpenSpec.ofChange modelFrozenSpec)

/-- ITS FALSE NEIGHBOUR: 'it returns false'. Refute it at one input. -/
def modelFrozenWrong : ChangeSpec := { name := "modelFrozen", fn := fun _ => fun
  | [d1, d2, d3] => { results := [.lit (.bool false)], args := [d1, d2, d3] }
  | _ => none }
def ModelFrozenWrongFalsely : Prop := modelFrozenRow.holds Try.pinned (OpenSpec.ofChange modelFrozenWrong)

/-- 'sporranlaw15.ModelQuiet': WHATEVER THE INPUT: true; the input reads as it did. -/
def modelQuietSpec : ChangeSpec := { name := "modelQuiet", fn := fun _ => fun
  | [d] => { results := [.lit (.bool true)], args := [d] }
  | _ => none }
def modelQuietRow : OpenClaim := { program := "ytkckphbdjkjfgaa", sum := "88bb928819b351e34afef0632c25ca126dd75074a7603004ddf99192c3ba3fad", func := "sporran/sporranlaw15.ModelQuiet", spec := "modelQuiet", inPlace := ["maps.clone"], unfollowed := true, recurses := true, plainKeys := false, apart := false }
def ModelQuietSaid : Prop := modelQuietRow.holds Try.pinned (OpenSpec.ofChange modelQuietSpec)

/-- ITS FALSE NEIGHBOUR: 'it returns false'. Refute it at one input. -/
def modelQuietWrong : ChangeSpec := { name := "modelQuiet", fn := fun _ => fun
  | [d] => { results := [.lit (.bool false)], args := [d] }
  | _ => none }
def ModelQuietWrongFalsely : Prop := modelQuietRow.holds Try.pinned (OpenSpec.ofChange modelQuietWrong)

/-- 'sporranlaw15.ModelEvents': WHATEVER THE INPUT: true; the input reads as it did. -/
def modelEventsSpec : ChangeSpec := { name := "modelEvents", fn := fun _ => fun
  | [d1, d2] => { results := [.lit (.bool true)], args := [d1, d2] }
  | _ => none }
def modelEventsRow : OpenClaim := { program := "ytkckphbdjkjfgaa", sum := "88bb928819b351e34afef0632c25ca126dd75074a7603004ddf99192c3ba3fad", func := "sporran/sporranlaw15.ModelEvents", spec := "modelEvents", inPlace := ["maps.clone"], unfollowed := true, recurses := true, plainKeys := false, apart := false }
def ModelEventsSaid : Prop := modelEventsRow.holds Try.pinned (OpenSpec.ofChange modelEventsSpec)

/-- ITS FALSE NEIGHBOUR: 'it returns false'. Refute it at one input. -/
def modelEventsWrong : ChangeSpec := { name := "modelEvents", fn := fun _ => fun
  | [d1, d2] => { results := [.lit (.bool false)], args := [d1, d2] }
  | _ => none }
def ModelEventsWrongFalsely : Prop := modelEventsRow.holds Try.pinned (OpenSpec.ofChange modelEventsWrong)

/-- 'sporranlaw15.ModelDoes': WHATEVER THE INPUT: true; the input reads as it did. -/
def modelDoesSpec : ChangeSpec := { name := "modelDoes", fn := fun _ => fun
  | [d] => { results := [.lit (.bool true)], args := [d] }
  | _ => none }
def modelDoesRow : OpenClaim := { program := "ytkckphbdjkjfgaa", sum := "88bb928819b351e34afef0632c25ca126dd75074a7603004ddf99192c3ba3fad", func := "sporran/sporranlaw15.ModelDoes", spec := "modelDoes", inPlace := ["maps.clone"], unfollowed := true, recurses := true, plainKeys := false, apart := false }
def ModelDoesSaid : Prop := modelDoesRow.holds Try.pinned (OpenSpec.ofChange modelDoesSpec)

/-- ITS FALSE NEIGHBOUR: 'it returns false'. Refute it at one input. -/
def modelDoesWrong : ChangeSpec := { name := "modelDoes", fn := fun _ => fun
  | [d] => { results := [.lit (.bool false)], args := [d] }
  | _ => none }
def ModelDoesWrongFalsely : Prop := modelDoesRow.holds Try.pinned (OpenSpec.ofChange modelDoesWrong)

/- THE SECOND FORM. 'bulk': how many values and letters a reading holds, each counted each time it is reached (what is shared counts as often as it is met; a slice's spare places count too). A statement '..UptoSaid' is the law's where the arguments, and the package variables that the reading takes, are together of bulk at most 1048576: NARROWER than '..Said'. Prove '..Said' where nothing that the law and all that it calls make is longer than what came in: it says more and counts as full. Else prove '..UptoSaid'. A law counts once. -/
mutual
def uptoBulk {H : Type} : DataW H → Nat
  | .lit (.string bytes) => bytes.length + 1
  | .lit _ => 1
  | .nil => 1
  | .ptr d => uptoBulk d + 1
  | .slice elems spare => uptoBulkAll elems + uptoBulkAll spare + 1
  | .agg parts => uptoBulkAll parts + 1
  | .iface _ d => uptoBulk d + 1
  | .map entries => uptoBulkEntries entries + 1
  | .held _ => 1
def uptoBulkAll {H : Type} : List (DataW H) → Nat
  | [] => 0
  | d :: r => uptoBulk d + uptoBulkAll r
def uptoBulkEntries {H : Type} : List (Lit × DataW H) → Nat
  | [] => 0
  | x :: r => uptoBulkEntry x + uptoBulkEntries r
def uptoBulkEntry {H : Type} : Lit × DataW H → Nat
  | (.string bytes, d) => bytes.length + uptoBulk d + 1
  | (_, d) => uptoBulk d + 1
 end
def uptoSmall : (H : Type) → List (DataW H) → Bool := fun _ ds => decide (uptoBulkAll ds ≤ 1048576)
def OpenSpec.upto (s : _root_.Go.ChangeSpec) : _root_.Go.OpenSpec := { _root_.Go.OpenSpec.ofChange s with cond := some uptoSmall }

/-- 'sporranlaw15.ModelTrims', WHERE WHAT IT READS IS OF BULK AT MOST 1048576: true; the input reads as it did. -/
def modelTrimsUptoRow : OpenClaim := { program := "ytkckphbdjkjfgaa", sum := "88bb928819b351e34afef0632c25ca126dd75074a7603004ddf99192c3ba3fad", func := "sporran/sporranlaw15.ModelTrims", spec := "modelTrims", inPlace := ["maps.clone"], unfollowed := true, recurses := true, plainKeys := false, apart := false, narrowed := true }
def ModelTrimsUptoSaid : Prop := modelTrimsUptoRow.holds Try.pinned (OpenSpec.upto modelTrimsSpec)

/-- 'sporranlaw15.ModelFrozen', WHERE WHAT IT READS IS OF BULK AT MOST 1048576: true; the input reads as it did. -/
def modelFrozenUptoRow : OpenClaim := { program := "ytkckphbdjkjfgaa", sum := "88bb928819b351e34afef0632c25ca126dd75074a7603004ddf99192c3ba3fad", func := "sporran/sporranlaw15.ModelFrozen", spec := "modelFrozen", inPlace := ["maps.clone"], unfollowed := true, recurses := true, plainKeys := false, apart := false, narrowed := true }
def ModelFrozenUptoSaid : Prop := modelFrozenUptoRow.holds Try.pinned (OpenSpec.upto modelFrozenSpec)

/-- 'sporranlaw15.ModelQuiet', WHERE WHAT IT READS IS OF BULK AT MOST 1048576: true; the input reads as it did. -/
def modelQuietUptoRow : OpenClaim := { program := "ytkckphbdjkjfgaa", sum := "88bb928819b351e34afef0632c25ca126dd75074a7603004ddf99192c3ba3fad", func := "sporran/sporranlaw15.ModelQuiet", spec := "modelQuiet", inPlace := ["maps.clone"], unfollowed := true, recurses := true, plainKeys := false, apart := false, narrowed := true }
def ModelQuietUptoSaid : Prop := modelQuietUptoRow.holds Try.pinned (OpenSpec.upto modelQuietSpec)

/-- 'sporranlaw15.ModelEvents', WHERE WHAT IT READS IS OF BULK AT MOST 1048576: true; the input reads as it did. -/
def modelEventsUptoRow : OpenClaim := { program := "ytkckphbdjkjfgaa", sum := "88bb928819b351e34afef0632c25ca126dd75074a7603004ddf99192c3ba3fad", func := "sporran/sporranlaw15.ModelEvents", spec := "modelEvents", inPlace := ["maps.clone"], unfollowed := true, recurses := true, plainKeys := false, apart := false, narrowed := true }
def ModelEventsUptoSaid : Prop := modelEventsUptoRow.holds Try.pinned (OpenSpec.upto modelEventsSpec)

/-- 'sporranlaw15.ModelDoes', WHERE WHAT IT READS IS OF BULK AT MOST 1048576: true; the input reads as it did. -/
def modelDoesUptoRow : OpenClaim := { program := "ytkckphbdjkjfgaa", sum := "88bb928819b351e34afef0632c25ca126dd75074a7603004ddf99192c3ba3fad", func := "sporran/sporranlaw15.ModelDoes", spec := "modelDoes", inPlace := ["maps.clone"], unfollowed := true, recurses := true, plainKeys := false, apart := false, narrowed := true }
def ModelDoesUptoSaid : Prop := modelDoesUptoRow.holds Try.pinned (OpenSpec.upto modelDoesSpec)

end Rows
end Go.Proofs.Ytkckphbdjkjfgaa
