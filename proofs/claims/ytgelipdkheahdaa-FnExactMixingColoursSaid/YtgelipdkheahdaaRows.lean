/-
  No cell of these rows narrows 'for every input' (looked for: loops, veiled, ifaces, maps, wideKeys, modest, calm, conditions, laid).
  DERIVED. THE GIVEN ROWS OF THIS SEAT. 6 by the template 'for every input the law returns true; each argument reads behind the call as it read before'; 0 by the template 'total and deterministic' (their statements: YtgelipdkheahdaaTotals.lean).
  GIVEN WITH THE SEED: the statements are not yours to turn. If you find one false, say at which input.
  Laid BY PROGRAM, IN A SANDBOX (cutbox-rows.mjs): the forced cells as the released guide's own fill.sh prints them over the translation 00840464295c4752… (all of the seat's roots in one cut). By AI agents, Wed Nov 11 2026. No macro, syntax, notation, axiom, sorry.
-/
import Derived.Test.YtgelipdkheahdaaChecked
import GoSem.Claim
import GoSem.ClaimJoined
import GoSem.ClaimMapViews
import Derived.JoinedTies
import Derived.KernelRfl
namespace Go.Proofs.Ytgelipdkheahdaa
/- THE CELL 'sum', in the pinned program and in every row, IS THE sha256 OF THE DUMP (.gsa) THAT YtgelipdkheahdaaProg.lean LOADS. Nothing in Lean hashes anything: it is a label: what it is worth is what the hold of that sum in a sandbox is worth. -/
noncomputable def Try.pinned : Pinned := { name := "ytgelipdkheahdaa", sum := "00840464295c4752d96cc05b0486a71e22b172d285296e7d31405103271eb7e9", checked := Try.checked }
namespace Rows
def none {H : Type} : Left H := { results := [], args := [] }

/-- 'laws.FnExactCountTrees': WHATEVER THE INPUT: true; the input reads as it did. -/
def fnExactCountTreesSpec : ChangeSpec := { name := "fnExactCountTrees", fn := fun _ => fun
  | [d] => { results := [.lit (.bool true)], args := [d] }
  | _ => none }
def fnExactCountTreesRow : OpenClaim := { program := "ytgelipdkheahdaa", sum := "00840464295c4752d96cc05b0486a71e22b172d285296e7d31405103271eb7e9", func := "loop.example/g01128/laws.FnExactCountTrees", spec := "fnExactCountTrees", apart := false }
def FnExactCountTreesSaid : Prop := fnExactCountTreesRow.holds Try.pinned (OpenSpec.ofChange fnExactCountTreesSpec)

/-- ITS FALSE NEIGHBOUR: 'it returns false'. Refute it at one input. -/
def fnExactCountTreesWrong : ChangeSpec := { name := "fnExactCountTrees", fn := fun _ => fun
  | [d] => { results := [.lit (.bool false)], args := [d] }
  | _ => none }
def FnExactCountTreesWrongFalsely : Prop := fnExactCountTreesRow.holds Try.pinned (OpenSpec.ofChange fnExactCountTreesWrong)

/-- 'laws.FnExactExchangeSpace': WHATEVER THE INPUT: true; the input reads as it did. -/
def fnExactExchangeSpaceSpec : ChangeSpec := { name := "fnExactExchangeSpace", fn := fun _ => fun
  | [d1, d2, d3] => { results := [.lit (.bool true)], args := [d1, d2, d3] }
  | _ => none }
def fnExactExchangeSpaceRow : OpenClaim := { program := "ytgelipdkheahdaa", sum := "00840464295c4752d96cc05b0486a71e22b172d285296e7d31405103271eb7e9", func := "loop.example/g01128/laws.FnExactExchangeSpace", spec := "fnExactExchangeSpace", unfollowed := true, recurses := true, apart := false }
def FnExactExchangeSpaceSaid : Prop := fnExactExchangeSpaceRow.holds Try.pinned (OpenSpec.ofChange fnExactExchangeSpaceSpec)

/-- ITS FALSE NEIGHBOUR: 'it returns false'. Refute it at one input. -/
def fnExactExchangeSpaceWrong : ChangeSpec := { name := "fnExactExchangeSpace", fn := fun _ => fun
  | [d1, d2, d3] => { results := [.lit (.bool false)], args := [d1, d2, d3] }
  | _ => none }
def FnExactExchangeSpaceWrongFalsely : Prop := fnExactExchangeSpaceRow.holds Try.pinned (OpenSpec.ofChange fnExactExchangeSpaceWrong)

/-- 'laws.FnExactKindSlides': WHATEVER THE INPUT: true; the input reads as it did. -/
def fnExactKindSlidesSpec : ChangeSpec := { name := "fnExactKindSlides", fn := fun _ => fun
  | [d1, d2, d3] => { results := [.lit (.bool true)], args := [d1, d2, d3] }
  | _ => none }
def fnExactKindSlidesRow : OpenClaim := { program := "ytgelipdkheahdaa", sum := "00840464295c4752d96cc05b0486a71e22b172d285296e7d31405103271eb7e9", func := "loop.example/g01128/laws.FnExactKindSlides", spec := "fnExactKindSlides", unfollowed := true, recurses := true, apart := false }
def FnExactKindSlidesSaid : Prop := fnExactKindSlidesRow.holds Try.pinned (OpenSpec.ofChange fnExactKindSlidesSpec)

/-- ITS FALSE NEIGHBOUR: 'it returns false'. Refute it at one input. -/
def fnExactKindSlidesWrong : ChangeSpec := { name := "fnExactKindSlides", fn := fun _ => fun
  | [d1, d2, d3] => { results := [.lit (.bool false)], args := [d1, d2, d3] }
  | _ => none }
def FnExactKindSlidesWrongFalsely : Prop := fnExactKindSlidesRow.holds Try.pinned (OpenSpec.ofChange fnExactKindSlidesWrong)

/-- 'laws.FnExactThresholdSpace': WHATEVER THE INPUT: true; the input reads as it did. -/
def fnExactThresholdSpaceSpec : ChangeSpec := { name := "fnExactThresholdSpace", fn := fun _ => fun
  | [d1, d2, d3] => { results := [.lit (.bool true)], args := [d1, d2, d3] }
  | _ => none }
def fnExactThresholdSpaceRow : OpenClaim := { program := "ytgelipdkheahdaa", sum := "00840464295c4752d96cc05b0486a71e22b172d285296e7d31405103271eb7e9", func := "loop.example/g01128/laws.FnExactThresholdSpace", spec := "fnExactThresholdSpace", unfollowed := true, recurses := true, apart := false }
def FnExactThresholdSpaceSaid : Prop := fnExactThresholdSpaceRow.holds Try.pinned (OpenSpec.ofChange fnExactThresholdSpaceSpec)

/-- ITS FALSE NEIGHBOUR: 'it returns false'. Refute it at one input. -/
def fnExactThresholdSpaceWrong : ChangeSpec := { name := "fnExactThresholdSpace", fn := fun _ => fun
  | [d1, d2, d3] => { results := [.lit (.bool false)], args := [d1, d2, d3] }
  | _ => none }
def FnExactThresholdSpaceWrongFalsely : Prop := fnExactThresholdSpaceRow.holds Try.pinned (OpenSpec.ofChange fnExactThresholdSpaceWrong)

/-- 'laws.FnExactMixingColours': WHATEVER THE INPUT: true; the input reads as it did. -/
def fnExactMixingColoursSpec : ChangeSpec := { name := "fnExactMixingColours", fn := fun _ => fun
  | [d] => { results := [.lit (.bool true)], args := [d] }
  | _ => none }
def fnExactMixingColoursRow : OpenClaim := { program := "ytgelipdkheahdaa", sum := "00840464295c4752d96cc05b0486a71e22b172d285296e7d31405103271eb7e9", func := "loop.example/g01128/laws.FnExactMixingColours", spec := "fnExactMixingColours", unfollowed := true, recurses := true, apart := false }
def FnExactMixingColoursSaid : Prop := fnExactMixingColoursRow.holds Try.pinned (OpenSpec.ofChange fnExactMixingColoursSpec)

/-- ITS FALSE NEIGHBOUR: 'it returns false'. Refute it at one input. -/
def fnExactMixingColoursWrong : ChangeSpec := { name := "fnExactMixingColours", fn := fun _ => fun
  | [d] => { results := [.lit (.bool false)], args := [d] }
  | _ => none }
def FnExactMixingColoursWrongFalsely : Prop := fnExactMixingColoursRow.holds Try.pinned (OpenSpec.ofChange fnExactMixingColoursWrong)

/-- 'laws.FnExactFlipDistance': WHATEVER THE INPUT: true; the input reads as it did. -/
def fnExactFlipDistanceSpec : ChangeSpec := { name := "fnExactFlipDistance", fn := fun _ => fun
  | [d1, d2, d3] => { results := [.lit (.bool true)], args := [d1, d2, d3] }
  | _ => none }
def fnExactFlipDistanceRow : OpenClaim := { program := "ytgelipdkheahdaa", sum := "00840464295c4752d96cc05b0486a71e22b172d285296e7d31405103271eb7e9", func := "loop.example/g01128/laws.FnExactFlipDistance", spec := "fnExactFlipDistance", unfollowed := true, recurses := true, apart := false }
def FnExactFlipDistanceSaid : Prop := fnExactFlipDistanceRow.holds Try.pinned (OpenSpec.ofChange fnExactFlipDistanceSpec)

/-- ITS FALSE NEIGHBOUR: 'it returns false'. Refute it at one input. -/
def fnExactFlipDistanceWrong : ChangeSpec := { name := "fnExactFlipDistance", fn := fun _ => fun
  | [d1, d2, d3] => { results := [.lit (.bool false)], args := [d1, d2, d3] }
  | _ => none }
def FnExactFlipDistanceWrongFalsely : Prop := fnExactFlipDistanceRow.holds Try.pinned (OpenSpec.ofChange fnExactFlipDistanceWrong)

/- THE SECOND FORM. 'bulk': how many values and letters a reading holds, each counted each time it is reached (what is shared counts as often as it is met; a slice's spare places count too). A statement '..UptoSaid' is the law's where the arguments, and the package variables that the reading takes, are together of bulk at most 1048576: NARROWER than '..Said'. Prove '..Said' where nothing that the law and all that it calls make is longer than what came in: it says more and counts as full. Else prove '..UptoSaid'. A law counts once. -/
mutual
def uptoBulk {H : Type} : DataW H → Nat
  | .lit (.string bytes) => bytes.length + 1
  | .lit _ => 1
  | .nil => 1
  | .ptr d => uptoBulk d + 1
  | .slice elems spare => uptoBulkAll elems + uptoBulkAll spare + 1
  | .agg parts => uptoBulkAll parts + 1
  | .iface _ d => uptoBulk d + 1
  | .map entries => uptoBulkEntries entries + 1
  | .held _ => 1
def uptoBulkAll {H : Type} : List (DataW H) → Nat
  | [] => 0
  | d :: r => uptoBulk d + uptoBulkAll r
def uptoBulkEntries {H : Type} : List (Lit × DataW H) → Nat
  | [] => 0
  | x :: r => uptoBulkEntry x + uptoBulkEntries r
def uptoBulkEntry {H : Type} : Lit × DataW H → Nat
  | (.string bytes, d) => bytes.length + uptoBulk d + 1
  | (_, d) => uptoBulk d + 1
 end
def uptoSmall : (H : Type) → List (DataW H) → Bool := fun _ ds => decide (uptoBulkAll ds ≤ 1048576)
def OpenSpec.upto (s : _root_.Go.ChangeSpec) : _root_.Go.OpenSpec := { _root_.Go.OpenSpec.ofChange s with cond := some uptoSmall }

/-- 'laws.FnExactCountTrees', WHERE WHAT IT READS IS OF BULK AT MOST 1048576: true; the input reads as it did. -/
def fnExactCountTreesUptoRow : OpenClaim := { program := "ytgelipdkheahdaa", sum := "00840464295c4752d96cc05b0486a71e22b172d285296e7d31405103271eb7e9", func := "loop.example/g01128/laws.FnExactCountTrees", spec := "fnExactCountTrees", apart := false, narrowed := true }
def FnExactCountTreesUptoSaid : Prop := fnExactCountTreesUptoRow.holds Try.pinned (OpenSpec.upto fnExactCountTreesSpec)

/-- 'laws.FnExactExchangeSpace', WHERE WHAT IT READS IS OF BULK AT MOST 1048576: true; the input reads as it did. -/
def fnExactExchangeSpaceUptoRow : OpenClaim := { program := "ytgelipdkheahdaa", sum := "00840464295c4752d96cc05b0486a71e22b172d285296e7d31405103271eb7e9", func := "loop.example/g01128/laws.FnExactExchangeSpace", spec := "fnExactExchangeSpace", unfollowed := true, recurses := true, apart := false, narrowed := true }
def FnExactExchangeSpaceUptoSaid : Prop := fnExactExchangeSpaceUptoRow.holds Try.pinned (OpenSpec.upto fnExactExchangeSpaceSpec)

/-- 'laws.FnExactKindSlides', WHERE WHAT IT READS IS OF BULK AT MOST 1048576: true; the input reads as it did. -/
def fnExactKindSlidesUptoRow : OpenClaim := { program := "ytgelipdkheahdaa", sum := "00840464295c4752d96cc05b0486a71e22b172d285296e7d31405103271eb7e9", func := "loop.example/g01128/laws.FnExactKindSlides", spec := "fnExactKindSlides", unfollowed := true, recurses := true, apart := false, narrowed := true }
def FnExactKindSlidesUptoSaid : Prop := fnExactKindSlidesUptoRow.holds Try.pinned (OpenSpec.upto fnExactKindSlidesSpec)

/-- 'laws.FnExactThresholdSpace', WHERE WHAT IT READS IS OF BULK AT MOST 1048576: true; the input reads as it did. -/
def fnExactThresholdSpaceUptoRow : OpenClaim := { program := "ytgelipdkheahdaa", sum := "00840464295c4752d96cc05b0486a71e22b172d285296e7d31405103271eb7e9", func := "loop.example/g01128/laws.FnExactThresholdSpace", spec := "fnExactThresholdSpace", unfollowed := true, recurses := true, apart := false, narrowed := true }
def FnExactThresholdSpaceUptoSaid : Prop := fnExactThresholdSpaceUptoRow.holds Try.pinned (OpenSpec.upto fnExactThresholdSpaceSpec)

/-- 'laws.FnExactMixingColours', WHERE WHAT IT READS IS OF BULK AT MOST 1048576: true; the input reads as it did. -/
def fnExactMixingColoursUptoRow : OpenClaim := { program := "ytgelipdkheahdaa", sum := "00840464295c4752d96cc05b0486a71e22b172d285296e7d31405103271eb7e9", func := "loop.example/g01128/laws.FnExactMixingColours", spec := "fnExactMixingColours", unfollowed := true, recurses := true, apart := false, narrowed := true }
def FnExactMixingColoursUptoSaid : Prop := fnExactMixingColoursUptoRow.holds Try.pinned (OpenSpec.upto fnExactMixingColoursSpec)

/-- 'laws.FnExactFlipDistance', WHERE WHAT IT READS IS OF BULK AT MOST 1048576: true; the input reads as it did. -/
def fnExactFlipDistanceUptoRow : OpenClaim := { program := "ytgelipdkheahdaa", sum := "00840464295c4752d96cc05b0486a71e22b172d285296e7d31405103271eb7e9", func := "loop.example/g01128/laws.FnExactFlipDistance", spec := "fnExactFlipDistance", unfollowed := true, recurses := true, apart := false, narrowed := true }
def FnExactFlipDistanceUptoSaid : Prop := fnExactFlipDistanceUptoRow.holds Try.pinned (OpenSpec.upto fnExactFlipDistanceSpec)

end Rows
end Go.Proofs.Ytgelipdkheahdaa
