/-
  No cell of these rows narrows 'for every input' (looked for: loops, veiled, ifaces, maps, wideKeys, modest, calm, conditions, laid).
  DERIVED. THE GIVEN ROWS OF THIS SEAT. 12 by the template 'for every input the law returns true; each argument reads behind the call as it read before'; 0 by the template 'total and deterministic' (their statements: YtfbkjgeaoafejaaTotals.lean).
  GIVEN WITH THE SEED: the statements are not yours to turn. If you find one false, say at which input.
  Laid BY PROGRAM, IN A SANDBOX (cutbox-rows.mjs): the forced cells as the released guide's own fill.sh prints them over the translation e0dc595dfa5f724a… (all of the seat's roots in one cut). By AI agents, Wed Nov 11 2026. No macro, syntax, notation, axiom, sorry.
-/
import Derived.Test.YtfbkjgeaoafejaaChecked
import GoSem.Claim
import GoSem.ClaimJoined
import GoSem.ClaimMapViews
import Derived.JoinedTies
import Derived.KernelRfl
namespace Go.Proofs.Ytfbkjgeaoafejaa
/- THE CELL 'sum', in the pinned program and in every row, IS THE sha256 OF THE DUMP (.gsa) THAT YtfbkjgeaoafejaaProg.lean LOADS. Nothing in Lean hashes anything: it is a label: what it is worth is what the hold of that sum in a sandbox is worth. -/
noncomputable def Try.pinned : Pinned := { name := "ytfbkjgeaoafejaa", sum := "e0dc595dfa5f724a5c19b2c289e9b8bc5dde273a6bbe4552a46ccef243a3854c", checked := Try.checked }
namespace Rows
def none {H : Type} : Left H := { results := [], args := [] }

/-- 'laws.FnExactColourings': WHATEVER THE INPUT: true; the input reads as it did. -/
def fnExactColouringsSpec : ChangeSpec := { name := "fnExactColourings", fn := fun _ => fun
  | [d1, d2] => { results := [.lit (.bool true)], args := [d1, d2] }
  | _ => none }
def fnExactColouringsRow : OpenClaim := { program := "ytfbkjgeaoafejaa", sum := "e0dc595dfa5f724a5c19b2c289e9b8bc5dde273a6bbe4552a46ccef243a3854c", func := "loop.example/g01128/laws.FnExactColourings", spec := "fnExactColourings", unfollowed := true, recurses := true, apart := false }
def FnExactColouringsSaid : Prop := fnExactColouringsRow.holds Try.pinned (OpenSpec.ofChange fnExactColouringsSpec)

/-- ITS FALSE NEIGHBOUR: 'it returns false'. Refute it at one input. -/
def fnExactColouringsWrong : ChangeSpec := { name := "fnExactColourings", fn := fun _ => fun
  | [d1, d2] => { results := [.lit (.bool false)], args := [d1, d2] }
  | _ => none }
def FnExactColouringsWrongFalsely : Prop := fnExactColouringsRow.holds Try.pinned (OpenSpec.ofChange fnExactColouringsWrong)

/-- 'laws.FnExactCountWays': WHATEVER THE INPUT: true; the input reads as it did. -/
def fnExactCountWaysSpec : ChangeSpec := { name := "fnExactCountWays", fn := fun _ => fun
  | [d1, d2, d3] => { results := [.lit (.bool true)], args := [d1, d2, d3] }
  | _ => none }
def fnExactCountWaysRow : OpenClaim := { program := "ytfbkjgeaoafejaa", sum := "e0dc595dfa5f724a5c19b2c289e9b8bc5dde273a6bbe4552a46ccef243a3854c", func := "loop.example/g01128/laws.FnExactCountWays", spec := "fnExactCountWays", unfollowed := true, recurses := true, apart := false }
def FnExactCountWaysSaid : Prop := fnExactCountWaysRow.holds Try.pinned (OpenSpec.ofChange fnExactCountWaysSpec)

/-- ITS FALSE NEIGHBOUR: 'it returns false'. Refute it at one input. -/
def fnExactCountWaysWrong : ChangeSpec := { name := "fnExactCountWays", fn := fun _ => fun
  | [d1, d2, d3] => { results := [.lit (.bool false)], args := [d1, d2, d3] }
  | _ => none }
def FnExactCountWaysWrongFalsely : Prop := fnExactCountWaysRow.holds Try.pinned (OpenSpec.ofChange fnExactCountWaysWrong)

/-- 'laws.FnExactSpanningTrees': WHATEVER THE INPUT: true; the input reads as it did. -/
def fnExactSpanningTreesSpec : ChangeSpec := { name := "fnExactSpanningTrees", fn := fun _ => fun
  | [d] => { results := [.lit (.bool true)], args := [d] }
  | _ => none }
def fnExactSpanningTreesRow : OpenClaim := { program := "ytfbkjgeaoafejaa", sum := "e0dc595dfa5f724a5c19b2c289e9b8bc5dde273a6bbe4552a46ccef243a3854c", func := "loop.example/g01128/laws.FnExactSpanningTrees", spec := "fnExactSpanningTrees", unfollowed := true, recurses := true, apart := false }
def FnExactSpanningTreesSaid : Prop := fnExactSpanningTreesRow.holds Try.pinned (OpenSpec.ofChange fnExactSpanningTreesSpec)

/-- ITS FALSE NEIGHBOUR: 'it returns false'. Refute it at one input. -/
def fnExactSpanningTreesWrong : ChangeSpec := { name := "fnExactSpanningTrees", fn := fun _ => fun
  | [d] => { results := [.lit (.bool false)], args := [d] }
  | _ => none }
def FnExactSpanningTreesWrongFalsely : Prop := fnExactSpanningTreesRow.holds Try.pinned (OpenSpec.ofChange fnExactSpanningTreesWrong)

/-- 'laws.FnExactLayersOf': WHATEVER THE INPUT: true; the input reads as it did. -/
def fnExactLayersOfSpec : ChangeSpec := { name := "fnExactLayersOf", fn := fun _ => fun
  | [d1, d2, d3] => { results := [.lit (.bool true)], args := [d1, d2, d3] }
  | _ => none }
def fnExactLayersOfRow : OpenClaim := { program := "ytfbkjgeaoafejaa", sum := "e0dc595dfa5f724a5c19b2c289e9b8bc5dde273a6bbe4552a46ccef243a3854c", func := "loop.example/g01128/laws.FnExactLayersOf", spec := "fnExactLayersOf", unfollowed := true, recurses := true, apart := false }
def FnExactLayersOfSaid : Prop := fnExactLayersOfRow.holds Try.pinned (OpenSpec.ofChange fnExactLayersOfSpec)

/-- ITS FALSE NEIGHBOUR: 'it returns false'. Refute it at one input. -/
def fnExactLayersOfWrong : ChangeSpec := { name := "fnExactLayersOf", fn := fun _ => fun
  | [d1, d2, d3] => { results := [.lit (.bool false)], args := [d1, d2, d3] }
  | _ => none }
def FnExactLayersOfWrongFalsely : Prop := fnExactLayersOfRow.holds Try.pinned (OpenSpec.ofChange fnExactLayersOfWrong)

/-- 'laws.FnExactShortestWays': WHATEVER THE INPUT: true; the input reads as it did. -/
def fnExactShortestWaysSpec : ChangeSpec := { name := "fnExactShortestWays", fn := fun _ => fun
  | [d1, d2, d3] => { results := [.lit (.bool true)], args := [d1, d2, d3] }
  | _ => none }
def fnExactShortestWaysRow : OpenClaim := { program := "ytfbkjgeaoafejaa", sum := "e0dc595dfa5f724a5c19b2c289e9b8bc5dde273a6bbe4552a46ccef243a3854c", func := "loop.example/g01128/laws.FnExactShortestWays", spec := "fnExactShortestWays", unfollowed := true, recurses := true, apart := false }
def FnExactShortestWaysSaid : Prop := fnExactShortestWaysRow.holds Try.pinned (OpenSpec.ofChange fnExactShortestWaysSpec)

/-- ITS FALSE NEIGHBOUR: 'it returns false'. Refute it at one input. -/
def fnExactShortestWaysWrong : ChangeSpec := { name := "fnExactShortestWays", fn := fun _ => fun
  | [d1, d2, d3] => { results := [.lit (.bool false)], args := [d1, d2, d3] }
  | _ => none }
def FnExactShortestWaysWrongFalsely : Prop := fnExactShortestWaysRow.holds Try.pinned (OpenSpec.ofChange fnExactShortestWaysWrong)

/-- 'laws.FnExactRenameColours': WHATEVER THE INPUT: true; the input reads as it did. -/
def fnExactRenameColoursSpec : ChangeSpec := { name := "fnExactRenameColours", fn := fun _ => fun
  | [d1, d2, d3, d4] => { results := [.lit (.bool true)], args := [d1, d2, d3, d4] }
  | _ => none }
def fnExactRenameColoursRow : OpenClaim := { program := "ytfbkjgeaoafejaa", sum := "e0dc595dfa5f724a5c19b2c289e9b8bc5dde273a6bbe4552a46ccef243a3854c", func := "loop.example/g01128/laws.FnExactRenameColours", spec := "fnExactRenameColours", unfollowed := true, recurses := true, apart := false }
def FnExactRenameColoursSaid : Prop := fnExactRenameColoursRow.holds Try.pinned (OpenSpec.ofChange fnExactRenameColoursSpec)

/-- ITS FALSE NEIGHBOUR: 'it returns false'. Refute it at one input. -/
def fnExactRenameColoursWrong : ChangeSpec := { name := "fnExactRenameColours", fn := fun _ => fun
  | [d1, d2, d3, d4] => { results := [.lit (.bool false)], args := [d1, d2, d3, d4] }
  | _ => none }
def FnExactRenameColoursWrongFalsely : Prop := fnExactRenameColoursRow.holds Try.pinned (OpenSpec.ofChange fnExactRenameColoursWrong)

/-- 'laws.FnExactGreedyColours': WHATEVER THE INPUT: true; the input reads as it did. -/
def fnExactGreedyColoursSpec : ChangeSpec := { name := "fnExactGreedyColours", fn := fun _ => fun
  | [d1, d2] => { results := [.lit (.bool true)], args := [d1, d2] }
  | _ => none }
def fnExactGreedyColoursRow : OpenClaim := { program := "ytfbkjgeaoafejaa", sum := "e0dc595dfa5f724a5c19b2c289e9b8bc5dde273a6bbe4552a46ccef243a3854c", func := "loop.example/g01128/laws.FnExactGreedyColours", spec := "fnExactGreedyColours", unfollowed := true, recurses := true, apart := false }
def FnExactGreedyColoursSaid : Prop := fnExactGreedyColoursRow.holds Try.pinned (OpenSpec.ofChange fnExactGreedyColoursSpec)

/-- ITS FALSE NEIGHBOUR: 'it returns false'. Refute it at one input. -/
def fnExactGreedyColoursWrong : ChangeSpec := { name := "fnExactGreedyColours", fn := fun _ => fun
  | [d1, d2] => { results := [.lit (.bool false)], args := [d1, d2] }
  | _ => none }
def FnExactGreedyColoursWrongFalsely : Prop := fnExactGreedyColoursRow.holds Try.pinned (OpenSpec.ofChange fnExactGreedyColoursWrong)

/-- 'laws.FnExactFlipSpace': WHATEVER THE INPUT: true; the input reads as it did. -/
def fnExactFlipSpaceSpec : ChangeSpec := { name := "fnExactFlipSpace", fn := fun _ => fun
  | [d] => { results := [.lit (.bool true)], args := [d] }
  | _ => none }
def fnExactFlipSpaceRow : OpenClaim := { program := "ytfbkjgeaoafejaa", sum := "e0dc595dfa5f724a5c19b2c289e9b8bc5dde273a6bbe4552a46ccef243a3854c", func := "loop.example/g01128/laws.FnExactFlipSpace", spec := "fnExactFlipSpace", unfollowed := true, recurses := true, apart := false }
def FnExactFlipSpaceSaid : Prop := fnExactFlipSpaceRow.holds Try.pinned (OpenSpec.ofChange fnExactFlipSpaceSpec)

/-- ITS FALSE NEIGHBOUR: 'it returns false'. Refute it at one input. -/
def fnExactFlipSpaceWrong : ChangeSpec := { name := "fnExactFlipSpace", fn := fun _ => fun
  | [d] => { results := [.lit (.bool false)], args := [d] }
  | _ => none }
def FnExactFlipSpaceWrongFalsely : Prop := fnExactFlipSpaceRow.holds Try.pinned (OpenSpec.ofChange fnExactFlipSpaceWrong)

/-- 'laws.FnExactParitySpace': WHATEVER THE INPUT: true; the input reads as it did. -/
def fnExactParitySpaceSpec : ChangeSpec := { name := "fnExactParitySpace", fn := fun _ => fun
  | [d] => { results := [.lit (.bool true)], args := [d] }
  | _ => none }
def fnExactParitySpaceRow : OpenClaim := { program := "ytfbkjgeaoafejaa", sum := "e0dc595dfa5f724a5c19b2c289e9b8bc5dde273a6bbe4552a46ccef243a3854c", func := "loop.example/g01128/laws.FnExactParitySpace", spec := "fnExactParitySpace", unfollowed := true, recurses := true, apart := false }
def FnExactParitySpaceSaid : Prop := fnExactParitySpaceRow.holds Try.pinned (OpenSpec.ofChange fnExactParitySpaceSpec)

/-- ITS FALSE NEIGHBOUR: 'it returns false'. Refute it at one input. -/
def fnExactParitySpaceWrong : ChangeSpec := { name := "fnExactParitySpace", fn := fun _ => fun
  | [d] => { results := [.lit (.bool false)], args := [d] }
  | _ => none }
def FnExactParitySpaceWrongFalsely : Prop := fnExactParitySpaceRow.holds Try.pinned (OpenSpec.ofChange fnExactParitySpaceWrong)

/-- 'laws.FnExactColourSpace': WHATEVER THE INPUT: true; the input reads as it did. -/
def fnExactColourSpaceSpec : ChangeSpec := { name := "fnExactColourSpace", fn := fun _ => fun
  | [d1, d2] => { results := [.lit (.bool true)], args := [d1, d2] }
  | _ => none }
def fnExactColourSpaceRow : OpenClaim := { program := "ytfbkjgeaoafejaa", sum := "e0dc595dfa5f724a5c19b2c289e9b8bc5dde273a6bbe4552a46ccef243a3854c", func := "loop.example/g01128/laws.FnExactColourSpace", spec := "fnExactColourSpace", unfollowed := true, recurses := true, apart := false }
def FnExactColourSpaceSaid : Prop := fnExactColourSpaceRow.holds Try.pinned (OpenSpec.ofChange fnExactColourSpaceSpec)

/-- ITS FALSE NEIGHBOUR: 'it returns false'. Refute it at one input. -/
def fnExactColourSpaceWrong : ChangeSpec := { name := "fnExactColourSpace", fn := fun _ => fun
  | [d1, d2] => { results := [.lit (.bool false)], args := [d1, d2] }
  | _ => none }
def FnExactColourSpaceWrongFalsely : Prop := fnExactColourSpaceRow.holds Try.pinned (OpenSpec.ofChange fnExactColourSpaceWrong)

/-- 'laws.FnExactTightSets': WHATEVER THE INPUT: true; the input reads as it did. -/
def fnExactTightSetsSpec : ChangeSpec := { name := "fnExactTightSets", fn := fun _ => fun
  | [d1, d2] => { results := [.lit (.bool true)], args := [d1, d2] }
  | _ => none }
def fnExactTightSetsRow : OpenClaim := { program := "ytfbkjgeaoafejaa", sum := "e0dc595dfa5f724a5c19b2c289e9b8bc5dde273a6bbe4552a46ccef243a3854c", func := "loop.example/g01128/laws.FnExactTightSets", spec := "fnExactTightSets", unfollowed := true, recurses := true, apart := false }
def FnExactTightSetsSaid : Prop := fnExactTightSetsRow.holds Try.pinned (OpenSpec.ofChange fnExactTightSetsSpec)

/-- ITS FALSE NEIGHBOUR: 'it returns false'. Refute it at one input. -/
def fnExactTightSetsWrong : ChangeSpec := { name := "fnExactTightSets", fn := fun _ => fun
  | [d1, d2] => { results := [.lit (.bool false)], args := [d1, d2] }
  | _ => none }
def FnExactTightSetsWrongFalsely : Prop := fnExactTightSetsRow.holds Try.pinned (OpenSpec.ofChange fnExactTightSetsWrong)

/-- 'laws.FnKempe': WHATEVER THE INPUT: true; the input reads as it did. -/
def fnKempeSpec : ChangeSpec := { name := "fnKempe", fn := fun _ => fun
  | [d] => { results := [.lit (.bool true)], args := [d] }
  | _ => none }
def fnKempeRow : OpenClaim := { program := "ytfbkjgeaoafejaa", sum := "e0dc595dfa5f724a5c19b2c289e9b8bc5dde273a6bbe4552a46ccef243a3854c", func := "loop.example/g01128/laws.FnKempe", spec := "fnKempe", unfollowed := true, recurses := true, apart := false }
def FnKempeSaid : Prop := fnKempeRow.holds Try.pinned (OpenSpec.ofChange fnKempeSpec)

/-- ITS FALSE NEIGHBOUR: 'it returns false'. Refute it at one input. -/
def fnKempeWrong : ChangeSpec := { name := "fnKempe", fn := fun _ => fun
  | [d] => { results := [.lit (.bool false)], args := [d] }
  | _ => none }
def FnKempeWrongFalsely : Prop := fnKempeRow.holds Try.pinned (OpenSpec.ofChange fnKempeWrong)

/- THE SECOND FORM. 'bulk': how many values and letters a reading holds, each counted each time it is reached (what is shared counts as often as it is met; a slice's spare places count too). A statement '..UptoSaid' is the law's where the arguments, and the package variables that the reading takes, are together of bulk at most 1048576: NARROWER than '..Said'. Prove '..Said' where nothing that the law and all that it calls make is longer than what came in: it says more and counts as full. Else prove '..UptoSaid'. A law counts once. -/
mutual
def uptoBulk {H : Type} : DataW H → Nat
  | .lit (.string bytes) => bytes.length + 1
  | .lit _ => 1
  | .nil => 1
  | .ptr d => uptoBulk d + 1
  | .slice elems spare => uptoBulkAll elems + uptoBulkAll spare + 1
  | .agg parts => uptoBulkAll parts + 1
  | .iface _ d => uptoBulk d + 1
  | .map entries => uptoBulkEntries entries + 1
  | .held _ => 1
def uptoBulkAll {H : Type} : List (DataW H) → Nat
  | [] => 0
  | d :: r => uptoBulk d + uptoBulkAll r
def uptoBulkEntries {H : Type} : List (Lit × DataW H) → Nat
  | [] => 0
  | x :: r => uptoBulkEntry x + uptoBulkEntries r
def uptoBulkEntry {H : Type} : Lit × DataW H → Nat
  | (.string bytes, d) => bytes.length + uptoBulk d + 1
  | (_, d) => uptoBulk d + 1
 end
def uptoSmall : (H : Type) → List (DataW H) → Bool := fun _ ds => decide (uptoBulkAll ds ≤ 1048576)
def OpenSpec.upto (s : _root_.Go.ChangeSpec) : _root_.Go.OpenSpec := { _root_.Go.OpenSpec.ofChange s with cond := some uptoSmall }

/-- 'laws.FnExactColourings', WHERE WHAT IT READS IS OF BULK AT MOST 1048576: true; the input reads as it did. -/
def fnExactColouringsUptoRow : OpenClaim := { program := "ytfbkjgeaoafejaa", sum := "e0dc595dfa5f724a5c19b2c289e9b8bc5dde273a6bbe4552a46ccef243a3854c", func := "loop.example/g01128/laws.FnExactColourings", spec := "fnExactColourings", unfollowed := true, recurses := true, apart := false, narrowed := true }
def FnExactColouringsUptoSaid : Prop := fnExactColouringsUptoRow.holds Try.pinned (OpenSpec.upto fnExactColouringsSpec)

/-- 'laws.FnExactCountWays', WHERE WHAT IT READS IS OF BULK AT MOST 1048576: true; the input reads as it did. -/
def fnExactCountWaysUptoRow : OpenClaim := { program := "ytfbkjgeaoafejaa", sum := "e0dc595dfa5f724a5c19b2c289e9b8bc5dde273a6bbe4552a46ccef243a3854c", func := "loop.example/g01128/laws.FnExactCountWays", spec := "fnExactCountWays", unfollowed := true, recurses := true, apart := false, narrowed := true }
def FnExactCountWaysUptoSaid : Prop := fnExactCountWaysUptoRow.holds Try.pinned (OpenSpec.upto fnExactCountWaysSpec)

/-- 'laws.FnExactSpanningTrees', WHERE WHAT IT READS IS OF BULK AT MOST 1048576: true; the input reads as it did. -/
def fnExactSpanningTreesUptoRow : OpenClaim := { program := "ytfbkjgeaoafejaa", sum := "e0dc595dfa5f724a5c19b2c289e9b8bc5dde273a6bbe4552a46ccef243a3854c", func := "loop.example/g01128/laws.FnExactSpanningTrees", spec := "fnExactSpanningTrees", unfollowed := true, recurses := true, apart := false, narrowed := true }
def FnExactSpanningTreesUptoSaid : Prop := fnExactSpanningTreesUptoRow.holds Try.pinned (OpenSpec.upto fnExactSpanningTreesSpec)

/-- 'laws.FnExactLayersOf', WHERE WHAT IT READS IS OF BULK AT MOST 1048576: true; the input reads as it did. -/
def fnExactLayersOfUptoRow : OpenClaim := { program := "ytfbkjgeaoafejaa", sum := "e0dc595dfa5f724a5c19b2c289e9b8bc5dde273a6bbe4552a46ccef243a3854c", func := "loop.example/g01128/laws.FnExactLayersOf", spec := "fnExactLayersOf", unfollowed := true, recurses := true, apart := false, narrowed := true }
def FnExactLayersOfUptoSaid : Prop := fnExactLayersOfUptoRow.holds Try.pinned (OpenSpec.upto fnExactLayersOfSpec)

/-- 'laws.FnExactShortestWays', WHERE WHAT IT READS IS OF BULK AT MOST 1048576: true; the input reads as it did. -/
def fnExactShortestWaysUptoRow : OpenClaim := { program := "ytfbkjgeaoafejaa", sum := "e0dc595dfa5f724a5c19b2c289e9b8bc5dde273a6bbe4552a46ccef243a3854c", func := "loop.example/g01128/laws.FnExactShortestWays", spec := "fnExactShortestWays", unfollowed := true, recurses := true, apart := false, narrowed := true }
def FnExactShortestWaysUptoSaid : Prop := fnExactShortestWaysUptoRow.holds Try.pinned (OpenSpec.upto fnExactShortestWaysSpec)

/-- 'laws.FnExactRenameColours', WHERE WHAT IT READS IS OF BULK AT MOST 1048576: true; the input reads as it did. -/
def fnExactRenameColoursUptoRow : OpenClaim := { program := "ytfbkjgeaoafejaa", sum := "e0dc595dfa5f724a5c19b2c289e9b8bc5dde273a6bbe4552a46ccef243a3854c", func := "loop.example/g01128/laws.FnExactRenameColours", spec := "fnExactRenameColours", unfollowed := true, recurses := true, apart := false, narrowed := true }
def FnExactRenameColoursUptoSaid : Prop := fnExactRenameColoursUptoRow.holds Try.pinned (OpenSpec.upto fnExactRenameColoursSpec)

/-- 'laws.FnExactGreedyColours', WHERE WHAT IT READS IS OF BULK AT MOST 1048576: true; the input reads as it did. -/
def fnExactGreedyColoursUptoRow : OpenClaim := { program := "ytfbkjgeaoafejaa", sum := "e0dc595dfa5f724a5c19b2c289e9b8bc5dde273a6bbe4552a46ccef243a3854c", func := "loop.example/g01128/laws.FnExactGreedyColours", spec := "fnExactGreedyColours", unfollowed := true, recurses := true, apart := false, narrowed := true }
def FnExactGreedyColoursUptoSaid : Prop := fnExactGreedyColoursUptoRow.holds Try.pinned (OpenSpec.upto fnExactGreedyColoursSpec)

/-- 'laws.FnExactFlipSpace', WHERE WHAT IT READS IS OF BULK AT MOST 1048576: true; the input reads as it did. -/
def fnExactFlipSpaceUptoRow : OpenClaim := { program := "ytfbkjgeaoafejaa", sum := "e0dc595dfa5f724a5c19b2c289e9b8bc5dde273a6bbe4552a46ccef243a3854c", func := "loop.example/g01128/laws.FnExactFlipSpace", spec := "fnExactFlipSpace", unfollowed := true, recurses := true, apart := false, narrowed := true }
def FnExactFlipSpaceUptoSaid : Prop := fnExactFlipSpaceUptoRow.holds Try.pinned (OpenSpec.upto fnExactFlipSpaceSpec)

/-- 'laws.FnExactParitySpace', WHERE WHAT IT READS IS OF BULK AT MOST 1048576: true; the input reads as it did. -/
def fnExactParitySpaceUptoRow : OpenClaim := { program := "ytfbkjgeaoafejaa", sum := "e0dc595dfa5f724a5c19b2c289e9b8bc5dde273a6bbe4552a46ccef243a3854c", func := "loop.example/g01128/laws.FnExactParitySpace", spec := "fnExactParitySpace", unfollowed := true, recurses := true, apart := false, narrowed := true }
def FnExactParitySpaceUptoSaid : Prop := fnExactParitySpaceUptoRow.holds Try.pinned (OpenSpec.upto fnExactParitySpaceSpec)

/-- 'laws.FnExactColourSpace', WHERE WHAT IT READS IS OF BULK AT MOST 1048576: true; the input reads as it did. -/
def fnExactColourSpaceUptoRow : OpenClaim := { program := "ytfbkjgeaoafejaa", sum := "e0dc595dfa5f724a5c19b2c289e9b8bc5dde273a6bbe4552a46ccef243a3854c", func := "loop.example/g01128/laws.FnExactColourSpace", spec := "fnExactColourSpace", unfollowed := true, recurses := true, apart := false, narrowed := true }
def FnExactColourSpaceUptoSaid : Prop := fnExactColourSpaceUptoRow.holds Try.pinned (OpenSpec.upto fnExactColourSpaceSpec)

/-- 'laws.FnExactTightSets', WHERE WHAT IT READS IS OF BULK AT MOST 1048576: true; the input reads as it did. -/
def fnExactTightSetsUptoRow : OpenClaim := { program := "ytfbkjgeaoafejaa", sum := "e0dc595dfa5f724a5c19b2c289e9b8bc5dde273a6bbe4552a46ccef243a3854c", func := "loop.example/g01128/laws.FnExactTightSets", spec := "fnExactTightSets", unfollowed := true, recurses := true, apart := false, narrowed := true }
def FnExactTightSetsUptoSaid : Prop := fnExactTightSetsUptoRow.holds Try.pinned (OpenSpec.upto fnExactTightSetsSpec)

/-- 'laws.FnKempe', WHERE WHAT IT READS IS OF BULK AT MOST 1048576: true; the input reads as it did. -/
def fnKempeUptoRow : OpenClaim := { program := "ytfbkjgeaoafejaa", sum := "e0dc595dfa5f724a5c19b2c289e9b8bc5dde273a6bbe4552a46ccef243a3854c", func := "loop.example/g01128/laws.FnKempe", spec := "fnKempe", unfollowed := true, recurses := true, apart := false, narrowed := true }
def FnKempeUptoSaid : Prop := fnKempeUptoRow.holds Try.pinned (OpenSpec.upto fnKempeSpec)

end Rows
end Go.Proofs.Ytfbkjgeaoafejaa
