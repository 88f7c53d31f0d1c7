/-
  No cell of these rows narrows 'for every input' (looked for: loops, veiled, ifaces, maps, wideKeys, modest, calm, conditions, laid).
  DERIVED. THE GIVEN ROWS OF THIS SEAT. 12 by the template 'for every input the law returns true; each argument reads behind the call as it read before'; 0 by the template 'total and deterministic' (their statements: YthkejedgfhjdiaaTotals.lean).
  GIVEN WITH THE SEED: the statements are not yours to turn. If you find one false, say at which input.
  Laid BY PROGRAM, IN A SANDBOX (cutbox-rows.mjs): the forced cells as the released guide's own fill.sh prints them over the translation 9a9c70985e73f7b6… (all of the seat's roots in one cut). By AI agents, Wed Nov 11 2026. No macro, syntax, notation, axiom, sorry.
-/
import Derived.Test.YthkejedgfhjdiaaChecked
import GoSem.Claim
import GoSem.ClaimJoined
import GoSem.ClaimMapViews
import Derived.JoinedTies
import Derived.KernelRfl
namespace Go.Proofs.Ythkejedgfhjdiaa
/- THE CELL 'sum', in the pinned program and in every row, IS THE sha256 OF THE DUMP (.gsa) THAT YthkejedgfhjdiaaProg.lean LOADS. Nothing in Lean hashes anything: it is a label: what it is worth is what the hold of that sum in a sandbox is worth. -/
noncomputable def Try.pinned : Pinned := { name := "ythkejedgfhjdiaa", sum := "9a9c70985e73f7b60cd6c60e230f83ac2405593c34a71d3b12959adff1e2ea23", checked := Try.checked }
namespace Rows
def none {H : Type} : Left H := { results := [], args := [] }

/-- 'laws.FnExactFormulaOf': WHATEVER THE INPUT: true; the input reads as it did. -/
def fnExactFormulaOfSpec : ChangeSpec := { name := "fnExactFormulaOf", fn := fun _ => fun
  | [d1, d2] => { results := [.lit (.bool true)], args := [d1, d2] }
  | _ => none }
def fnExactFormulaOfRow : OpenClaim := { program := "ythkejedgfhjdiaa", sum := "9a9c70985e73f7b60cd6c60e230f83ac2405593c34a71d3b12959adff1e2ea23", func := "loop.example/g01128/laws.FnExactFormulaOf", spec := "fnExactFormulaOf", unfollowed := true, recurses := true, apart := false }
def FnExactFormulaOfSaid : Prop := fnExactFormulaOfRow.holds Try.pinned (OpenSpec.ofChange fnExactFormulaOfSpec)

/-- ITS FALSE NEIGHBOUR: 'it returns false'. Refute it at one input. -/
def fnExactFormulaOfWrong : ChangeSpec := { name := "fnExactFormulaOf", fn := fun _ => fun
  | [d1, d2] => { results := [.lit (.bool false)], args := [d1, d2] }
  | _ => none }
def FnExactFormulaOfWrongFalsely : Prop := fnExactFormulaOfRow.holds Try.pinned (OpenSpec.ofChange fnExactFormulaOfWrong)

/-- 'laws.FnExactParityFormula': WHATEVER THE INPUT: true; the input reads as it did. -/
def fnExactParityFormulaSpec : ChangeSpec := { name := "fnExactParityFormula", fn := fun _ => fun
  | [d] => { results := [.lit (.bool true)], args := [d] }
  | _ => none }
def fnExactParityFormulaRow : OpenClaim := { program := "ythkejedgfhjdiaa", sum := "9a9c70985e73f7b60cd6c60e230f83ac2405593c34a71d3b12959adff1e2ea23", func := "loop.example/g01128/laws.FnExactParityFormula", spec := "fnExactParityFormula", unfollowed := true, recurses := true, apart := false }
def FnExactParityFormulaSaid : Prop := fnExactParityFormulaRow.holds Try.pinned (OpenSpec.ofChange fnExactParityFormulaSpec)

/-- ITS FALSE NEIGHBOUR: 'it returns false'. Refute it at one input. -/
def fnExactParityFormulaWrong : ChangeSpec := { name := "fnExactParityFormula", fn := fun _ => fun
  | [d] => { results := [.lit (.bool false)], args := [d] }
  | _ => none }
def FnExactParityFormulaWrongFalsely : Prop := fnExactParityFormulaRow.holds Try.pinned (OpenSpec.ofChange fnExactParityFormulaWrong)

/-- 'laws.FnExactChainOf': WHATEVER THE INPUT: true; the input reads as it did. -/
def fnExactChainOfSpec : ChangeSpec := { name := "fnExactChainOf", fn := fun _ => fun
  | [d1, d2, d3, d4, d5] => { results := [.lit (.bool true)], args := [d1, d2, d3, d4, d5] }
  | _ => none }
def fnExactChainOfRow : OpenClaim := { program := "ythkejedgfhjdiaa", sum := "9a9c70985e73f7b60cd6c60e230f83ac2405593c34a71d3b12959adff1e2ea23", func := "loop.example/g01128/laws.FnExactChainOf", spec := "fnExactChainOf", unfollowed := true, recurses := true, apart := false }
def FnExactChainOfSaid : Prop := fnExactChainOfRow.holds Try.pinned (OpenSpec.ofChange fnExactChainOfSpec)

/-- ITS FALSE NEIGHBOUR: 'it returns false'. Refute it at one input. -/
def fnExactChainOfWrong : ChangeSpec := { name := "fnExactChainOf", fn := fun _ => fun
  | [d1, d2, d3, d4, d5] => { results := [.lit (.bool false)], args := [d1, d2, d3, d4, d5] }
  | _ => none }
def FnExactChainOfWrongFalsely : Prop := fnExactChainOfRow.holds Try.pinned (OpenSpec.ofChange fnExactChainOfWrong)

/-- 'laws.FnExactKempeChange': WHATEVER THE INPUT: true; the input reads as it did. -/
def fnExactKempeChangeSpec : ChangeSpec := { name := "fnExactKempeChange", fn := fun _ => fun
  | [d1, d2, d3, d4, d5] => { results := [.lit (.bool true)], args := [d1, d2, d3, d4, d5] }
  | _ => none }
def fnExactKempeChangeRow : OpenClaim := { program := "ythkejedgfhjdiaa", sum := "9a9c70985e73f7b60cd6c60e230f83ac2405593c34a71d3b12959adff1e2ea23", func := "loop.example/g01128/laws.FnExactKempeChange", spec := "fnExactKempeChange", unfollowed := true, recurses := true, apart := false }
def FnExactKempeChangeSaid : Prop := fnExactKempeChangeRow.holds Try.pinned (OpenSpec.ofChange fnExactKempeChangeSpec)

/-- ITS FALSE NEIGHBOUR: 'it returns false'. Refute it at one input. -/
def fnExactKempeChangeWrong : ChangeSpec := { name := "fnExactKempeChange", fn := fun _ => fun
  | [d1, d2, d3, d4, d5] => { results := [.lit (.bool false)], args := [d1, d2, d3, d4, d5] }
  | _ => none }
def FnExactKempeChangeWrongFalsely : Prop := fnExactKempeChangeRow.holds Try.pinned (OpenSpec.ofChange fnExactKempeChangeWrong)

/-- 'laws.FnExactIsTree': WHATEVER THE INPUT: true; the input reads as it did. -/
def fnExactIsTreeSpec : ChangeSpec := { name := "fnExactIsTree", fn := fun _ => fun
  | [d1, d2] => { results := [.lit (.bool true)], args := [d1, d2] }
  | _ => none }
def fnExactIsTreeRow : OpenClaim := { program := "ythkejedgfhjdiaa", sum := "9a9c70985e73f7b60cd6c60e230f83ac2405593c34a71d3b12959adff1e2ea23", func := "loop.example/g01128/laws.FnExactIsTree", spec := "fnExactIsTree", unfollowed := true, recurses := true, apart := false }
def FnExactIsTreeSaid : Prop := fnExactIsTreeRow.holds Try.pinned (OpenSpec.ofChange fnExactIsTreeSpec)

/-- ITS FALSE NEIGHBOUR: 'it returns false'. Refute it at one input. -/
def fnExactIsTreeWrong : ChangeSpec := { name := "fnExactIsTree", fn := fun _ => fun
  | [d1, d2] => { results := [.lit (.bool false)], args := [d1, d2] }
  | _ => none }
def FnExactIsTreeWrongFalsely : Prop := fnExactIsTreeRow.holds Try.pinned (OpenSpec.ofChange fnExactIsTreeWrong)

/-- 'laws.FnExactCutOf': WHATEVER THE INPUT: true; the input reads as it did. -/
def fnExactCutOfSpec : ChangeSpec := { name := "fnExactCutOf", fn := fun _ => fun
  | [d1, d2, d3] => { results := [.lit (.bool true)], args := [d1, d2, d3] }
  | _ => none }
def fnExactCutOfRow : OpenClaim := { program := "ythkejedgfhjdiaa", sum := "9a9c70985e73f7b60cd6c60e230f83ac2405593c34a71d3b12959adff1e2ea23", func := "loop.example/g01128/laws.FnExactCutOf", spec := "fnExactCutOf", unfollowed := true, recurses := true, apart := false }
def FnExactCutOfSaid : Prop := fnExactCutOfRow.holds Try.pinned (OpenSpec.ofChange fnExactCutOfSpec)

/-- ITS FALSE NEIGHBOUR: 'it returns false'. Refute it at one input. -/
def fnExactCutOfWrong : ChangeSpec := { name := "fnExactCutOf", fn := fun _ => fun
  | [d1, d2, d3] => { results := [.lit (.bool false)], args := [d1, d2, d3] }
  | _ => none }
def FnExactCutOfWrongFalsely : Prop := fnExactCutOfRow.holds Try.pinned (OpenSpec.ofChange fnExactCutOfWrong)

/-- 'laws.FnExactStillNodes': WHATEVER THE INPUT: true; the input reads as it did. -/
def fnExactStillNodesSpec : ChangeSpec := { name := "fnExactStillNodes", fn := fun _ => fun
  | [d1, d2, d3] => { results := [.lit (.bool true)], args := [d1, d2, d3] }
  | _ => none }
def fnExactStillNodesRow : OpenClaim := { program := "ythkejedgfhjdiaa", sum := "9a9c70985e73f7b60cd6c60e230f83ac2405593c34a71d3b12959adff1e2ea23", func := "loop.example/g01128/laws.FnExactStillNodes", spec := "fnExactStillNodes", unfollowed := true, recurses := true, apart := false }
def FnExactStillNodesSaid : Prop := fnExactStillNodesRow.holds Try.pinned (OpenSpec.ofChange fnExactStillNodesSpec)

/-- ITS FALSE NEIGHBOUR: 'it returns false'. Refute it at one input. -/
def fnExactStillNodesWrong : ChangeSpec := { name := "fnExactStillNodes", fn := fun _ => fun
  | [d1, d2, d3] => { results := [.lit (.bool false)], args := [d1, d2, d3] }
  | _ => none }
def FnExactStillNodesWrongFalsely : Prop := fnExactStillNodesRow.holds Try.pinned (OpenSpec.ofChange fnExactStillNodesWrong)

/-- 'laws.FnExactPeelingOf': WHATEVER THE INPUT: true; the input reads as it did. -/
def fnExactPeelingOfSpec : ChangeSpec := { name := "fnExactPeelingOf", fn := fun _ => fun
  | [d] => { results := [.lit (.bool true)], args := [d] }
  | _ => none }
def fnExactPeelingOfRow : OpenClaim := { program := "ythkejedgfhjdiaa", sum := "9a9c70985e73f7b60cd6c60e230f83ac2405593c34a71d3b12959adff1e2ea23", func := "loop.example/g01128/laws.FnExactPeelingOf", spec := "fnExactPeelingOf", apart := false }
def FnExactPeelingOfSaid : Prop := fnExactPeelingOfRow.holds Try.pinned (OpenSpec.ofChange fnExactPeelingOfSpec)

/-- ITS FALSE NEIGHBOUR: 'it returns false'. Refute it at one input. -/
def fnExactPeelingOfWrong : ChangeSpec := { name := "fnExactPeelingOf", fn := fun _ => fun
  | [d] => { results := [.lit (.bool false)], args := [d] }
  | _ => none }
def FnExactPeelingOfWrongFalsely : Prop := fnExactPeelingOfRow.holds Try.pinned (OpenSpec.ofChange fnExactPeelingOfWrong)

/-- 'laws.FnExactLightTree': WHATEVER THE INPUT: true; the input reads as it did. -/
def fnExactLightTreeSpec : ChangeSpec := { name := "fnExactLightTree", fn := fun _ => fun
  | [d1, d2] => { results := [.lit (.bool true)], args := [d1, d2] }
  | _ => none }
def fnExactLightTreeRow : OpenClaim := { program := "ythkejedgfhjdiaa", sum := "9a9c70985e73f7b60cd6c60e230f83ac2405593c34a71d3b12959adff1e2ea23", func := "loop.example/g01128/laws.FnExactLightTree", spec := "fnExactLightTree", unfollowed := true, recurses := true, apart := false }
def FnExactLightTreeSaid : Prop := fnExactLightTreeRow.holds Try.pinned (OpenSpec.ofChange fnExactLightTreeSpec)

/-- ITS FALSE NEIGHBOUR: 'it returns false'. Refute it at one input. -/
def fnExactLightTreeWrong : ChangeSpec := { name := "fnExactLightTree", fn := fun _ => fun
  | [d1, d2] => { results := [.lit (.bool false)], args := [d1, d2] }
  | _ => none }
def FnExactLightTreeWrongFalsely : Prop := fnExactLightTreeRow.holds Try.pinned (OpenSpec.ofChange fnExactLightTreeWrong)

/-- 'laws.FnExactNegateVars': WHATEVER THE INPUT: true; the input reads as it did. -/
def fnExactNegateVarsSpec : ChangeSpec := { name := "fnExactNegateVars", fn := fun _ => fun
  | [d1, d2] => { results := [.lit (.bool true)], args := [d1, d2] }
  | _ => none }
def fnExactNegateVarsRow : OpenClaim := { program := "ythkejedgfhjdiaa", sum := "9a9c70985e73f7b60cd6c60e230f83ac2405593c34a71d3b12959adff1e2ea23", func := "loop.example/g01128/laws.FnExactNegateVars", spec := "fnExactNegateVars", recurses := true, apart := false }
def FnExactNegateVarsSaid : Prop := fnExactNegateVarsRow.holds Try.pinned (OpenSpec.ofChange fnExactNegateVarsSpec)

/-- ITS FALSE NEIGHBOUR: 'it returns false'. Refute it at one input. -/
def fnExactNegateVarsWrong : ChangeSpec := { name := "fnExactNegateVars", fn := fun _ => fun
  | [d1, d2] => { results := [.lit (.bool false)], args := [d1, d2] }
  | _ => none }
def FnExactNegateVarsWrongFalsely : Prop := fnExactNegateVarsRow.holds Try.pinned (OpenSpec.ofChange fnExactNegateVarsWrong)

/-- 'laws.FnExactIsClosed': WHATEVER THE INPUT: true; the input reads as it did. -/
def fnExactIsClosedSpec : ChangeSpec := { name := "fnExactIsClosed", fn := fun _ => fun
  | [d1, d2] => { results := [.lit (.bool true)], args := [d1, d2] }
  | _ => none }
def fnExactIsClosedRow : OpenClaim := { program := "ythkejedgfhjdiaa", sum := "9a9c70985e73f7b60cd6c60e230f83ac2405593c34a71d3b12959adff1e2ea23", func := "loop.example/g01128/laws.FnExactIsClosed", spec := "fnExactIsClosed", unfollowed := true, recurses := true, apart := false }
def FnExactIsClosedSaid : Prop := fnExactIsClosedRow.holds Try.pinned (OpenSpec.ofChange fnExactIsClosedSpec)

/-- ITS FALSE NEIGHBOUR: 'it returns false'. Refute it at one input. -/
def fnExactIsClosedWrong : ChangeSpec := { name := "fnExactIsClosed", fn := fun _ => fun
  | [d1, d2] => { results := [.lit (.bool false)], args := [d1, d2] }
  | _ => none }
def FnExactIsClosedWrongFalsely : Prop := fnExactIsClosedRow.holds Try.pinned (OpenSpec.ofChange fnExactIsClosedWrong)

/-- 'laws.FnExactCircleOf': WHATEVER THE INPUT: true; the input reads as it did. -/
def fnExactCircleOfSpec : ChangeSpec := { name := "fnExactCircleOf", fn := fun _ => fun
  | [d1, d2, d3] => { results := [.lit (.bool true)], args := [d1, d2, d3] }
  | _ => none }
def fnExactCircleOfRow : OpenClaim := { program := "ythkejedgfhjdiaa", sum := "9a9c70985e73f7b60cd6c60e230f83ac2405593c34a71d3b12959adff1e2ea23", func := "loop.example/g01128/laws.FnExactCircleOf", spec := "fnExactCircleOf", unfollowed := true, recurses := true, apart := false }
def FnExactCircleOfSaid : Prop := fnExactCircleOfRow.holds Try.pinned (OpenSpec.ofChange fnExactCircleOfSpec)

/-- ITS FALSE NEIGHBOUR: 'it returns false'. Refute it at one input. -/
def fnExactCircleOfWrong : ChangeSpec := { name := "fnExactCircleOf", fn := fun _ => fun
  | [d1, d2, d3] => { results := [.lit (.bool false)], args := [d1, d2, d3] }
  | _ => none }
def FnExactCircleOfWrongFalsely : Prop := fnExactCircleOfRow.holds Try.pinned (OpenSpec.ofChange fnExactCircleOfWrong)

/- THE SECOND FORM. 'bulk': how many values and letters a reading holds, each counted each time it is reached (what is shared counts as often as it is met; a slice's spare places count too). A statement '..UptoSaid' is the law's where the arguments, and the package variables that the reading takes, are together of bulk at most 1048576: NARROWER than '..Said'. Prove '..Said' where nothing that the law and all that it calls make is longer than what came in: it says more and counts as full. Else prove '..UptoSaid'. A law counts once. -/
mutual
def uptoBulk {H : Type} : DataW H → Nat
  | .lit (.string bytes) => bytes.length + 1
  | .lit _ => 1
  | .nil => 1
  | .ptr d => uptoBulk d + 1
  | .slice elems spare => uptoBulkAll elems + uptoBulkAll spare + 1
  | .agg parts => uptoBulkAll parts + 1
  | .iface _ d => uptoBulk d + 1
  | .map entries => uptoBulkEntries entries + 1
  | .held _ => 1
def uptoBulkAll {H : Type} : List (DataW H) → Nat
  | [] => 0
  | d :: r => uptoBulk d + uptoBulkAll r
def uptoBulkEntries {H : Type} : List (Lit × DataW H) → Nat
  | [] => 0
  | x :: r => uptoBulkEntry x + uptoBulkEntries r
def uptoBulkEntry {H : Type} : Lit × DataW H → Nat
  | (.string bytes, d) => bytes.length + uptoBulk d + 1
  | (_, d) => uptoBulk d + 1
 end
def uptoSmall : (H : Type) → List (DataW H) → Bool := fun _ ds => decide (uptoBulkAll ds ≤ 1048576)
def OpenSpec.upto (s : _root_.Go.ChangeSpec) : _root_.Go.OpenSpec := { _root_.Go.OpenSpec.ofChange s with cond := some uptoSmall }

/-- 'laws.FnExactFormulaOf', WHERE WHAT IT READS IS OF BULK AT MOST 1048576: true; the input reads as it did. -/
def fnExactFormulaOfUptoRow : OpenClaim := { program := "ythkejedgfhjdiaa", sum := "9a9c70985e73f7b60cd6c60e230f83ac2405593c34a71d3b12959adff1e2ea23", func := "loop.example/g01128/laws.FnExactFormulaOf", spec := "fnExactFormulaOf", unfollowed := true, recurses := true, apart := false, narrowed := true }
def FnExactFormulaOfUptoSaid : Prop := fnExactFormulaOfUptoRow.holds Try.pinned (OpenSpec.upto fnExactFormulaOfSpec)

/-- 'laws.FnExactParityFormula', WHERE WHAT IT READS IS OF BULK AT MOST 1048576: true; the input reads as it did. -/
def fnExactParityFormulaUptoRow : OpenClaim := { program := "ythkejedgfhjdiaa", sum := "9a9c70985e73f7b60cd6c60e230f83ac2405593c34a71d3b12959adff1e2ea23", func := "loop.example/g01128/laws.FnExactParityFormula", spec := "fnExactParityFormula", unfollowed := true, recurses := true, apart := false, narrowed := true }
def FnExactParityFormulaUptoSaid : Prop := fnExactParityFormulaUptoRow.holds Try.pinned (OpenSpec.upto fnExactParityFormulaSpec)

/-- 'laws.FnExactChainOf', WHERE WHAT IT READS IS OF BULK AT MOST 1048576: true; the input reads as it did. -/
def fnExactChainOfUptoRow : OpenClaim := { program := "ythkejedgfhjdiaa", sum := "9a9c70985e73f7b60cd6c60e230f83ac2405593c34a71d3b12959adff1e2ea23", func := "loop.example/g01128/laws.FnExactChainOf", spec := "fnExactChainOf", unfollowed := true, recurses := true, apart := false, narrowed := true }
def FnExactChainOfUptoSaid : Prop := fnExactChainOfUptoRow.holds Try.pinned (OpenSpec.upto fnExactChainOfSpec)

/-- 'laws.FnExactKempeChange', WHERE WHAT IT READS IS OF BULK AT MOST 1048576: true; the input reads as it did. -/
def fnExactKempeChangeUptoRow : OpenClaim := { program := "ythkejedgfhjdiaa", sum := "9a9c70985e73f7b60cd6c60e230f83ac2405593c34a71d3b12959adff1e2ea23", func := "loop.example/g01128/laws.FnExactKempeChange", spec := "fnExactKempeChange", unfollowed := true, recurses := true, apart := false, narrowed := true }
def FnExactKempeChangeUptoSaid : Prop := fnExactKempeChangeUptoRow.holds Try.pinned (OpenSpec.upto fnExactKempeChangeSpec)

/-- 'laws.FnExactIsTree', WHERE WHAT IT READS IS OF BULK AT MOST 1048576: true; the input reads as it did. -/
def fnExactIsTreeUptoRow : OpenClaim := { program := "ythkejedgfhjdiaa", sum := "9a9c70985e73f7b60cd6c60e230f83ac2405593c34a71d3b12959adff1e2ea23", func := "loop.example/g01128/laws.FnExactIsTree", spec := "fnExactIsTree", unfollowed := true, recurses := true, apart := false, narrowed := true }
def FnExactIsTreeUptoSaid : Prop := fnExactIsTreeUptoRow.holds Try.pinned (OpenSpec.upto fnExactIsTreeSpec)

/-- 'laws.FnExactCutOf', WHERE WHAT IT READS IS OF BULK AT MOST 1048576: true; the input reads as it did. -/
def fnExactCutOfUptoRow : OpenClaim := { program := "ythkejedgfhjdiaa", sum := "9a9c70985e73f7b60cd6c60e230f83ac2405593c34a71d3b12959adff1e2ea23", func := "loop.example/g01128/laws.FnExactCutOf", spec := "fnExactCutOf", unfollowed := true, recurses := true, apart := false, narrowed := true }
def FnExactCutOfUptoSaid : Prop := fnExactCutOfUptoRow.holds Try.pinned (OpenSpec.upto fnExactCutOfSpec)

/-- 'laws.FnExactStillNodes', WHERE WHAT IT READS IS OF BULK AT MOST 1048576: true; the input reads as it did. -/
def fnExactStillNodesUptoRow : OpenClaim := { program := "ythkejedgfhjdiaa", sum := "9a9c70985e73f7b60cd6c60e230f83ac2405593c34a71d3b12959adff1e2ea23", func := "loop.example/g01128/laws.FnExactStillNodes", spec := "fnExactStillNodes", unfollowed := true, recurses := true, apart := false, narrowed := true }
def FnExactStillNodesUptoSaid : Prop := fnExactStillNodesUptoRow.holds Try.pinned (OpenSpec.upto fnExactStillNodesSpec)

/-- 'laws.FnExactPeelingOf', WHERE WHAT IT READS IS OF BULK AT MOST 1048576: true; the input reads as it did. -/
def fnExactPeelingOfUptoRow : OpenClaim := { program := "ythkejedgfhjdiaa", sum := "9a9c70985e73f7b60cd6c60e230f83ac2405593c34a71d3b12959adff1e2ea23", func := "loop.example/g01128/laws.FnExactPeelingOf", spec := "fnExactPeelingOf", apart := false, narrowed := true }
def FnExactPeelingOfUptoSaid : Prop := fnExactPeelingOfUptoRow.holds Try.pinned (OpenSpec.upto fnExactPeelingOfSpec)

/-- 'laws.FnExactLightTree', WHERE WHAT IT READS IS OF BULK AT MOST 1048576: true; the input reads as it did. -/
def fnExactLightTreeUptoRow : OpenClaim := { program := "ythkejedgfhjdiaa", sum := "9a9c70985e73f7b60cd6c60e230f83ac2405593c34a71d3b12959adff1e2ea23", func := "loop.example/g01128/laws.FnExactLightTree", spec := "fnExactLightTree", unfollowed := true, recurses := true, apart := false, narrowed := true }
def FnExactLightTreeUptoSaid : Prop := fnExactLightTreeUptoRow.holds Try.pinned (OpenSpec.upto fnExactLightTreeSpec)

/-- 'laws.FnExactNegateVars', WHERE WHAT IT READS IS OF BULK AT MOST 1048576: true; the input reads as it did. -/
def fnExactNegateVarsUptoRow : OpenClaim := { program := "ythkejedgfhjdiaa", sum := "9a9c70985e73f7b60cd6c60e230f83ac2405593c34a71d3b12959adff1e2ea23", func := "loop.example/g01128/laws.FnExactNegateVars", spec := "fnExactNegateVars", recurses := true, apart := false, narrowed := true }
def FnExactNegateVarsUptoSaid : Prop := fnExactNegateVarsUptoRow.holds Try.pinned (OpenSpec.upto fnExactNegateVarsSpec)

/-- 'laws.FnExactIsClosed', WHERE WHAT IT READS IS OF BULK AT MOST 1048576: true; the input reads as it did. -/
def fnExactIsClosedUptoRow : OpenClaim := { program := "ythkejedgfhjdiaa", sum := "9a9c70985e73f7b60cd6c60e230f83ac2405593c34a71d3b12959adff1e2ea23", func := "loop.example/g01128/laws.FnExactIsClosed", spec := "fnExactIsClosed", unfollowed := true, recurses := true, apart := false, narrowed := true }
def FnExactIsClosedUptoSaid : Prop := fnExactIsClosedUptoRow.holds Try.pinned (OpenSpec.upto fnExactIsClosedSpec)

/-- 'laws.FnExactCircleOf', WHERE WHAT IT READS IS OF BULK AT MOST 1048576: true; the input reads as it did. -/
def fnExactCircleOfUptoRow : OpenClaim := { program := "ythkejedgfhjdiaa", sum := "9a9c70985e73f7b60cd6c60e230f83ac2405593c34a71d3b12959adff1e2ea23", func := "loop.example/g01128/laws.FnExactCircleOf", spec := "fnExactCircleOf", unfollowed := true, recurses := true, apart := false, narrowed := true }
def FnExactCircleOfUptoSaid : Prop := fnExactCircleOfUptoRow.holds Try.pinned (OpenSpec.upto fnExactCircleOfSpec)

end Rows
end Go.Proofs.Ythkejedgfhjdiaa
