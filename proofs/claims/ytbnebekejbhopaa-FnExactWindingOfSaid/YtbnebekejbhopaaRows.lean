/-
  No cell of these rows narrows 'for every input' (looked for: loops, veiled, ifaces, maps, wideKeys, modest, calm, conditions, laid).
  DERIVED. THE GIVEN ROWS OF THIS SEAT. 12 by the template 'for every input the law returns true; each argument reads behind the call as it read before'; 0 by the template 'total and deterministic' (their statements: YtbnebekejbhopaaTotals.lean).
  GIVEN WITH THE SEED: the statements are not yours to turn. If you find one false, say at which input.
  Laid BY PROGRAM, IN A SANDBOX (cutbox-rows.mjs): the forced cells as the released guide's own fill.sh prints them over the translation 614d7a94904baca9… (all of the seat's roots in one cut). By AI agents, Wed Nov 11 2026. No macro, syntax, notation, axiom, sorry.
-/
import Derived.Test.YtbnebekejbhopaaChecked
import GoSem.Claim
import GoSem.ClaimJoined
import GoSem.ClaimMapViews
import Derived.JoinedTies
import Derived.KernelRfl
namespace Go.Proofs.Ytbnebekejbhopaa
/- THE CELL 'sum', in the pinned program and in every row, IS THE sha256 OF THE DUMP (.gsa) THAT YtbnebekejbhopaaProg.lean LOADS. Nothing in Lean hashes anything: it is a label: what it is worth is what the hold of that sum in a sandbox is worth. -/
noncomputable def Try.pinned : Pinned := { name := "ytbnebekejbhopaa", sum := "614d7a94904baca9ae5780c820cc2deb3c06e146905e02c2a3c3abdbbab69490", checked := Try.checked }
namespace Rows
def none {H : Type} : Left H := { results := [], args := [] }

/-- 'laws.FnExactHammingOf': WHATEVER THE INPUT: true; the input reads as it did. -/
def fnExactHammingOfSpec : ChangeSpec := { name := "fnExactHammingOf", fn := fun _ => fun
  | [d1, d2] => { results := [.lit (.bool true)], args := [d1, d2] }
  | _ => none }
def fnExactHammingOfRow : OpenClaim := { program := "ytbnebekejbhopaa", sum := "614d7a94904baca9ae5780c820cc2deb3c06e146905e02c2a3c3abdbbab69490", func := "loop.example/g01128/laws.FnExactHammingOf", spec := "fnExactHammingOf", unfollowed := true, recurses := true, apart := false }
def FnExactHammingOfSaid : Prop := fnExactHammingOfRow.holds Try.pinned (OpenSpec.ofChange fnExactHammingOfSpec)

/-- ITS FALSE NEIGHBOUR: 'it returns false'. Refute it at one input. -/
def fnExactHammingOfWrong : ChangeSpec := { name := "fnExactHammingOf", fn := fun _ => fun
  | [d1, d2] => { results := [.lit (.bool false)], args := [d1, d2] }
  | _ => none }
def FnExactHammingOfWrongFalsely : Prop := fnExactHammingOfRow.holds Try.pinned (OpenSpec.ofChange fnExactHammingOfWrong)

/-- 'laws.FnExactIsFormula': WHATEVER THE INPUT: true; the input reads as it did. -/
def fnExactIsFormulaSpec : ChangeSpec := { name := "fnExactIsFormula", fn := fun _ => fun
  | [d] => { results := [.lit (.bool true)], args := [d] }
  | _ => none }
def fnExactIsFormulaRow : OpenClaim := { program := "ytbnebekejbhopaa", sum := "614d7a94904baca9ae5780c820cc2deb3c06e146905e02c2a3c3abdbbab69490", func := "loop.example/g01128/laws.FnExactIsFormula", spec := "fnExactIsFormula", apart := false }
def FnExactIsFormulaSaid : Prop := fnExactIsFormulaRow.holds Try.pinned (OpenSpec.ofChange fnExactIsFormulaSpec)

/-- ITS FALSE NEIGHBOUR: 'it returns false'. Refute it at one input. -/
def fnExactIsFormulaWrong : ChangeSpec := { name := "fnExactIsFormula", fn := fun _ => fun
  | [d] => { results := [.lit (.bool false)], args := [d] }
  | _ => none }
def FnExactIsFormulaWrongFalsely : Prop := fnExactIsFormulaRow.holds Try.pinned (OpenSpec.ofChange fnExactIsFormulaWrong)

/-- 'laws.FnExactIsParity': WHATEVER THE INPUT: true; the input reads as it did. -/
def fnExactIsParitySpec : ChangeSpec := { name := "fnExactIsParity", fn := fun _ => fun
  | [d] => { results := [.lit (.bool true)], args := [d] }
  | _ => none }
def fnExactIsParityRow : OpenClaim := { program := "ytbnebekejbhopaa", sum := "614d7a94904baca9ae5780c820cc2deb3c06e146905e02c2a3c3abdbbab69490", func := "loop.example/g01128/laws.FnExactIsParity", spec := "fnExactIsParity", unfollowed := true, recurses := true, apart := false }
def FnExactIsParitySaid : Prop := fnExactIsParityRow.holds Try.pinned (OpenSpec.ofChange fnExactIsParitySpec)

/-- ITS FALSE NEIGHBOUR: 'it returns false'. Refute it at one input. -/
def fnExactIsParityWrong : ChangeSpec := { name := "fnExactIsParity", fn := fun _ => fun
  | [d] => { results := [.lit (.bool false)], args := [d] }
  | _ => none }
def FnExactIsParityWrongFalsely : Prop := fnExactIsParityRow.holds Try.pinned (OpenSpec.ofChange fnExactIsParityWrong)

/-- 'laws.FnExactClassOf': WHATEVER THE INPUT: true; the input reads as it did. -/
def fnExactClassOfSpec : ChangeSpec := { name := "fnExactClassOf", fn := fun _ => fun
  | [d] => { results := [.lit (.bool true)], args := [d] }
  | _ => none }
def fnExactClassOfRow : OpenClaim := { program := "ytbnebekejbhopaa", sum := "614d7a94904baca9ae5780c820cc2deb3c06e146905e02c2a3c3abdbbab69490", func := "loop.example/g01128/laws.FnExactClassOf", spec := "fnExactClassOf", apart := false }
def FnExactClassOfSaid : Prop := fnExactClassOfRow.holds Try.pinned (OpenSpec.ofChange fnExactClassOfSpec)

/-- ITS FALSE NEIGHBOUR: 'it returns false'. Refute it at one input. -/
def fnExactClassOfWrong : ChangeSpec := { name := "fnExactClassOf", fn := fun _ => fun
  | [d] => { results := [.lit (.bool false)], args := [d] }
  | _ => none }
def FnExactClassOfWrongFalsely : Prop := fnExactClassOfRow.holds Try.pinned (OpenSpec.ofChange fnExactClassOfWrong)

/-- 'laws.FnExactIsSolution': WHATEVER THE INPUT: true; the input reads as it did. -/
def fnExactIsSolutionSpec : ChangeSpec := { name := "fnExactIsSolution", fn := fun _ => fun
  | [d1, d2] => { results := [.lit (.bool true)], args := [d1, d2] }
  | _ => none }
def fnExactIsSolutionRow : OpenClaim := { program := "ytbnebekejbhopaa", sum := "614d7a94904baca9ae5780c820cc2deb3c06e146905e02c2a3c3abdbbab69490", func := "loop.example/g01128/laws.FnExactIsSolution", spec := "fnExactIsSolution", unfollowed := true, recurses := true, apart := false }
def FnExactIsSolutionSaid : Prop := fnExactIsSolutionRow.holds Try.pinned (OpenSpec.ofChange fnExactIsSolutionSpec)

/-- ITS FALSE NEIGHBOUR: 'it returns false'. Refute it at one input. -/
def fnExactIsSolutionWrong : ChangeSpec := { name := "fnExactIsSolution", fn := fun _ => fun
  | [d1, d2] => { results := [.lit (.bool false)], args := [d1, d2] }
  | _ => none }
def FnExactIsSolutionWrongFalsely : Prop := fnExactIsSolutionRow.holds Try.pinned (OpenSpec.ofChange fnExactIsSolutionWrong)

/-- 'laws.FnExactIsColouring': WHATEVER THE INPUT: true; the input reads as it did. -/
def fnExactIsColouringSpec : ChangeSpec := { name := "fnExactIsColouring", fn := fun _ => fun
  | [d1, d2, d3] => { results := [.lit (.bool true)], args := [d1, d2, d3] }
  | _ => none }
def fnExactIsColouringRow : OpenClaim := { program := "ytbnebekejbhopaa", sum := "614d7a94904baca9ae5780c820cc2deb3c06e146905e02c2a3c3abdbbab69490", func := "loop.example/g01128/laws.FnExactIsColouring", spec := "fnExactIsColouring", unfollowed := true, recurses := true, apart := false }
def FnExactIsColouringSaid : Prop := fnExactIsColouringRow.holds Try.pinned (OpenSpec.ofChange fnExactIsColouringSpec)

/-- ITS FALSE NEIGHBOUR: 'it returns false'. Refute it at one input. -/
def fnExactIsColouringWrong : ChangeSpec := { name := "fnExactIsColouring", fn := fun _ => fun
  | [d1, d2, d3] => { results := [.lit (.bool false)], args := [d1, d2, d3] }
  | _ => none }
def FnExactIsColouringWrongFalsely : Prop := fnExactIsColouringRow.holds Try.pinned (OpenSpec.ofChange fnExactIsColouringWrong)

/-- 'laws.FnExactFixVar': WHATEVER THE INPUT: true; the input reads as it did. -/
def fnExactFixVarSpec : ChangeSpec := { name := "fnExactFixVar", fn := fun _ => fun
  | [d1, d2, d3] => { results := [.lit (.bool true)], args := [d1, d2, d3] }
  | _ => none }
def fnExactFixVarRow : OpenClaim := { program := "ytbnebekejbhopaa", sum := "614d7a94904baca9ae5780c820cc2deb3c06e146905e02c2a3c3abdbbab69490", func := "loop.example/g01128/laws.FnExactFixVar", spec := "fnExactFixVar", apart := false }
def FnExactFixVarSaid : Prop := fnExactFixVarRow.holds Try.pinned (OpenSpec.ofChange fnExactFixVarSpec)

/-- ITS FALSE NEIGHBOUR: 'it returns false'. Refute it at one input. -/
def fnExactFixVarWrong : ChangeSpec := { name := "fnExactFixVar", fn := fun _ => fun
  | [d1, d2, d3] => { results := [.lit (.bool false)], args := [d1, d2, d3] }
  | _ => none }
def FnExactFixVarWrongFalsely : Prop := fnExactFixVarRow.holds Try.pinned (OpenSpec.ofChange fnExactFixVarWrong)

/-- 'laws.FnExactLooseVars': WHATEVER THE INPUT: true; the input reads as it did. -/
def fnExactLooseVarsSpec : ChangeSpec := { name := "fnExactLooseVars", fn := fun _ => fun
  | [d] => { results := [.lit (.bool true)], args := [d] }
  | _ => none }
def fnExactLooseVarsRow : OpenClaim := { program := "ytbnebekejbhopaa", sum := "614d7a94904baca9ae5780c820cc2deb3c06e146905e02c2a3c3abdbbab69490", func := "loop.example/g01128/laws.FnExactLooseVars", spec := "fnExactLooseVars", unfollowed := true, recurses := true, apart := false }
def FnExactLooseVarsSaid : Prop := fnExactLooseVarsRow.holds Try.pinned (OpenSpec.ofChange fnExactLooseVarsSpec)

/-- ITS FALSE NEIGHBOUR: 'it returns false'. Refute it at one input. -/
def fnExactLooseVarsWrong : ChangeSpec := { name := "fnExactLooseVars", fn := fun _ => fun
  | [d] => { results := [.lit (.bool false)], args := [d] }
  | _ => none }
def FnExactLooseVarsWrongFalsely : Prop := fnExactLooseVarsRow.holds Try.pinned (OpenSpec.ofChange fnExactLooseVarsWrong)

/-- 'laws.FnExactFlippableVars': WHATEVER THE INPUT: true; the input reads as it did. -/
def fnExactFlippableVarsSpec : ChangeSpec := { name := "fnExactFlippableVars", fn := fun _ => fun
  | [d1, d2] => { results := [.lit (.bool true)], args := [d1, d2] }
  | _ => none }
def fnExactFlippableVarsRow : OpenClaim := { program := "ytbnebekejbhopaa", sum := "614d7a94904baca9ae5780c820cc2deb3c06e146905e02c2a3c3abdbbab69490", func := "loop.example/g01128/laws.FnExactFlippableVars", spec := "fnExactFlippableVars", unfollowed := true, recurses := true, apart := false }
def FnExactFlippableVarsSaid : Prop := fnExactFlippableVarsRow.holds Try.pinned (OpenSpec.ofChange fnExactFlippableVarsSpec)

/-- ITS FALSE NEIGHBOUR: 'it returns false'. Refute it at one input. -/
def fnExactFlippableVarsWrong : ChangeSpec := { name := "fnExactFlippableVars", fn := fun _ => fun
  | [d1, d2] => { results := [.lit (.bool false)], args := [d1, d2] }
  | _ => none }
def FnExactFlippableVarsWrongFalsely : Prop := fnExactFlippableVarsRow.holds Try.pinned (OpenSpec.ofChange fnExactFlippableVarsWrong)

/-- 'laws.FnExactWindingOf': WHATEVER THE INPUT: true; the input reads as it did. -/
def fnExactWindingOfSpec : ChangeSpec := { name := "fnExactWindingOf", fn := fun _ => fun
  | [d1, d2, d3] => { results := [.lit (.bool true)], args := [d1, d2, d3] }
  | _ => none }
def fnExactWindingOfRow : OpenClaim := { program := "ytbnebekejbhopaa", sum := "614d7a94904baca9ae5780c820cc2deb3c06e146905e02c2a3c3abdbbab69490", func := "loop.example/g01128/laws.FnExactWindingOf", spec := "fnExactWindingOf", unfollowed := true, recurses := true, apart := false }
def FnExactWindingOfSaid : Prop := fnExactWindingOfRow.holds Try.pinned (OpenSpec.ofChange fnExactWindingOfSpec)

/-- ITS FALSE NEIGHBOUR: 'it returns false'. Refute it at one input. -/
def fnExactWindingOfWrong : ChangeSpec := { name := "fnExactWindingOf", fn := fun _ => fun
  | [d1, d2, d3] => { results := [.lit (.bool false)], args := [d1, d2, d3] }
  | _ => none }
def FnExactWindingOfWrongFalsely : Prop := fnExactWindingOfRow.holds Try.pinned (OpenSpec.ofChange fnExactWindingOfWrong)

/-- 'laws.FnExactHighestOf': WHATEVER THE INPUT: true; the input reads as it did. -/
def fnExactHighestOfSpec : ChangeSpec := { name := "fnExactHighestOf", fn := fun _ => fun
  | [d1, d2] => { results := [.lit (.bool true)], args := [d1, d2] }
  | _ => none }
def fnExactHighestOfRow : OpenClaim := { program := "ytbnebekejbhopaa", sum := "614d7a94904baca9ae5780c820cc2deb3c06e146905e02c2a3c3abdbbab69490", func := "loop.example/g01128/laws.FnExactHighestOf", spec := "fnExactHighestOf", unfollowed := true, recurses := true, apart := false }
def FnExactHighestOfSaid : Prop := fnExactHighestOfRow.holds Try.pinned (OpenSpec.ofChange fnExactHighestOfSpec)

/-- ITS FALSE NEIGHBOUR: 'it returns false'. Refute it at one input. -/
def fnExactHighestOfWrong : ChangeSpec := { name := "fnExactHighestOf", fn := fun _ => fun
  | [d1, d2] => { results := [.lit (.bool false)], args := [d1, d2] }
  | _ => none }
def FnExactHighestOfWrongFalsely : Prop := fnExactHighestOfRow.holds Try.pinned (OpenSpec.ofChange fnExactHighestOfWrong)

/-- 'laws.FnExactLowestOf': WHATEVER THE INPUT: true; the input reads as it did. -/
def fnExactLowestOfSpec : ChangeSpec := { name := "fnExactLowestOf", fn := fun _ => fun
  | [d1, d2] => { results := [.lit (.bool true)], args := [d1, d2] }
  | _ => none }
def fnExactLowestOfRow : OpenClaim := { program := "ytbnebekejbhopaa", sum := "614d7a94904baca9ae5780c820cc2deb3c06e146905e02c2a3c3abdbbab69490", func := "loop.example/g01128/laws.FnExactLowestOf", spec := "fnExactLowestOf", unfollowed := true, recurses := true, apart := false }
def FnExactLowestOfSaid : Prop := fnExactLowestOfRow.holds Try.pinned (OpenSpec.ofChange fnExactLowestOfSpec)

/-- ITS FALSE NEIGHBOUR: 'it returns false'. Refute it at one input. -/
def fnExactLowestOfWrong : ChangeSpec := { name := "fnExactLowestOf", fn := fun _ => fun
  | [d1, d2] => { results := [.lit (.bool false)], args := [d1, d2] }
  | _ => none }
def FnExactLowestOfWrongFalsely : Prop := fnExactLowestOfRow.holds Try.pinned (OpenSpec.ofChange fnExactLowestOfWrong)

/- THE SECOND FORM. 'bulk': how many values and letters a reading holds, each counted each time it is reached (what is shared counts as often as it is met; a slice's spare places count too). A statement '..UptoSaid' is the law's where the arguments, and the package variables that the reading takes, are together of bulk at most 1048576: NARROWER than '..Said'. Prove '..Said' where nothing that the law and all that it calls make is longer than what came in: it says more and counts as full. Else prove '..UptoSaid'. A law counts once. -/
mutual
def uptoBulk {H : Type} : DataW H → Nat
  | .lit (.string bytes) => bytes.length + 1
  | .lit _ => 1
  | .nil => 1
  | .ptr d => uptoBulk d + 1
  | .slice elems spare => uptoBulkAll elems + uptoBulkAll spare + 1
  | .agg parts => uptoBulkAll parts + 1
  | .iface _ d => uptoBulk d + 1
  | .map entries => uptoBulkEntries entries + 1
  | .held _ => 1
def uptoBulkAll {H : Type} : List (DataW H) → Nat
  | [] => 0
  | d :: r => uptoBulk d + uptoBulkAll r
def uptoBulkEntries {H : Type} : List (Lit × DataW H) → Nat
  | [] => 0
  | x :: r => uptoBulkEntry x + uptoBulkEntries r
def uptoBulkEntry {H : Type} : Lit × DataW H → Nat
  | (.string bytes, d) => bytes.length + uptoBulk d + 1
  | (_, d) => uptoBulk d + 1
 end
def uptoSmall : (H : Type) → List (DataW H) → Bool := fun _ ds => decide (uptoBulkAll ds ≤ 1048576)
def OpenSpec.upto (s : _root_.Go.ChangeSpec) : _root_.Go.OpenSpec := { _root_.Go.OpenSpec.ofChange s with cond := some uptoSmall }

/-- 'laws.FnExactHammingOf', WHERE WHAT IT READS IS OF BULK AT MOST 1048576: true; the input reads as it did. -/
def fnExactHammingOfUptoRow : OpenClaim := { program := "ytbnebekejbhopaa", sum := "614d7a94904baca9ae5780c820cc2deb3c06e146905e02c2a3c3abdbbab69490", func := "loop.example/g01128/laws.FnExactHammingOf", spec := "fnExactHammingOf", unfollowed := true, recurses := true, apart := false, narrowed := true }
def FnExactHammingOfUptoSaid : Prop := fnExactHammingOfUptoRow.holds Try.pinned (OpenSpec.upto fnExactHammingOfSpec)

/-- 'laws.FnExactIsFormula', WHERE WHAT IT READS IS OF BULK AT MOST 1048576: true; the input reads as it did. -/
def fnExactIsFormulaUptoRow : OpenClaim := { program := "ytbnebekejbhopaa", sum := "614d7a94904baca9ae5780c820cc2deb3c06e146905e02c2a3c3abdbbab69490", func := "loop.example/g01128/laws.FnExactIsFormula", spec := "fnExactIsFormula", apart := false, narrowed := true }
def FnExactIsFormulaUptoSaid : Prop := fnExactIsFormulaUptoRow.holds Try.pinned (OpenSpec.upto fnExactIsFormulaSpec)

/-- 'laws.FnExactIsParity', WHERE WHAT IT READS IS OF BULK AT MOST 1048576: true; the input reads as it did. -/
def fnExactIsParityUptoRow : OpenClaim := { program := "ytbnebekejbhopaa", sum := "614d7a94904baca9ae5780c820cc2deb3c06e146905e02c2a3c3abdbbab69490", func := "loop.example/g01128/laws.FnExactIsParity", spec := "fnExactIsParity", unfollowed := true, recurses := true, apart := false, narrowed := true }
def FnExactIsParityUptoSaid : Prop := fnExactIsParityUptoRow.holds Try.pinned (OpenSpec.upto fnExactIsParitySpec)

/-- 'laws.FnExactClassOf', WHERE WHAT IT READS IS OF BULK AT MOST 1048576: true; the input reads as it did. -/
def fnExactClassOfUptoRow : OpenClaim := { program := "ytbnebekejbhopaa", sum := "614d7a94904baca9ae5780c820cc2deb3c06e146905e02c2a3c3abdbbab69490", func := "loop.example/g01128/laws.FnExactClassOf", spec := "fnExactClassOf", apart := false, narrowed := true }
def FnExactClassOfUptoSaid : Prop := fnExactClassOfUptoRow.holds Try.pinned (OpenSpec.upto fnExactClassOfSpec)

/-- 'laws.FnExactIsSolution', WHERE WHAT IT READS IS OF BULK AT MOST 1048576: true; the input reads as it did. -/
def fnExactIsSolutionUptoRow : OpenClaim := { program := "ytbnebekejbhopaa", sum := "614d7a94904baca9ae5780c820cc2deb3c06e146905e02c2a3c3abdbbab69490", func := "loop.example/g01128/laws.FnExactIsSolution", spec := "fnExactIsSolution", unfollowed := true, recurses := true, apart := false, narrowed := true }
def FnExactIsSolutionUptoSaid : Prop := fnExactIsSolutionUptoRow.holds Try.pinned (OpenSpec.upto fnExactIsSolutionSpec)

/-- 'laws.FnExactIsColouring', WHERE WHAT IT READS IS OF BULK AT MOST 1048576: true; the input reads as it did. -/
def fnExactIsColouringUptoRow : OpenClaim := { program := "ytbnebekejbhopaa", sum := "614d7a94904baca9ae5780c820cc2deb3c06e146905e02c2a3c3abdbbab69490", func := "loop.example/g01128/laws.FnExactIsColouring", spec := "fnExactIsColouring", unfollowed := true, recurses := true, apart := false, narrowed := true }
def FnExactIsColouringUptoSaid : Prop := fnExactIsColouringUptoRow.holds Try.pinned (OpenSpec.upto fnExactIsColouringSpec)

/-- 'laws.FnExactFixVar', WHERE WHAT IT READS IS OF BULK AT MOST 1048576: true; the input reads as it did. -/
def fnExactFixVarUptoRow : OpenClaim := { program := "ytbnebekejbhopaa", sum := "614d7a94904baca9ae5780c820cc2deb3c06e146905e02c2a3c3abdbbab69490", func := "loop.example/g01128/laws.FnExactFixVar", spec := "fnExactFixVar", apart := false, narrowed := true }
def FnExactFixVarUptoSaid : Prop := fnExactFixVarUptoRow.holds Try.pinned (OpenSpec.upto fnExactFixVarSpec)

/-- 'laws.FnExactLooseVars', WHERE WHAT IT READS IS OF BULK AT MOST 1048576: true; the input reads as it did. -/
def fnExactLooseVarsUptoRow : OpenClaim := { program := "ytbnebekejbhopaa", sum := "614d7a94904baca9ae5780c820cc2deb3c06e146905e02c2a3c3abdbbab69490", func := "loop.example/g01128/laws.FnExactLooseVars", spec := "fnExactLooseVars", unfollowed := true, recurses := true, apart := false, narrowed := true }
def FnExactLooseVarsUptoSaid : Prop := fnExactLooseVarsUptoRow.holds Try.pinned (OpenSpec.upto fnExactLooseVarsSpec)

/-- 'laws.FnExactFlippableVars', WHERE WHAT IT READS IS OF BULK AT MOST 1048576: true; the input reads as it did. -/
def fnExactFlippableVarsUptoRow : OpenClaim := { program := "ytbnebekejbhopaa", sum := "614d7a94904baca9ae5780c820cc2deb3c06e146905e02c2a3c3abdbbab69490", func := "loop.example/g01128/laws.FnExactFlippableVars", spec := "fnExactFlippableVars", unfollowed := true, recurses := true, apart := false, narrowed := true }
def FnExactFlippableVarsUptoSaid : Prop := fnExactFlippableVarsUptoRow.holds Try.pinned (OpenSpec.upto fnExactFlippableVarsSpec)

/-- 'laws.FnExactWindingOf', WHERE WHAT IT READS IS OF BULK AT MOST 1048576: true; the input reads as it did. -/
def fnExactWindingOfUptoRow : OpenClaim := { program := "ytbnebekejbhopaa", sum := "614d7a94904baca9ae5780c820cc2deb3c06e146905e02c2a3c3abdbbab69490", func := "loop.example/g01128/laws.FnExactWindingOf", spec := "fnExactWindingOf", unfollowed := true, recurses := true, apart := false, narrowed := true }
def FnExactWindingOfUptoSaid : Prop := fnExactWindingOfUptoRow.holds Try.pinned (OpenSpec.upto fnExactWindingOfSpec)

/-- 'laws.FnExactHighestOf', WHERE WHAT IT READS IS OF BULK AT MOST 1048576: true; the input reads as it did. -/
def fnExactHighestOfUptoRow : OpenClaim := { program := "ytbnebekejbhopaa", sum := "614d7a94904baca9ae5780c820cc2deb3c06e146905e02c2a3c3abdbbab69490", func := "loop.example/g01128/laws.FnExactHighestOf", spec := "fnExactHighestOf", unfollowed := true, recurses := true, apart := false, narrowed := true }
def FnExactHighestOfUptoSaid : Prop := fnExactHighestOfUptoRow.holds Try.pinned (OpenSpec.upto fnExactHighestOfSpec)

/-- 'laws.FnExactLowestOf', WHERE WHAT IT READS IS OF BULK AT MOST 1048576: true; the input reads as it did. -/
def fnExactLowestOfUptoRow : OpenClaim := { program := "ytbnebekejbhopaa", sum := "614d7a94904baca9ae5780c820cc2deb3c06e146905e02c2a3c3abdbbab69490", func := "loop.example/g01128/laws.FnExactLowestOf", spec := "fnExactLowestOf", unfollowed := true, recurses := true, apart := false, narrowed := true }
def FnExactLowestOfUptoSaid : Prop := fnExactLowestOfUptoRow.holds Try.pinned (OpenSpec.upto fnExactLowestOfSpec)

end Rows
end Go.Proofs.Ytbnebekejbhopaa
