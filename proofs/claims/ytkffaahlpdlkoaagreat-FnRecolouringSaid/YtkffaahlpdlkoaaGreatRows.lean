/-
  No cell of these rows narrows 'for every input' (looked for: loops, veiled, ifaces, maps, wideKeys, modest, calm, conditions, laid).
  DERIVED. THE GIVEN ROWS OF THIS SEAT. 3 by the template 'for every input the law returns true; each argument reads behind the call as it read before'; 0 by the template 'total and deterministic' (their statements: YtkffaahlpdlkoaaGreatTotals.lean).
  GIVEN WITH THE SEED: the statements are not yours to turn. If you find one false, say at which input.
  Laid BY PROGRAM, IN A SANDBOX (cutbox-rows.mjs): the forced cells as the released guide's own fill.sh prints them over the translation 417073880e968315… (all of the seat's roots in one cut). By AI agents, Wed Nov 11 2026. No macro, syntax, notation, axiom, sorry.
-/
import Derived.Test.YtkffaahlpdlkoaaGreatChecked
import GoSem.Claim
import GoSem.ClaimJoined
import GoSem.ClaimMapViews
import Derived.JoinedTies
import Derived.KernelRfl
namespace Go.Proofs.YtkffaahlpdlkoaaGreat
/- THE CELL 'sum', in the pinned program and in every row, IS THE sha256 OF THE DUMP (.gsa) THAT YtkffaahlpdlkoaaGreatProg.lean LOADS. Nothing in Lean hashes anything: it is a label: what it is worth is what the hold of that sum in a sandbox is worth. -/
noncomputable def Tryz.pinned : Pinned := { name := "ytkffaahlpdlkoaagreat", sum := "417073880e96831503dc860babb8bc9bf62427a8fe0e2c333017493dbf7092b3", checked := Tryz.checked }
namespace Rows
def none {H : Type} : Left H := { results := [], args := [] }

/-- 'laws.FnWindings': WHATEVER THE INPUT: true; the input reads as it did. -/
def fnWindingsSpec : ChangeSpec := { name := "fnWindings", fn := fun _ => fun
  | [d] => { results := [.lit (.bool true)], args := [d] }
  | _ => none }
def fnWindingsRow : OpenClaim := { program := "ytkffaahlpdlkoaagreat", sum := "417073880e96831503dc860babb8bc9bf62427a8fe0e2c333017493dbf7092b3", func := "loop.example/g01128/laws.FnWindings", spec := "fnWindings", unfollowed := true, recurses := true, apart := false }
def FnWindingsSaid : Prop := fnWindingsRow.holds Tryz.pinned (OpenSpec.ofChange fnWindingsSpec)

/-- ITS FALSE NEIGHBOUR: 'it returns false'. Refute it at one input. -/
def fnWindingsWrong : ChangeSpec := { name := "fnWindings", fn := fun _ => fun
  | [d] => { results := [.lit (.bool false)], args := [d] }
  | _ => none }
def FnWindingsWrongFalsely : Prop := fnWindingsRow.holds Tryz.pinned (OpenSpec.ofChange fnWindingsWrong)

/-- 'laws.FnGreedyColours': WHATEVER THE INPUT: true; the input reads as it did. -/
def fnGreedyColoursSpec : ChangeSpec := { name := "fnGreedyColours", fn := fun _ => fun
  | [d] => { results := [.lit (.bool true)], args := [d] }
  | _ => none }
def fnGreedyColoursRow : OpenClaim := { program := "ytkffaahlpdlkoaagreat", sum := "417073880e96831503dc860babb8bc9bf62427a8fe0e2c333017493dbf7092b3", func := "loop.example/g01128/laws.FnGreedyColours", spec := "fnGreedyColours", unfollowed := true, recurses := true, apart := false }
def FnGreedyColoursSaid : Prop := fnGreedyColoursRow.holds Tryz.pinned (OpenSpec.ofChange fnGreedyColoursSpec)

/-- ITS FALSE NEIGHBOUR: 'it returns false'. Refute it at one input. -/
def fnGreedyColoursWrong : ChangeSpec := { name := "fnGreedyColours", fn := fun _ => fun
  | [d] => { results := [.lit (.bool false)], args := [d] }
  | _ => none }
def FnGreedyColoursWrongFalsely : Prop := fnGreedyColoursRow.holds Tryz.pinned (OpenSpec.ofChange fnGreedyColoursWrong)

/-- 'laws.FnRecolouring': WHATEVER THE INPUT: true; the input reads as it did. -/
def fnRecolouringSpec : ChangeSpec := { name := "fnRecolouring", fn := fun _ => fun
  | [d] => { results := [.lit (.bool true)], args := [d] }
  | _ => none }
def fnRecolouringRow : OpenClaim := { program := "ytkffaahlpdlkoaagreat", sum := "417073880e96831503dc860babb8bc9bf62427a8fe0e2c333017493dbf7092b3", func := "loop.example/g01128/laws.FnRecolouring", spec := "fnRecolouring", unfollowed := true, recurses := true, apart := false }
def FnRecolouringSaid : Prop := fnRecolouringRow.holds Tryz.pinned (OpenSpec.ofChange fnRecolouringSpec)

/-- ITS FALSE NEIGHBOUR: 'it returns false'. Refute it at one input. -/
def fnRecolouringWrong : ChangeSpec := { name := "fnRecolouring", fn := fun _ => fun
  | [d] => { results := [.lit (.bool false)], args := [d] }
  | _ => none }
def FnRecolouringWrongFalsely : Prop := fnRecolouringRow.holds Tryz.pinned (OpenSpec.ofChange fnRecolouringWrong)

/- THE SECOND FORM. 'bulk': how many values and letters a reading holds, each counted each time it is reached (what is shared counts as often as it is met; a slice's spare places count too). A statement '..UptoSaid' is the law's where the arguments, and the package variables that the reading takes, are together of bulk at most 1048576: NARROWER than '..Said'. Prove '..Said' where nothing that the law and all that it calls make is longer than what came in: it says more and counts as full. Else prove '..UptoSaid'. A law counts once. -/
mutual
def uptoBulk {H : Type} : DataW H → Nat
  | .lit (.string bytes) => bytes.length + 1
  | .lit _ => 1
  | .nil => 1
  | .ptr d => uptoBulk d + 1
  | .slice elems spare => uptoBulkAll elems + uptoBulkAll spare + 1
  | .agg parts => uptoBulkAll parts + 1
  | .iface _ d => uptoBulk d + 1
  | .map entries => uptoBulkEntries entries + 1
  | .held _ => 1
def uptoBulkAll {H : Type} : List (DataW H) → Nat
  | [] => 0
  | d :: r => uptoBulk d + uptoBulkAll r
def uptoBulkEntries {H : Type} : List (Lit × DataW H) → Nat
  | [] => 0
  | x :: r => uptoBulkEntry x + uptoBulkEntries r
def uptoBulkEntry {H : Type} : Lit × DataW H → Nat
  | (.string bytes, d) => bytes.length + uptoBulk d + 1
  | (_, d) => uptoBulk d + 1
 end
def uptoSmall : (H : Type) → List (DataW H) → Bool := fun _ ds => decide (uptoBulkAll ds ≤ 1048576)
def OpenSpec.upto (s : _root_.Go.ChangeSpec) : _root_.Go.OpenSpec := { _root_.Go.OpenSpec.ofChange s with cond := some uptoSmall }

/-- 'laws.FnWindings', WHERE WHAT IT READS IS OF BULK AT MOST 1048576: true; the input reads as it did. -/
def fnWindingsUptoRow : OpenClaim := { program := "ytkffaahlpdlkoaagreat", sum := "417073880e96831503dc860babb8bc9bf62427a8fe0e2c333017493dbf7092b3", func := "loop.example/g01128/laws.FnWindings", spec := "fnWindings", unfollowed := true, recurses := true, apart := false, narrowed := true }
def FnWindingsUptoSaid : Prop := fnWindingsUptoRow.holds Tryz.pinned (OpenSpec.upto fnWindingsSpec)

/-- 'laws.FnGreedyColours', WHERE WHAT IT READS IS OF BULK AT MOST 1048576: true; the input reads as it did. -/
def fnGreedyColoursUptoRow : OpenClaim := { program := "ytkffaahlpdlkoaagreat", sum := "417073880e96831503dc860babb8bc9bf62427a8fe0e2c333017493dbf7092b3", func := "loop.example/g01128/laws.FnGreedyColours", spec := "fnGreedyColours", unfollowed := true, recurses := true, apart := false, narrowed := true }
def FnGreedyColoursUptoSaid : Prop := fnGreedyColoursUptoRow.holds Tryz.pinned (OpenSpec.upto fnGreedyColoursSpec)

/-- 'laws.FnRecolouring', WHERE WHAT IT READS IS OF BULK AT MOST 1048576: true; the input reads as it did. -/
def fnRecolouringUptoRow : OpenClaim := { program := "ytkffaahlpdlkoaagreat", sum := "417073880e96831503dc860babb8bc9bf62427a8fe0e2c333017493dbf7092b3", func := "loop.example/g01128/laws.FnRecolouring", spec := "fnRecolouring", unfollowed := true, recurses := true, apart := false, narrowed := true }
def FnRecolouringUptoSaid : Prop := fnRecolouringUptoRow.holds Tryz.pinned (OpenSpec.upto fnRecolouringSpec)

end Rows
end Go.Proofs.YtkffaahlpdlkoaaGreat
