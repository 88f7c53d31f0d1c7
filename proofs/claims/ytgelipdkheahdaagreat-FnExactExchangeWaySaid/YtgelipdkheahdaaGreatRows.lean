/-
  No cell of these rows narrows 'for every input' (looked for: loops, veiled, ifaces, maps, wideKeys, modest, calm, conditions, laid).
  DERIVED. THE GIVEN ROWS OF THIS SEAT. 6 by the template 'for every input the law returns true; each argument reads behind the call as it read before'; 0 by the template 'total and deterministic' (their statements: YtgelipdkheahdaaGreatTotals.lean).
  GIVEN WITH THE SEED: the statements are not yours to turn. If you find one false, say at which input.
  Laid BY PROGRAM, IN A SANDBOX (cutbox-rows.mjs): the forced cells as the released guide's own fill.sh prints them over the translation e539718e962d923f… (all of the seat's roots in one cut). By AI agents, Wed Nov 11 2026. No macro, syntax, notation, axiom, sorry.
-/
import Derived.Test.YtgelipdkheahdaaGreatChecked
import GoSem.Claim
import GoSem.ClaimJoined
import GoSem.ClaimMapViews
import Derived.JoinedTies
import Derived.KernelRfl
namespace Go.Proofs.YtgelipdkheahdaaGreat
/- THE CELL 'sum', in the pinned program and in every row, IS THE sha256 OF THE DUMP (.gsa) THAT YtgelipdkheahdaaGreatProg.lean LOADS. Nothing in Lean hashes anything: it is a label: what it is worth is what the hold of that sum in a sandbox is worth. -/
noncomputable def Tryz.pinned : Pinned := { name := "ytgelipdkheahdaagreat", sum := "e539718e962d923fcde28f84f5a4f8822598f27fbfce5f80467835eb86af3034", checked := Tryz.checked }
namespace Rows
def none {H : Type} : Left H := { results := [], args := [] }

/-- 'laws.FnExactKempeSpace': WHATEVER THE INPUT: true; the input reads as it did. -/
def fnExactKempeSpaceSpec : ChangeSpec := { name := "fnExactKempeSpace", fn := fun _ => fun
  | [d1, d2] => { results := [.lit (.bool true)], args := [d1, d2] }
  | _ => none }
def fnExactKempeSpaceRow : OpenClaim := { program := "ytgelipdkheahdaagreat", sum := "e539718e962d923fcde28f84f5a4f8822598f27fbfce5f80467835eb86af3034", func := "loop.example/g01128/laws.FnExactKempeSpace", spec := "fnExactKempeSpace", unfollowed := true, recurses := true, apart := false }
def FnExactKempeSpaceSaid : Prop := fnExactKempeSpaceRow.holds Tryz.pinned (OpenSpec.ofChange fnExactKempeSpaceSpec)

/-- ITS FALSE NEIGHBOUR: 'it returns false'. Refute it at one input. -/
def fnExactKempeSpaceWrong : ChangeSpec := { name := "fnExactKempeSpace", fn := fun _ => fun
  | [d1, d2] => { results := [.lit (.bool false)], args := [d1, d2] }
  | _ => none }
def FnExactKempeSpaceWrongFalsely : Prop := fnExactKempeSpaceRow.holds Tryz.pinned (OpenSpec.ofChange fnExactKempeSpaceWrong)

/-- 'laws.FnExactFlipWay': WHATEVER THE INPUT: true; the input reads as it did. -/
def fnExactFlipWaySpec : ChangeSpec := { name := "fnExactFlipWay", fn := fun _ => fun
  | [d1, d2, d3] => { results := [.lit (.bool true)], args := [d1, d2, d3] }
  | _ => none }
def fnExactFlipWayRow : OpenClaim := { program := "ytgelipdkheahdaagreat", sum := "e539718e962d923fcde28f84f5a4f8822598f27fbfce5f80467835eb86af3034", func := "loop.example/g01128/laws.FnExactFlipWay", spec := "fnExactFlipWay", unfollowed := true, recurses := true, apart := false }
def FnExactFlipWaySaid : Prop := fnExactFlipWayRow.holds Tryz.pinned (OpenSpec.ofChange fnExactFlipWaySpec)

/-- ITS FALSE NEIGHBOUR: 'it returns false'. Refute it at one input. -/
def fnExactFlipWayWrong : ChangeSpec := { name := "fnExactFlipWay", fn := fun _ => fun
  | [d1, d2, d3] => { results := [.lit (.bool false)], args := [d1, d2, d3] }
  | _ => none }
def FnExactFlipWayWrongFalsely : Prop := fnExactFlipWayRow.holds Tryz.pinned (OpenSpec.ofChange fnExactFlipWayWrong)

/-- 'laws.FnExactFixedNodes': WHATEVER THE INPUT: true; the input reads as it did. -/
def fnExactFixedNodesSpec : ChangeSpec := { name := "fnExactFixedNodes", fn := fun _ => fun
  | [d1, d2, d3] => { results := [.lit (.bool true)], args := [d1, d2, d3] }
  | _ => none }
def fnExactFixedNodesRow : OpenClaim := { program := "ytgelipdkheahdaagreat", sum := "e539718e962d923fcde28f84f5a4f8822598f27fbfce5f80467835eb86af3034", func := "loop.example/g01128/laws.FnExactFixedNodes", spec := "fnExactFixedNodes", unfollowed := true, recurses := true, apart := false }
def FnExactFixedNodesSaid : Prop := fnExactFixedNodesRow.holds Tryz.pinned (OpenSpec.ofChange fnExactFixedNodesSpec)

/-- ITS FALSE NEIGHBOUR: 'it returns false'. Refute it at one input. -/
def fnExactFixedNodesWrong : ChangeSpec := { name := "fnExactFixedNodes", fn := fun _ => fun
  | [d1, d2, d3] => { results := [.lit (.bool false)], args := [d1, d2, d3] }
  | _ => none }
def FnExactFixedNodesWrongFalsely : Prop := fnExactFixedNodesRow.holds Tryz.pinned (OpenSpec.ofChange fnExactFixedNodesWrong)

/-- 'laws.FnExactRecolourWalk': WHATEVER THE INPUT: true; the input reads as it did. -/
def fnExactRecolourWalkSpec : ChangeSpec := { name := "fnExactRecolourWalk", fn := fun _ => fun
  | [d1, d2, d3, d4] => { results := [.lit (.bool true)], args := [d1, d2, d3, d4] }
  | _ => none }
def fnExactRecolourWalkRow : OpenClaim := { program := "ytgelipdkheahdaagreat", sum := "e539718e962d923fcde28f84f5a4f8822598f27fbfce5f80467835eb86af3034", func := "loop.example/g01128/laws.FnExactRecolourWalk", spec := "fnExactRecolourWalk", unfollowed := true, recurses := true, apart := false }
def FnExactRecolourWalkSaid : Prop := fnExactRecolourWalkRow.holds Tryz.pinned (OpenSpec.ofChange fnExactRecolourWalkSpec)

/-- ITS FALSE NEIGHBOUR: 'it returns false'. Refute it at one input. -/
def fnExactRecolourWalkWrong : ChangeSpec := { name := "fnExactRecolourWalk", fn := fun _ => fun
  | [d1, d2, d3, d4] => { results := [.lit (.bool false)], args := [d1, d2, d3, d4] }
  | _ => none }
def FnExactRecolourWalkWrongFalsely : Prop := fnExactRecolourWalkRow.holds Tryz.pinned (OpenSpec.ofChange fnExactRecolourWalkWrong)

/-- 'laws.FnExactKempeWalk': WHATEVER THE INPUT: true; the input reads as it did. -/
def fnExactKempeWalkSpec : ChangeSpec := { name := "fnExactKempeWalk", fn := fun _ => fun
  | [d1, d2, d3, d4] => { results := [.lit (.bool true)], args := [d1, d2, d3, d4] }
  | _ => none }
def fnExactKempeWalkRow : OpenClaim := { program := "ytgelipdkheahdaagreat", sum := "e539718e962d923fcde28f84f5a4f8822598f27fbfce5f80467835eb86af3034", func := "loop.example/g01128/laws.FnExactKempeWalk", spec := "fnExactKempeWalk", unfollowed := true, recurses := true, apart := false }
def FnExactKempeWalkSaid : Prop := fnExactKempeWalkRow.holds Tryz.pinned (OpenSpec.ofChange fnExactKempeWalkSpec)

/-- ITS FALSE NEIGHBOUR: 'it returns false'. Refute it at one input. -/
def fnExactKempeWalkWrong : ChangeSpec := { name := "fnExactKempeWalk", fn := fun _ => fun
  | [d1, d2, d3, d4] => { results := [.lit (.bool false)], args := [d1, d2, d3, d4] }
  | _ => none }
def FnExactKempeWalkWrongFalsely : Prop := fnExactKempeWalkRow.holds Tryz.pinned (OpenSpec.ofChange fnExactKempeWalkWrong)

/-- 'laws.FnExactExchangeWay': WHATEVER THE INPUT: true; the input reads as it did. -/
def fnExactExchangeWaySpec : ChangeSpec := { name := "fnExactExchangeWay", fn := fun _ => fun
  | [d1, d2, d3, d4] => { results := [.lit (.bool true)], args := [d1, d2, d3, d4] }
  | _ => none }
def fnExactExchangeWayRow : OpenClaim := { program := "ytgelipdkheahdaagreat", sum := "e539718e962d923fcde28f84f5a4f8822598f27fbfce5f80467835eb86af3034", func := "loop.example/g01128/laws.FnExactExchangeWay", spec := "fnExactExchangeWay", unfollowed := true, recurses := true, apart := false }
def FnExactExchangeWaySaid : Prop := fnExactExchangeWayRow.holds Tryz.pinned (OpenSpec.ofChange fnExactExchangeWaySpec)

/-- ITS FALSE NEIGHBOUR: 'it returns false'. Refute it at one input. -/
def fnExactExchangeWayWrong : ChangeSpec := { name := "fnExactExchangeWay", fn := fun _ => fun
  | [d1, d2, d3, d4] => { results := [.lit (.bool false)], args := [d1, d2, d3, d4] }
  | _ => none }
def FnExactExchangeWayWrongFalsely : Prop := fnExactExchangeWayRow.holds Tryz.pinned (OpenSpec.ofChange fnExactExchangeWayWrong)

/- THE SECOND FORM. 'bulk': how many values and letters a reading holds, each counted each time it is reached (what is shared counts as often as it is met; a slice's spare places count too). A statement '..UptoSaid' is the law's where the arguments, and the package variables that the reading takes, are together of bulk at most 1048576: NARROWER than '..Said'. Prove '..Said' where nothing that the law and all that it calls make is longer than what came in: it says more and counts as full. Else prove '..UptoSaid'. A law counts once. -/
mutual
def uptoBulk {H : Type} : DataW H → Nat
  | .lit (.string bytes) => bytes.length + 1
  | .lit _ => 1
  | .nil => 1
  | .ptr d => uptoBulk d + 1
  | .slice elems spare => uptoBulkAll elems + uptoBulkAll spare + 1
  | .agg parts => uptoBulkAll parts + 1
  | .iface _ d => uptoBulk d + 1
  | .map entries => uptoBulkEntries entries + 1
  | .held _ => 1
def uptoBulkAll {H : Type} : List (DataW H) → Nat
  | [] => 0
  | d :: r => uptoBulk d + uptoBulkAll r
def uptoBulkEntries {H : Type} : List (Lit × DataW H) → Nat
  | [] => 0
  | x :: r => uptoBulkEntry x + uptoBulkEntries r
def uptoBulkEntry {H : Type} : Lit × DataW H → Nat
  | (.string bytes, d) => bytes.length + uptoBulk d + 1
  | (_, d) => uptoBulk d + 1
 end
def uptoSmall : (H : Type) → List (DataW H) → Bool := fun _ ds => decide (uptoBulkAll ds ≤ 1048576)
def OpenSpec.upto (s : _root_.Go.ChangeSpec) : _root_.Go.OpenSpec := { _root_.Go.OpenSpec.ofChange s with cond := some uptoSmall }

/-- 'laws.FnExactKempeSpace', WHERE WHAT IT READS IS OF BULK AT MOST 1048576: true; the input reads as it did. -/
def fnExactKempeSpaceUptoRow : OpenClaim := { program := "ytgelipdkheahdaagreat", sum := "e539718e962d923fcde28f84f5a4f8822598f27fbfce5f80467835eb86af3034", func := "loop.example/g01128/laws.FnExactKempeSpace", spec := "fnExactKempeSpace", unfollowed := true, recurses := true, apart := false, narrowed := true }
def FnExactKempeSpaceUptoSaid : Prop := fnExactKempeSpaceUptoRow.holds Tryz.pinned (OpenSpec.upto fnExactKempeSpaceSpec)

/-- 'laws.FnExactFlipWay', WHERE WHAT IT READS IS OF BULK AT MOST 1048576: true; the input reads as it did. -/
def fnExactFlipWayUptoRow : OpenClaim := { program := "ytgelipdkheahdaagreat", sum := "e539718e962d923fcde28f84f5a4f8822598f27fbfce5f80467835eb86af3034", func := "loop.example/g01128/laws.FnExactFlipWay", spec := "fnExactFlipWay", unfollowed := true, recurses := true, apart := false, narrowed := true }
def FnExactFlipWayUptoSaid : Prop := fnExactFlipWayUptoRow.holds Tryz.pinned (OpenSpec.upto fnExactFlipWaySpec)

/-- 'laws.FnExactFixedNodes', WHERE WHAT IT READS IS OF BULK AT MOST 1048576: true; the input reads as it did. -/
def fnExactFixedNodesUptoRow : OpenClaim := { program := "ytgelipdkheahdaagreat", sum := "e539718e962d923fcde28f84f5a4f8822598f27fbfce5f80467835eb86af3034", func := "loop.example/g01128/laws.FnExactFixedNodes", spec := "fnExactFixedNodes", unfollowed := true, recurses := true, apart := false, narrowed := true }
def FnExactFixedNodesUptoSaid : Prop := fnExactFixedNodesUptoRow.holds Tryz.pinned (OpenSpec.upto fnExactFixedNodesSpec)

/-- 'laws.FnExactRecolourWalk', WHERE WHAT IT READS IS OF BULK AT MOST 1048576: true; the input reads as it did. -/
def fnExactRecolourWalkUptoRow : OpenClaim := { program := "ytgelipdkheahdaagreat", sum := "e539718e962d923fcde28f84f5a4f8822598f27fbfce5f80467835eb86af3034", func := "loop.example/g01128/laws.FnExactRecolourWalk", spec := "fnExactRecolourWalk", unfollowed := true, recurses := true, apart := false, narrowed := true }
def FnExactRecolourWalkUptoSaid : Prop := fnExactRecolourWalkUptoRow.holds Tryz.pinned (OpenSpec.upto fnExactRecolourWalkSpec)

/-- 'laws.FnExactKempeWalk', WHERE WHAT IT READS IS OF BULK AT MOST 1048576: true; the input reads as it did. -/
def fnExactKempeWalkUptoRow : OpenClaim := { program := "ytgelipdkheahdaagreat", sum := "e539718e962d923fcde28f84f5a4f8822598f27fbfce5f80467835eb86af3034", func := "loop.example/g01128/laws.FnExactKempeWalk", spec := "fnExactKempeWalk", unfollowed := true, recurses := true, apart := false, narrowed := true }
def FnExactKempeWalkUptoSaid : Prop := fnExactKempeWalkUptoRow.holds Tryz.pinned (OpenSpec.upto fnExactKempeWalkSpec)

/-- 'laws.FnExactExchangeWay', WHERE WHAT IT READS IS OF BULK AT MOST 1048576: true; the input reads as it did. -/
def fnExactExchangeWayUptoRow : OpenClaim := { program := "ytgelipdkheahdaagreat", sum := "e539718e962d923fcde28f84f5a4f8822598f27fbfce5f80467835eb86af3034", func := "loop.example/g01128/laws.FnExactExchangeWay", spec := "fnExactExchangeWay", unfollowed := true, recurses := true, apart := false, narrowed := true }
def FnExactExchangeWayUptoSaid : Prop := fnExactExchangeWayUptoRow.holds Tryz.pinned (OpenSpec.upto fnExactExchangeWaySpec)

end Rows
end Go.Proofs.YtgelipdkheahdaaGreat
