/-
  No cell of these rows narrows 'for every input' (looked for: loops, veiled, ifaces, maps, wideKeys, modest, calm, conditions, laid).
  DERIVED. THE GIVEN ROWS OF THIS SEAT. 8 by the template 'for every input the law returns true; each argument reads behind the call as it read before'; 0 by the template 'total and deterministic' (their statements: YtbnjcjpnpidhmaaGreatTotals.lean).
  GIVEN WITH THE SEED: the statements are not yours to turn. If you find one false, say at which input.
  Laid BY PROGRAM, IN A SANDBOX (cutbox-rows.mjs): the forced cells as the released guide's own fill.sh prints them over the translation 87c1fe9dc2786cd8… (all of the seat's roots in one cut). By AI agents, Wed Nov 11 2026. No macro, syntax, notation, axiom, sorry.
-/
import Derived.Test.YtbnjcjpnpidhmaaGreatChecked
import GoSem.Claim
import GoSem.ClaimJoined
import GoSem.ClaimMapViews
import Derived.JoinedTies
import Derived.KernelRfl
namespace Go.Proofs.YtbnjcjpnpidhmaaGreat
/- THE CELL 'sum', in the pinned program and in every row, IS THE sha256 OF THE DUMP (.gsa) THAT YtbnjcjpnpidhmaaGreatProg.lean LOADS. Nothing in Lean hashes anything: it is a label: what it is worth is what the hold of that sum in a sandbox is worth. -/
noncomputable def Tryz.pinned : Pinned := { name := "ytbnjcjpnpidhmaagreat", sum := "87c1fe9dc2786cd87699f84ef292fbe177c3d4f45b76579e9bddc7ce26f503b3", checked := Tryz.checked }
namespace Rows
def none {H : Type} : Left H := { results := [], args := [] }

/-- 'laws.FnExactThresholdOf': WHATEVER THE INPUT: true; the input reads as it did. -/
def fnExactThresholdOfSpec : ChangeSpec := { name := "fnExactThresholdOf", fn := fun _ => fun
  | [d1, d2, d3, d4] => { results := [.lit (.bool true)], args := [d1, d2, d3, d4] }
  | _ => none }
def fnExactThresholdOfRow : OpenClaim := { program := "ytbnjcjpnpidhmaagreat", sum := "87c1fe9dc2786cd87699f84ef292fbe177c3d4f45b76579e9bddc7ce26f503b3", func := "loop.example/g01128/laws.FnExactThresholdOf", spec := "fnExactThresholdOf", unfollowed := true, recurses := true, apart := false }
def FnExactThresholdOfSaid : Prop := fnExactThresholdOfRow.holds Tryz.pinned (OpenSpec.ofChange fnExactThresholdOfSpec)

/-- ITS FALSE NEIGHBOUR: 'it returns false'. Refute it at one input. -/
def fnExactThresholdOfWrong : ChangeSpec := { name := "fnExactThresholdOf", fn := fun _ => fun
  | [d1, d2, d3, d4] => { results := [.lit (.bool false)], args := [d1, d2, d3, d4] }
  | _ => none }
def FnExactThresholdOfWrongFalsely : Prop := fnExactThresholdOfRow.holds Tryz.pinned (OpenSpec.ofChange fnExactThresholdOfWrong)

/-- 'laws.FnExactThresholdWay': WHATEVER THE INPUT: true; the input reads as it did. -/
def fnExactThresholdWaySpec : ChangeSpec := { name := "fnExactThresholdWay", fn := fun _ => fun
  | [d1, d2, d3, d4] => { results := [.lit (.bool true)], args := [d1, d2, d3, d4] }
  | _ => none }
def fnExactThresholdWayRow : OpenClaim := { program := "ytbnjcjpnpidhmaagreat", sum := "87c1fe9dc2786cd87699f84ef292fbe177c3d4f45b76579e9bddc7ce26f503b3", func := "loop.example/g01128/laws.FnExactThresholdWay", spec := "fnExactThresholdWay", unfollowed := true, recurses := true, apart := false }
def FnExactThresholdWaySaid : Prop := fnExactThresholdWayRow.holds Tryz.pinned (OpenSpec.ofChange fnExactThresholdWaySpec)

/-- ITS FALSE NEIGHBOUR: 'it returns false'. Refute it at one input. -/
def fnExactThresholdWayWrong : ChangeSpec := { name := "fnExactThresholdWay", fn := fun _ => fun
  | [d1, d2, d3, d4] => { results := [.lit (.bool false)], args := [d1, d2, d3, d4] }
  | _ => none }
def FnExactThresholdWayWrongFalsely : Prop := fnExactThresholdWayRow.holds Tryz.pinned (OpenSpec.ofChange fnExactThresholdWayWrong)

/-- 'laws.FnKinds': WHATEVER THE INPUT: true; the input reads as it did. -/
def fnKindsSpec : ChangeSpec := { name := "fnKinds", fn := fun _ => fun
  | [d] => { results := [.lit (.bool true)], args := [d] }
  | _ => none }
def fnKindsRow : OpenClaim := { program := "ytbnjcjpnpidhmaagreat", sum := "87c1fe9dc2786cd87699f84ef292fbe177c3d4f45b76579e9bddc7ce26f503b3", func := "loop.example/g01128/laws.FnKinds", spec := "fnKinds", unfollowed := true, recurses := true, apart := false }
def FnKindsSaid : Prop := fnKindsRow.holds Tryz.pinned (OpenSpec.ofChange fnKindsSpec)

/-- ITS FALSE NEIGHBOUR: 'it returns false'. Refute it at one input. -/
def fnKindsWrong : ChangeSpec := { name := "fnKinds", fn := fun _ => fun
  | [d] => { results := [.lit (.bool false)], args := [d] }
  | _ => none }
def FnKindsWrongFalsely : Prop := fnKindsRow.holds Tryz.pinned (OpenSpec.ofChange fnKindsWrong)

/-- 'laws.FnExchanges': WHATEVER THE INPUT: true; the input reads as it did. -/
def fnExchangesSpec : ChangeSpec := { name := "fnExchanges", fn := fun _ => fun
  | [d] => { results := [.lit (.bool true)], args := [d] }
  | _ => none }
def fnExchangesRow : OpenClaim := { program := "ytbnjcjpnpidhmaagreat", sum := "87c1fe9dc2786cd87699f84ef292fbe177c3d4f45b76579e9bddc7ce26f503b3", func := "loop.example/g01128/laws.FnExchanges", spec := "fnExchanges", unfollowed := true, recurses := true, apart := false }
def FnExchangesSaid : Prop := fnExchangesRow.holds Tryz.pinned (OpenSpec.ofChange fnExchangesSpec)

/-- ITS FALSE NEIGHBOUR: 'it returns false'. Refute it at one input. -/
def fnExchangesWrong : ChangeSpec := { name := "fnExchanges", fn := fun _ => fun
  | [d] => { results := [.lit (.bool false)], args := [d] }
  | _ => none }
def FnExchangesWrongFalsely : Prop := fnExchangesRow.holds Tryz.pinned (OpenSpec.ofChange fnExchangesWrong)

/-- 'laws.FnThresholds': WHATEVER THE INPUT: true; the input reads as it did. -/
def fnThresholdsSpec : ChangeSpec := { name := "fnThresholds", fn := fun _ => fun
  | [d] => { results := [.lit (.bool true)], args := [d] }
  | _ => none }
def fnThresholdsRow : OpenClaim := { program := "ytbnjcjpnpidhmaagreat", sum := "87c1fe9dc2786cd87699f84ef292fbe177c3d4f45b76579e9bddc7ce26f503b3", func := "loop.example/g01128/laws.FnThresholds", spec := "fnThresholds", unfollowed := true, recurses := true, apart := false }
def FnThresholdsSaid : Prop := fnThresholdsRow.holds Tryz.pinned (OpenSpec.ofChange fnThresholdsSpec)

/-- ITS FALSE NEIGHBOUR: 'it returns false'. Refute it at one input. -/
def fnThresholdsWrong : ChangeSpec := { name := "fnThresholds", fn := fun _ => fun
  | [d] => { results := [.lit (.bool false)], args := [d] }
  | _ => none }
def FnThresholdsWrongFalsely : Prop := fnThresholdsRow.holds Tryz.pinned (OpenSpec.ofChange fnThresholdsWrong)

/-- 'laws.FnColourings': WHATEVER THE INPUT: true; the input reads as it did. -/
def fnColouringsSpec : ChangeSpec := { name := "fnColourings", fn := fun _ => fun
  | [d] => { results := [.lit (.bool true)], args := [d] }
  | _ => none }
def fnColouringsRow : OpenClaim := { program := "ytbnjcjpnpidhmaagreat", sum := "87c1fe9dc2786cd87699f84ef292fbe177c3d4f45b76579e9bddc7ce26f503b3", func := "loop.example/g01128/laws.FnColourings", spec := "fnColourings", unfollowed := true, recurses := true, apart := false }
def FnColouringsSaid : Prop := fnColouringsRow.holds Tryz.pinned (OpenSpec.ofChange fnColouringsSpec)

/-- ITS FALSE NEIGHBOUR: 'it returns false'. Refute it at one input. -/
def fnColouringsWrong : ChangeSpec := { name := "fnColourings", fn := fun _ => fun
  | [d] => { results := [.lit (.bool false)], args := [d] }
  | _ => none }
def FnColouringsWrongFalsely : Prop := fnColouringsRow.holds Tryz.pinned (OpenSpec.ofChange fnColouringsWrong)

/-- 'laws.FnFlipWays': WHATEVER THE INPUT: true; the input reads as it did. -/
def fnFlipWaysSpec : ChangeSpec := { name := "fnFlipWays", fn := fun _ => fun
  | [d] => { results := [.lit (.bool true)], args := [d] }
  | _ => none }
def fnFlipWaysRow : OpenClaim := { program := "ytbnjcjpnpidhmaagreat", sum := "87c1fe9dc2786cd87699f84ef292fbe177c3d4f45b76579e9bddc7ce26f503b3", func := "loop.example/g01128/laws.FnFlipWays", spec := "fnFlipWays", unfollowed := true, recurses := true, apart := false }
def FnFlipWaysSaid : Prop := fnFlipWaysRow.holds Tryz.pinned (OpenSpec.ofChange fnFlipWaysSpec)

/-- ITS FALSE NEIGHBOUR: 'it returns false'. Refute it at one input. -/
def fnFlipWaysWrong : ChangeSpec := { name := "fnFlipWays", fn := fun _ => fun
  | [d] => { results := [.lit (.bool false)], args := [d] }
  | _ => none }
def FnFlipWaysWrongFalsely : Prop := fnFlipWaysRow.holds Tryz.pinned (OpenSpec.ofChange fnFlipWaysWrong)

/-- 'laws.FnRecolouring': WHATEVER THE INPUT: true; the input reads as it did. -/
def fnRecolouringSpec : ChangeSpec := { name := "fnRecolouring", fn := fun _ => fun
  | [d] => { results := [.lit (.bool true)], args := [d] }
  | _ => none }
def fnRecolouringRow : OpenClaim := { program := "ytbnjcjpnpidhmaagreat", sum := "87c1fe9dc2786cd87699f84ef292fbe177c3d4f45b76579e9bddc7ce26f503b3", func := "loop.example/g01128/laws.FnRecolouring", spec := "fnRecolouring", unfollowed := true, recurses := true, apart := false }
def FnRecolouringSaid : Prop := fnRecolouringRow.holds Tryz.pinned (OpenSpec.ofChange fnRecolouringSpec)

/-- ITS FALSE NEIGHBOUR: 'it returns false'. Refute it at one input. -/
def fnRecolouringWrong : ChangeSpec := { name := "fnRecolouring", fn := fun _ => fun
  | [d] => { results := [.lit (.bool false)], args := [d] }
  | _ => none }
def FnRecolouringWrongFalsely : Prop := fnRecolouringRow.holds Tryz.pinned (OpenSpec.ofChange fnRecolouringWrong)

/- THE SECOND FORM. 'bulk': how many values and letters a reading holds, each counted each time it is reached (what is shared counts as often as it is met; a slice's spare places count too). A statement '..UptoSaid' is the law's where the arguments, and the package variables that the reading takes, are together of bulk at most 1048576: NARROWER than '..Said'. Prove '..Said' where nothing that the law and all that it calls make is longer than what came in: it says more and counts as full. Else prove '..UptoSaid'. A law counts once. -/
mutual
def uptoBulk {H : Type} : DataW H → Nat
  | .lit (.string bytes) => bytes.length + 1
  | .lit _ => 1
  | .nil => 1
  | .ptr d => uptoBulk d + 1
  | .slice elems spare => uptoBulkAll elems + uptoBulkAll spare + 1
  | .agg parts => uptoBulkAll parts + 1
  | .iface _ d => uptoBulk d + 1
  | .map entries => uptoBulkEntries entries + 1
  | .held _ => 1
def uptoBulkAll {H : Type} : List (DataW H) → Nat
  | [] => 0
  | d :: r => uptoBulk d + uptoBulkAll r
def uptoBulkEntries {H : Type} : List (Lit × DataW H) → Nat
  | [] => 0
  | x :: r => uptoBulkEntry x + uptoBulkEntries r
def uptoBulkEntry {H : Type} : Lit × DataW H → Nat
  | (.string bytes, d) => bytes.length + uptoBulk d + 1
  | (_, d) => uptoBulk d + 1
 end
def uptoSmall : (H : Type) → List (DataW H) → Bool := fun _ ds => decide (uptoBulkAll ds ≤ 1048576)
def OpenSpec.upto (s : _root_.Go.ChangeSpec) : _root_.Go.OpenSpec := { _root_.Go.OpenSpec.ofChange s with cond := some uptoSmall }

/-- 'laws.FnExactThresholdOf', WHERE WHAT IT READS IS OF BULK AT MOST 1048576: true; the input reads as it did. -/
def fnExactThresholdOfUptoRow : OpenClaim := { program := "ytbnjcjpnpidhmaagreat", sum := "87c1fe9dc2786cd87699f84ef292fbe177c3d4f45b76579e9bddc7ce26f503b3", func := "loop.example/g01128/laws.FnExactThresholdOf", spec := "fnExactThresholdOf", unfollowed := true, recurses := true, apart := false, narrowed := true }
def FnExactThresholdOfUptoSaid : Prop := fnExactThresholdOfUptoRow.holds Tryz.pinned (OpenSpec.upto fnExactThresholdOfSpec)

/-- 'laws.FnExactThresholdWay', WHERE WHAT IT READS IS OF BULK AT MOST 1048576: true; the input reads as it did. -/
def fnExactThresholdWayUptoRow : OpenClaim := { program := "ytbnjcjpnpidhmaagreat", sum := "87c1fe9dc2786cd87699f84ef292fbe177c3d4f45b76579e9bddc7ce26f503b3", func := "loop.example/g01128/laws.FnExactThresholdWay", spec := "fnExactThresholdWay", unfollowed := true, recurses := true, apart := false, narrowed := true }
def FnExactThresholdWayUptoSaid : Prop := fnExactThresholdWayUptoRow.holds Tryz.pinned (OpenSpec.upto fnExactThresholdWaySpec)

/-- 'laws.FnKinds', WHERE WHAT IT READS IS OF BULK AT MOST 1048576: true; the input reads as it did. -/
def fnKindsUptoRow : OpenClaim := { program := "ytbnjcjpnpidhmaagreat", sum := "87c1fe9dc2786cd87699f84ef292fbe177c3d4f45b76579e9bddc7ce26f503b3", func := "loop.example/g01128/laws.FnKinds", spec := "fnKinds", unfollowed := true, recurses := true, apart := false, narrowed := true }
def FnKindsUptoSaid : Prop := fnKindsUptoRow.holds Tryz.pinned (OpenSpec.upto fnKindsSpec)

/-- 'laws.FnExchanges', WHERE WHAT IT READS IS OF BULK AT MOST 1048576: true; the input reads as it did. -/
def fnExchangesUptoRow : OpenClaim := { program := "ytbnjcjpnpidhmaagreat", sum := "87c1fe9dc2786cd87699f84ef292fbe177c3d4f45b76579e9bddc7ce26f503b3", func := "loop.example/g01128/laws.FnExchanges", spec := "fnExchanges", unfollowed := true, recurses := true, apart := false, narrowed := true }
def FnExchangesUptoSaid : Prop := fnExchangesUptoRow.holds Tryz.pinned (OpenSpec.upto fnExchangesSpec)

/-- 'laws.FnThresholds', WHERE WHAT IT READS IS OF BULK AT MOST 1048576: true; the input reads as it did. -/
def fnThresholdsUptoRow : OpenClaim := { program := "ytbnjcjpnpidhmaagreat", sum := "87c1fe9dc2786cd87699f84ef292fbe177c3d4f45b76579e9bddc7ce26f503b3", func := "loop.example/g01128/laws.FnThresholds", spec := "fnThresholds", unfollowed := true, recurses := true, apart := false, narrowed := true }
def FnThresholdsUptoSaid : Prop := fnThresholdsUptoRow.holds Tryz.pinned (OpenSpec.upto fnThresholdsSpec)

/-- 'laws.FnColourings', WHERE WHAT IT READS IS OF BULK AT MOST 1048576: true; the input reads as it did. -/
def fnColouringsUptoRow : OpenClaim := { program := "ytbnjcjpnpidhmaagreat", sum := "87c1fe9dc2786cd87699f84ef292fbe177c3d4f45b76579e9bddc7ce26f503b3", func := "loop.example/g01128/laws.FnColourings", spec := "fnColourings", unfollowed := true, recurses := true, apart := false, narrowed := true }
def FnColouringsUptoSaid : Prop := fnColouringsUptoRow.holds Tryz.pinned (OpenSpec.upto fnColouringsSpec)

/-- 'laws.FnFlipWays', WHERE WHAT IT READS IS OF BULK AT MOST 1048576: true; the input reads as it did. -/
def fnFlipWaysUptoRow : OpenClaim := { program := "ytbnjcjpnpidhmaagreat", sum := "87c1fe9dc2786cd87699f84ef292fbe177c3d4f45b76579e9bddc7ce26f503b3", func := "loop.example/g01128/laws.FnFlipWays", spec := "fnFlipWays", unfollowed := true, recurses := true, apart := false, narrowed := true }
def FnFlipWaysUptoSaid : Prop := fnFlipWaysUptoRow.holds Tryz.pinned (OpenSpec.upto fnFlipWaysSpec)

/-- 'laws.FnRecolouring', WHERE WHAT IT READS IS OF BULK AT MOST 1048576: true; the input reads as it did. -/
def fnRecolouringUptoRow : OpenClaim := { program := "ytbnjcjpnpidhmaagreat", sum := "87c1fe9dc2786cd87699f84ef292fbe177c3d4f45b76579e9bddc7ce26f503b3", func := "loop.example/g01128/laws.FnRecolouring", spec := "fnRecolouring", unfollowed := true, recurses := true, apart := false, narrowed := true }
def FnRecolouringUptoSaid : Prop := fnRecolouringUptoRow.holds Tryz.pinned (OpenSpec.upto fnRecolouringSpec)

end Rows
end Go.Proofs.YtbnjcjpnpidhmaaGreat
