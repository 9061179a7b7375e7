/-
  No cell of these rows narrows 'for every input' (looked for: loops, veiled, ifaces, maps, wideKeys, modest, calm, conditions, laid).
  DERIVED. THE GIVEN ROWS OF THIS SEAT. 12 by the template 'for every input the law returns true; each argument reads behind the call as it read before'; 0 by the template 'total and deterministic' (their statements: YtgnlfhggebijcaaTotals.lean).
  GIVEN WITH THE SEED: the statements are not yours to turn. If you find one false, say at which input.
  Laid BY PROGRAM, IN A SANDBOX (cutbox-rows.mjs): the forced cells as the released guide's own fill.sh prints them over the translation 9f36098cbde215e0… (all of the seat's roots in one cut). By AI agents, Wed Nov 11 2026. No macro, syntax, notation, axiom, sorry.
-/
import Derived.Test.YtgnlfhggebijcaaChecked
import GoSem.Claim
import GoSem.ClaimJoined
import GoSem.ClaimMapViews
import Derived.JoinedTies
import Derived.KernelRfl
namespace Go.Proofs.Ytgnlfhggebijcaa
/- THE CELL 'sum', in the pinned program and in every row, IS THE sha256 OF THE DUMP (.gsa) THAT YtgnlfhggebijcaaProg.lean LOADS. Nothing in Lean hashes anything: it is a label: what it is worth is what the hold of that sum in a sandbox is worth. -/
noncomputable def Try.pinned : Pinned := { name := "ytgnlfhggebijcaa", sum := "9f36098cbde215e0ee54d472f931d35c55661d6434c338cec5debab5a00b32ee", checked := Try.checked }
namespace Rows
def none {H : Type} : Left H := { results := [], args := [] }

/-- 'laws.FnExactDistancesFrom': WHATEVER THE INPUT: true; the input reads as it did. -/
def fnExactDistancesFromSpec : ChangeSpec := { name := "fnExactDistancesFrom", fn := fun _ => fun
  | [d1, d2] => { results := [.lit (.bool true)], args := [d1, d2] }
  | _ => none }
def fnExactDistancesFromRow : OpenClaim := { program := "ytgnlfhggebijcaa", sum := "9f36098cbde215e0ee54d472f931d35c55661d6434c338cec5debab5a00b32ee", func := "loop.example/g01084/laws.FnExactDistancesFrom", spec := "fnExactDistancesFrom", unfollowed := true, recurses := true, apart := false }
def FnExactDistancesFromSaid : Prop := fnExactDistancesFromRow.holds Try.pinned (OpenSpec.ofChange fnExactDistancesFromSpec)

/-- ITS FALSE NEIGHBOUR: 'it returns false'. Refute it at one input. -/
def fnExactDistancesFromWrong : ChangeSpec := { name := "fnExactDistancesFrom", fn := fun _ => fun
  | [d1, d2] => { results := [.lit (.bool false)], args := [d1, d2] }
  | _ => none }
def FnExactDistancesFromWrongFalsely : Prop := fnExactDistancesFromRow.holds Try.pinned (OpenSpec.ofChange fnExactDistancesFromWrong)

/-- 'laws.FnExactBallOf': WHATEVER THE INPUT: true; the input reads as it did. -/
def fnExactBallOfSpec : ChangeSpec := { name := "fnExactBallOf", fn := fun _ => fun
  | [d1, d2, d3] => { results := [.lit (.bool true)], args := [d1, d2, d3] }
  | _ => none }
def fnExactBallOfRow : OpenClaim := { program := "ytgnlfhggebijcaa", sum := "9f36098cbde215e0ee54d472f931d35c55661d6434c338cec5debab5a00b32ee", func := "loop.example/g01084/laws.FnExactBallOf", spec := "fnExactBallOf", unfollowed := true, recurses := true, apart := false }
def FnExactBallOfSaid : Prop := fnExactBallOfRow.holds Try.pinned (OpenSpec.ofChange fnExactBallOfSpec)

/-- ITS FALSE NEIGHBOUR: 'it returns false'. Refute it at one input. -/
def fnExactBallOfWrong : ChangeSpec := { name := "fnExactBallOf", fn := fun _ => fun
  | [d1, d2, d3] => { results := [.lit (.bool false)], args := [d1, d2, d3] }
  | _ => none }
def FnExactBallOfWrongFalsely : Prop := fnExactBallOfRow.holds Try.pinned (OpenSpec.ofChange fnExactBallOfWrong)

/-- 'laws.FnExactShellSizes': WHATEVER THE INPUT: true; the input reads as it did. -/
def fnExactShellSizesSpec : ChangeSpec := { name := "fnExactShellSizes", fn := fun _ => fun
  | [d1, d2] => { results := [.lit (.bool true)], args := [d1, d2] }
  | _ => none }
def fnExactShellSizesRow : OpenClaim := { program := "ytgnlfhggebijcaa", sum := "9f36098cbde215e0ee54d472f931d35c55661d6434c338cec5debab5a00b32ee", func := "loop.example/g01084/laws.FnExactShellSizes", spec := "fnExactShellSizes", unfollowed := true, recurses := true, apart := false }
def FnExactShellSizesSaid : Prop := fnExactShellSizesRow.holds Try.pinned (OpenSpec.ofChange fnExactShellSizesSpec)

/-- ITS FALSE NEIGHBOUR: 'it returns false'. Refute it at one input. -/
def fnExactShellSizesWrong : ChangeSpec := { name := "fnExactShellSizes", fn := fun _ => fun
  | [d1, d2] => { results := [.lit (.bool false)], args := [d1, d2] }
  | _ => none }
def FnExactShellSizesWrongFalsely : Prop := fnExactShellSizesRow.holds Try.pinned (OpenSpec.ofChange fnExactShellSizesWrong)

/-- 'laws.FnExactComponentsOf': WHATEVER THE INPUT: true; the input reads as it did. -/
def fnExactComponentsOfSpec : ChangeSpec := { name := "fnExactComponentsOf", fn := fun _ => fun
  | [d] => { results := [.lit (.bool true)], args := [d] }
  | _ => none }
def fnExactComponentsOfRow : OpenClaim := { program := "ytgnlfhggebijcaa", sum := "9f36098cbde215e0ee54d472f931d35c55661d6434c338cec5debab5a00b32ee", func := "loop.example/g01084/laws.FnExactComponentsOf", spec := "fnExactComponentsOf", unfollowed := true, recurses := true, apart := false }
def FnExactComponentsOfSaid : Prop := fnExactComponentsOfRow.holds Try.pinned (OpenSpec.ofChange fnExactComponentsOfSpec)

/-- ITS FALSE NEIGHBOUR: 'it returns false'. Refute it at one input. -/
def fnExactComponentsOfWrong : ChangeSpec := { name := "fnExactComponentsOf", fn := fun _ => fun
  | [d] => { results := [.lit (.bool false)], args := [d] }
  | _ => none }
def FnExactComponentsOfWrongFalsely : Prop := fnExactComponentsOfRow.holds Try.pinned (OpenSpec.ofChange fnExactComponentsOfWrong)

/-- 'laws.FnExactCentresOf': WHATEVER THE INPUT: true; the input reads as it did. -/
def fnExactCentresOfSpec : ChangeSpec := { name := "fnExactCentresOf", fn := fun _ => fun
  | [d] => { results := [.lit (.bool true)], args := [d] }
  | _ => none }
def fnExactCentresOfRow : OpenClaim := { program := "ytgnlfhggebijcaa", sum := "9f36098cbde215e0ee54d472f931d35c55661d6434c338cec5debab5a00b32ee", func := "loop.example/g01084/laws.FnExactCentresOf", spec := "fnExactCentresOf", unfollowed := true, recurses := true, apart := false }
def FnExactCentresOfSaid : Prop := fnExactCentresOfRow.holds Try.pinned (OpenSpec.ofChange fnExactCentresOfSpec)

/-- ITS FALSE NEIGHBOUR: 'it returns false'. Refute it at one input. -/
def fnExactCentresOfWrong : ChangeSpec := { name := "fnExactCentresOf", fn := fun _ => fun
  | [d] => { results := [.lit (.bool false)], args := [d] }
  | _ => none }
def FnExactCentresOfWrongFalsely : Prop := fnExactCentresOfRow.holds Try.pinned (OpenSpec.ofChange fnExactCentresOfWrong)

/-- 'laws.FnExactSpanningTree': WHATEVER THE INPUT: true; the input reads as it did. -/
def fnExactSpanningTreeSpec : ChangeSpec := { name := "fnExactSpanningTree", fn := fun _ => fun
  | [d1, d2] => { results := [.lit (.bool true)], args := [d1, d2] }
  | _ => none }
def fnExactSpanningTreeRow : OpenClaim := { program := "ytgnlfhggebijcaa", sum := "9f36098cbde215e0ee54d472f931d35c55661d6434c338cec5debab5a00b32ee", func := "loop.example/g01084/laws.FnExactSpanningTree", spec := "fnExactSpanningTree", unfollowed := true, recurses := true, apart := false }
def FnExactSpanningTreeSaid : Prop := fnExactSpanningTreeRow.holds Try.pinned (OpenSpec.ofChange fnExactSpanningTreeSpec)

/-- ITS FALSE NEIGHBOUR: 'it returns false'. Refute it at one input. -/
def fnExactSpanningTreeWrong : ChangeSpec := { name := "fnExactSpanningTree", fn := fun _ => fun
  | [d1, d2] => { results := [.lit (.bool false)], args := [d1, d2] }
  | _ => none }
def FnExactSpanningTreeWrongFalsely : Prop := fnExactSpanningTreeRow.holds Try.pinned (OpenSpec.ofChange fnExactSpanningTreeWrong)

/-- 'laws.FnExactPathBetween': WHATEVER THE INPUT: true; the input reads as it did. -/
def fnExactPathBetweenSpec : ChangeSpec := { name := "fnExactPathBetween", fn := fun _ => fun
  | [d1, d2, d3] => { results := [.lit (.bool true)], args := [d1, d2, d3] }
  | _ => none }
def fnExactPathBetweenRow : OpenClaim := { program := "ytgnlfhggebijcaa", sum := "9f36098cbde215e0ee54d472f931d35c55661d6434c338cec5debab5a00b32ee", func := "loop.example/g01084/laws.FnExactPathBetween", spec := "fnExactPathBetween", unfollowed := true, recurses := true, apart := false }
def FnExactPathBetweenSaid : Prop := fnExactPathBetweenRow.holds Try.pinned (OpenSpec.ofChange fnExactPathBetweenSpec)

/-- ITS FALSE NEIGHBOUR: 'it returns false'. Refute it at one input. -/
def fnExactPathBetweenWrong : ChangeSpec := { name := "fnExactPathBetween", fn := fun _ => fun
  | [d1, d2, d3] => { results := [.lit (.bool false)], args := [d1, d2, d3] }
  | _ => none }
def FnExactPathBetweenWrongFalsely : Prop := fnExactPathBetweenRow.holds Try.pinned (OpenSpec.ofChange fnExactPathBetweenWrong)

/-- 'laws.FnExactTwoColouring': WHATEVER THE INPUT: true; the input reads as it did. -/
def fnExactTwoColouringSpec : ChangeSpec := { name := "fnExactTwoColouring", fn := fun _ => fun
  | [d] => { results := [.lit (.bool true)], args := [d] }
  | _ => none }
def fnExactTwoColouringRow : OpenClaim := { program := "ytgnlfhggebijcaa", sum := "9f36098cbde215e0ee54d472f931d35c55661d6434c338cec5debab5a00b32ee", func := "loop.example/g01084/laws.FnExactTwoColouring", spec := "fnExactTwoColouring", unfollowed := true, recurses := true, apart := false }
def FnExactTwoColouringSaid : Prop := fnExactTwoColouringRow.holds Try.pinned (OpenSpec.ofChange fnExactTwoColouringSpec)

/-- ITS FALSE NEIGHBOUR: 'it returns false'. Refute it at one input. -/
def fnExactTwoColouringWrong : ChangeSpec := { name := "fnExactTwoColouring", fn := fun _ => fun
  | [d] => { results := [.lit (.bool false)], args := [d] }
  | _ => none }
def FnExactTwoColouringWrongFalsely : Prop := fnExactTwoColouringRow.holds Try.pinned (OpenSpec.ofChange fnExactTwoColouringWrong)

/-- 'laws.FnExactComposeMaps': WHATEVER THE INPUT: true; the input reads as it did. -/
def fnExactComposeMapsSpec : ChangeSpec := { name := "fnExactComposeMaps", fn := fun _ => fun
  | [d1, d2, d3, d4, d5] => { results := [.lit (.bool true)], args := [d1, d2, d3, d4, d5] }
  | _ => none }
def fnExactComposeMapsRow : OpenClaim := { program := "ytgnlfhggebijcaa", sum := "9f36098cbde215e0ee54d472f931d35c55661d6434c338cec5debab5a00b32ee", func := "loop.example/g01084/laws.FnExactComposeMaps", spec := "fnExactComposeMaps", unfollowed := true, recurses := true, apart := false }
def FnExactComposeMapsSaid : Prop := fnExactComposeMapsRow.holds Try.pinned (OpenSpec.ofChange fnExactComposeMapsSpec)

/-- ITS FALSE NEIGHBOUR: 'it returns false'. Refute it at one input. -/
def fnExactComposeMapsWrong : ChangeSpec := { name := "fnExactComposeMaps", fn := fun _ => fun
  | [d1, d2, d3, d4, d5] => { results := [.lit (.bool false)], args := [d1, d2, d3, d4, d5] }
  | _ => none }
def FnExactComposeMapsWrongFalsely : Prop := fnExactComposeMapsRow.holds Try.pinned (OpenSpec.ofChange fnExactComposeMapsWrong)

/-- 'laws.FnExactPullNodes': WHATEVER THE INPUT: true; the input reads as it did. -/
def fnExactPullNodesSpec : ChangeSpec := { name := "fnExactPullNodes", fn := fun _ => fun
  | [d1, d2, d3, d4] => { results := [.lit (.bool true)], args := [d1, d2, d3, d4] }
  | _ => none }
def fnExactPullNodesRow : OpenClaim := { program := "ytgnlfhggebijcaa", sum := "9f36098cbde215e0ee54d472f931d35c55661d6434c338cec5debab5a00b32ee", func := "loop.example/g01084/laws.FnExactPullNodes", spec := "fnExactPullNodes", unfollowed := true, recurses := true, apart := false }
def FnExactPullNodesSaid : Prop := fnExactPullNodesRow.holds Try.pinned (OpenSpec.ofChange fnExactPullNodesSpec)

/-- ITS FALSE NEIGHBOUR: 'it returns false'. Refute it at one input. -/
def fnExactPullNodesWrong : ChangeSpec := { name := "fnExactPullNodes", fn := fun _ => fun
  | [d1, d2, d3, d4] => { results := [.lit (.bool false)], args := [d1, d2, d3, d4] }
  | _ => none }
def FnExactPullNodesWrongFalsely : Prop := fnExactPullNodesRow.holds Try.pinned (OpenSpec.ofChange fnExactPullNodesWrong)

/-- 'laws.FnExactPushNodes': WHATEVER THE INPUT: true; the input reads as it did. -/
def fnExactPushNodesSpec : ChangeSpec := { name := "fnExactPushNodes", fn := fun _ => fun
  | [d1, d2, d3, d4] => { results := [.lit (.bool true)], args := [d1, d2, d3, d4] }
  | _ => none }
def fnExactPushNodesRow : OpenClaim := { program := "ytgnlfhggebijcaa", sum := "9f36098cbde215e0ee54d472f931d35c55661d6434c338cec5debab5a00b32ee", func := "loop.example/g01084/laws.FnExactPushNodes", spec := "fnExactPushNodes", unfollowed := true, recurses := true, apart := false }
def FnExactPushNodesSaid : Prop := fnExactPushNodesRow.holds Try.pinned (OpenSpec.ofChange fnExactPushNodesSpec)

/-- ITS FALSE NEIGHBOUR: 'it returns false'. Refute it at one input. -/
def fnExactPushNodesWrong : ChangeSpec := { name := "fnExactPushNodes", fn := fun _ => fun
  | [d1, d2, d3, d4] => { results := [.lit (.bool false)], args := [d1, d2, d3, d4] }
  | _ => none }
def FnExactPushNodesWrongFalsely : Prop := fnExactPushNodesRow.holds Try.pinned (OpenSpec.ofChange fnExactPushNodesWrong)

/-- 'laws.FnExactFibresOf': WHATEVER THE INPUT: true; the input reads as it did. -/
def fnExactFibresOfSpec : ChangeSpec := { name := "fnExactFibresOf", fn := fun _ => fun
  | [d1, d2, d3] => { results := [.lit (.bool true)], args := [d1, d2, d3] }
  | _ => none }
def fnExactFibresOfRow : OpenClaim := { program := "ytgnlfhggebijcaa", sum := "9f36098cbde215e0ee54d472f931d35c55661d6434c338cec5debab5a00b32ee", func := "loop.example/g01084/laws.FnExactFibresOf", spec := "fnExactFibresOf", unfollowed := true, recurses := true, apart := false }
def FnExactFibresOfSaid : Prop := fnExactFibresOfRow.holds Try.pinned (OpenSpec.ofChange fnExactFibresOfSpec)

/-- ITS FALSE NEIGHBOUR: 'it returns false'. Refute it at one input. -/
def fnExactFibresOfWrong : ChangeSpec := { name := "fnExactFibresOf", fn := fun _ => fun
  | [d1, d2, d3] => { results := [.lit (.bool false)], args := [d1, d2, d3] }
  | _ => none }
def FnExactFibresOfWrongFalsely : Prop := fnExactFibresOfRow.holds Try.pinned (OpenSpec.ofChange fnExactFibresOfWrong)

/- THE SECOND FORM. 'bulk': how many values and letters a reading holds, each counted each time it is reached (what is shared counts as often as it is met; a slice's spare places count too). A statement '..UptoSaid' is the law's where the arguments, and the package variables that the reading takes, are together of bulk at most 1048576: NARROWER than '..Said'. Prove '..Said' where nothing that the law and all that it calls make is longer than what came in: it says more and counts as full. Else prove '..UptoSaid'. A law counts once. -/
mutual
def uptoBulk {H : Type} : DataW H → Nat
  | .lit (.string bytes) => bytes.length + 1
  | .lit _ => 1
  | .nil => 1
  | .ptr d => uptoBulk d + 1
  | .slice elems spare => uptoBulkAll elems + uptoBulkAll spare + 1
  | .agg parts => uptoBulkAll parts + 1
  | .iface _ d => uptoBulk d + 1
  | .map entries => uptoBulkEntries entries + 1
  | .held _ => 1
def uptoBulkAll {H : Type} : List (DataW H) → Nat
  | [] => 0
  | d :: r => uptoBulk d + uptoBulkAll r
def uptoBulkEntries {H : Type} : List (Lit × DataW H) → Nat
  | [] => 0
  | x :: r => uptoBulkEntry x + uptoBulkEntries r
def uptoBulkEntry {H : Type} : Lit × DataW H → Nat
  | (.string bytes, d) => bytes.length + uptoBulk d + 1
  | (_, d) => uptoBulk d + 1
 end
def uptoSmall : (H : Type) → List (DataW H) → Bool := fun _ ds => decide (uptoBulkAll ds ≤ 1048576)
def OpenSpec.upto (s : _root_.Go.ChangeSpec) : _root_.Go.OpenSpec := { _root_.Go.OpenSpec.ofChange s with cond := some uptoSmall }

/-- 'laws.FnExactDistancesFrom', WHERE WHAT IT READS IS OF BULK AT MOST 1048576: true; the input reads as it did. -/
def fnExactDistancesFromUptoRow : OpenClaim := { program := "ytgnlfhggebijcaa", sum := "9f36098cbde215e0ee54d472f931d35c55661d6434c338cec5debab5a00b32ee", func := "loop.example/g01084/laws.FnExactDistancesFrom", spec := "fnExactDistancesFrom", unfollowed := true, recurses := true, apart := false, narrowed := true }
def FnExactDistancesFromUptoSaid : Prop := fnExactDistancesFromUptoRow.holds Try.pinned (OpenSpec.upto fnExactDistancesFromSpec)

/-- 'laws.FnExactBallOf', WHERE WHAT IT READS IS OF BULK AT MOST 1048576: true; the input reads as it did. -/
def fnExactBallOfUptoRow : OpenClaim := { program := "ytgnlfhggebijcaa", sum := "9f36098cbde215e0ee54d472f931d35c55661d6434c338cec5debab5a00b32ee", func := "loop.example/g01084/laws.FnExactBallOf", spec := "fnExactBallOf", unfollowed := true, recurses := true, apart := false, narrowed := true }
def FnExactBallOfUptoSaid : Prop := fnExactBallOfUptoRow.holds Try.pinned (OpenSpec.upto fnExactBallOfSpec)

/-- 'laws.FnExactShellSizes', WHERE WHAT IT READS IS OF BULK AT MOST 1048576: true; the input reads as it did. -/
def fnExactShellSizesUptoRow : OpenClaim := { program := "ytgnlfhggebijcaa", sum := "9f36098cbde215e0ee54d472f931d35c55661d6434c338cec5debab5a00b32ee", func := "loop.example/g01084/laws.FnExactShellSizes", spec := "fnExactShellSizes", unfollowed := true, recurses := true, apart := false, narrowed := true }
def FnExactShellSizesUptoSaid : Prop := fnExactShellSizesUptoRow.holds Try.pinned (OpenSpec.upto fnExactShellSizesSpec)

/-- 'laws.FnExactComponentsOf', WHERE WHAT IT READS IS OF BULK AT MOST 1048576: true; the input reads as it did. -/
def fnExactComponentsOfUptoRow : OpenClaim := { program := "ytgnlfhggebijcaa", sum := "9f36098cbde215e0ee54d472f931d35c55661d6434c338cec5debab5a00b32ee", func := "loop.example/g01084/laws.FnExactComponentsOf", spec := "fnExactComponentsOf", unfollowed := true, recurses := true, apart := false, narrowed := true }
def FnExactComponentsOfUptoSaid : Prop := fnExactComponentsOfUptoRow.holds Try.pinned (OpenSpec.upto fnExactComponentsOfSpec)

/-- 'laws.FnExactCentresOf', WHERE WHAT IT READS IS OF BULK AT MOST 1048576: true; the input reads as it did. -/
def fnExactCentresOfUptoRow : OpenClaim := { program := "ytgnlfhggebijcaa", sum := "9f36098cbde215e0ee54d472f931d35c55661d6434c338cec5debab5a00b32ee", func := "loop.example/g01084/laws.FnExactCentresOf", spec := "fnExactCentresOf", unfollowed := true, recurses := true, apart := false, narrowed := true }
def FnExactCentresOfUptoSaid : Prop := fnExactCentresOfUptoRow.holds Try.pinned (OpenSpec.upto fnExactCentresOfSpec)

/-- 'laws.FnExactSpanningTree', WHERE WHAT IT READS IS OF BULK AT MOST 1048576: true; the input reads as it did. -/
def fnExactSpanningTreeUptoRow : OpenClaim := { program := "ytgnlfhggebijcaa", sum := "9f36098cbde215e0ee54d472f931d35c55661d6434c338cec5debab5a00b32ee", func := "loop.example/g01084/laws.FnExactSpanningTree", spec := "fnExactSpanningTree", unfollowed := true, recurses := true, apart := false, narrowed := true }
def FnExactSpanningTreeUptoSaid : Prop := fnExactSpanningTreeUptoRow.holds Try.pinned (OpenSpec.upto fnExactSpanningTreeSpec)

/-- 'laws.FnExactPathBetween', WHERE WHAT IT READS IS OF BULK AT MOST 1048576: true; the input reads as it did. -/
def fnExactPathBetweenUptoRow : OpenClaim := { program := "ytgnlfhggebijcaa", sum := "9f36098cbde215e0ee54d472f931d35c55661d6434c338cec5debab5a00b32ee", func := "loop.example/g01084/laws.FnExactPathBetween", spec := "fnExactPathBetween", unfollowed := true, recurses := true, apart := false, narrowed := true }
def FnExactPathBetweenUptoSaid : Prop := fnExactPathBetweenUptoRow.holds Try.pinned (OpenSpec.upto fnExactPathBetweenSpec)

/-- 'laws.FnExactTwoColouring', WHERE WHAT IT READS IS OF BULK AT MOST 1048576: true; the input reads as it did. -/
def fnExactTwoColouringUptoRow : OpenClaim := { program := "ytgnlfhggebijcaa", sum := "9f36098cbde215e0ee54d472f931d35c55661d6434c338cec5debab5a00b32ee", func := "loop.example/g01084/laws.FnExactTwoColouring", spec := "fnExactTwoColouring", unfollowed := true, recurses := true, apart := false, narrowed := true }
def FnExactTwoColouringUptoSaid : Prop := fnExactTwoColouringUptoRow.holds Try.pinned (OpenSpec.upto fnExactTwoColouringSpec)

/-- 'laws.FnExactComposeMaps', WHERE WHAT IT READS IS OF BULK AT MOST 1048576: true; the input reads as it did. -/
def fnExactComposeMapsUptoRow : OpenClaim := { program := "ytgnlfhggebijcaa", sum := "9f36098cbde215e0ee54d472f931d35c55661d6434c338cec5debab5a00b32ee", func := "loop.example/g01084/laws.FnExactComposeMaps", spec := "fnExactComposeMaps", unfollowed := true, recurses := true, apart := false, narrowed := true }
def FnExactComposeMapsUptoSaid : Prop := fnExactComposeMapsUptoRow.holds Try.pinned (OpenSpec.upto fnExactComposeMapsSpec)

/-- 'laws.FnExactPullNodes', WHERE WHAT IT READS IS OF BULK AT MOST 1048576: true; the input reads as it did. -/
def fnExactPullNodesUptoRow : OpenClaim := { program := "ytgnlfhggebijcaa", sum := "9f36098cbde215e0ee54d472f931d35c55661d6434c338cec5debab5a00b32ee", func := "loop.example/g01084/laws.FnExactPullNodes", spec := "fnExactPullNodes", unfollowed := true, recurses := true, apart := false, narrowed := true }
def FnExactPullNodesUptoSaid : Prop := fnExactPullNodesUptoRow.holds Try.pinned (OpenSpec.upto fnExactPullNodesSpec)

/-- 'laws.FnExactPushNodes', WHERE WHAT IT READS IS OF BULK AT MOST 1048576: true; the input reads as it did. -/
def fnExactPushNodesUptoRow : OpenClaim := { program := "ytgnlfhggebijcaa", sum := "9f36098cbde215e0ee54d472f931d35c55661d6434c338cec5debab5a00b32ee", func := "loop.example/g01084/laws.FnExactPushNodes", spec := "fnExactPushNodes", unfollowed := true, recurses := true, apart := false, narrowed := true }
def FnExactPushNodesUptoSaid : Prop := fnExactPushNodesUptoRow.holds Try.pinned (OpenSpec.upto fnExactPushNodesSpec)

/-- 'laws.FnExactFibresOf', WHERE WHAT IT READS IS OF BULK AT MOST 1048576: true; the input reads as it did. -/
def fnExactFibresOfUptoRow : OpenClaim := { program := "ytgnlfhggebijcaa", sum := "9f36098cbde215e0ee54d472f931d35c55661d6434c338cec5debab5a00b32ee", func := "loop.example/g01084/laws.FnExactFibresOf", spec := "fnExactFibresOf", unfollowed := true, recurses := true, apart := false, narrowed := true }
def FnExactFibresOfUptoSaid : Prop := fnExactFibresOfUptoRow.holds Try.pinned (OpenSpec.upto fnExactFibresOfSpec)

end Rows
end Go.Proofs.Ytgnlfhggebijcaa
