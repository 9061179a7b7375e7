/-
  No cell of these rows narrows 'for every input' (looked for: loops, veiled, ifaces, maps, wideKeys, modest, calm, conditions, laid).
  DERIVED. THE GIVEN ROWS OF THIS SEAT. 7 by the template 'for every input the law returns true; each argument reads behind the call as it read before'; 0 by the template 'total and deterministic' (their statements: YtoeencgofelgoaaTotals.lean).
  GIVEN WITH THE SEED: the statements are not yours to turn. If you find one false, say at which input.
  Laid BY PROGRAM, IN A SANDBOX (cutbox-rows.mjs): the forced cells as the released guide's own fill.sh prints them over the translation 6e0fe6fc1487a590… (all of the seat's roots in one cut). By AI agents, Wed Nov 11 2026. No macro, syntax, notation, axiom, sorry.
-/
import Derived.Test.YtoeencgofelgoaaChecked
import GoSem.Claim
import GoSem.ClaimJoined
import GoSem.ClaimMapViews
import Derived.JoinedTies
import Derived.KernelRfl
namespace Go.Proofs.Ytoeencgofelgoaa
/- THE CELL 'sum', in the pinned program and in every row, IS THE sha256 OF THE DUMP (.gsa) THAT YtoeencgofelgoaaProg.lean LOADS. Nothing in Lean hashes anything: it is a label: what it is worth is what the hold of that sum in a sandbox is worth. -/
noncomputable def Try.pinned : Pinned := { name := "ytoeencgofelgoaa", sum := "6e0fe6fc1487a590435fb64ba211b950975930961476de3290e0ac0e85df1cdd", checked := Try.checked }
namespace Rows
def none {H : Type} : Left H := { results := [], args := [] }

/-- 'laws.FnExactSameView': WHATEVER THE INPUT: true; the input reads as it did. -/
def fnExactSameViewSpec : ChangeSpec := { name := "fnExactSameView", fn := fun _ => fun
  | [d1, d2, d3, d4, d5] => { results := [.lit (.bool true)], args := [d1, d2, d3, d4, d5] }
  | _ => none }
def fnExactSameViewRow : OpenClaim := { program := "ytoeencgofelgoaa", sum := "6e0fe6fc1487a590435fb64ba211b950975930961476de3290e0ac0e85df1cdd", func := "loop.example/g01084/laws.FnExactSameView", spec := "fnExactSameView", unfollowed := true, recurses := true, plainKeys := false, apart := false }
def FnExactSameViewSaid : Prop := fnExactSameViewRow.holds Try.pinned (OpenSpec.ofChange fnExactSameViewSpec)

/-- ITS FALSE NEIGHBOUR: 'it returns false'. Refute it at one input. -/
def fnExactSameViewWrong : ChangeSpec := { name := "fnExactSameView", fn := fun _ => fun
  | [d1, d2, d3, d4, d5] => { results := [.lit (.bool false)], args := [d1, d2, d3, d4, d5] }
  | _ => none }
def FnExactSameViewWrongFalsely : Prop := fnExactSameViewRow.holds Try.pinned (OpenSpec.ofChange fnExactSameViewWrong)

/-- 'laws.FnExactAreTwins': WHATEVER THE INPUT: true; the input reads as it did. -/
def fnExactAreTwinsSpec : ChangeSpec := { name := "fnExactAreTwins", fn := fun _ => fun
  | [d1, d2, d3, d4] => { results := [.lit (.bool true)], args := [d1, d2, d3, d4] }
  | _ => none }
def fnExactAreTwinsRow : OpenClaim := { program := "ytoeencgofelgoaa", sum := "6e0fe6fc1487a590435fb64ba211b950975930961476de3290e0ac0e85df1cdd", func := "loop.example/g01084/laws.FnExactAreTwins", spec := "fnExactAreTwins", unfollowed := true, recurses := true, plainKeys := false, apart := false }
def FnExactAreTwinsSaid : Prop := fnExactAreTwinsRow.holds Try.pinned (OpenSpec.ofChange fnExactAreTwinsSpec)

/-- ITS FALSE NEIGHBOUR: 'it returns false'. Refute it at one input. -/
def fnExactAreTwinsWrong : ChangeSpec := { name := "fnExactAreTwins", fn := fun _ => fun
  | [d1, d2, d3, d4] => { results := [.lit (.bool false)], args := [d1, d2, d3, d4] }
  | _ => none }
def FnExactAreTwinsWrongFalsely : Prop := fnExactAreTwinsRow.holds Try.pinned (OpenSpec.ofChange fnExactAreTwinsWrong)

/-- 'laws.FnExactSeparatingDepth': WHATEVER THE INPUT: true; the input reads as it did. -/
def fnExactSeparatingDepthSpec : ChangeSpec := { name := "fnExactSeparatingDepth", fn := fun _ => fun
  | [d1, d2, d3, d4] => { results := [.lit (.bool true)], args := [d1, d2, d3, d4] }
  | _ => none }
def fnExactSeparatingDepthRow : OpenClaim := { program := "ytoeencgofelgoaa", sum := "6e0fe6fc1487a590435fb64ba211b950975930961476de3290e0ac0e85df1cdd", func := "loop.example/g01084/laws.FnExactSeparatingDepth", spec := "fnExactSeparatingDepth", unfollowed := true, recurses := true, plainKeys := false, apart := false }
def FnExactSeparatingDepthSaid : Prop := fnExactSeparatingDepthRow.holds Try.pinned (OpenSpec.ofChange fnExactSeparatingDepthSpec)

/-- ITS FALSE NEIGHBOUR: 'it returns false'. Refute it at one input. -/
def fnExactSeparatingDepthWrong : ChangeSpec := { name := "fnExactSeparatingDepth", fn := fun _ => fun
  | [d1, d2, d3, d4] => { results := [.lit (.bool false)], args := [d1, d2, d3, d4] }
  | _ => none }
def FnExactSeparatingDepthWrongFalsely : Prop := fnExactSeparatingDepthRow.holds Try.pinned (OpenSpec.ofChange fnExactSeparatingDepthWrong)

/-- 'laws.FnExactIsForest': WHATEVER THE INPUT: true; the input reads as it did. -/
def fnExactIsForestSpec : ChangeSpec := { name := "fnExactIsForest", fn := fun _ => fun
  | [d] => { results := [.lit (.bool true)], args := [d] }
  | _ => none }
def fnExactIsForestRow : OpenClaim := { program := "ytoeencgofelgoaa", sum := "6e0fe6fc1487a590435fb64ba211b950975930961476de3290e0ac0e85df1cdd", func := "loop.example/g01084/laws.FnExactIsForest", spec := "fnExactIsForest", unfollowed := true, recurses := true, plainKeys := false, apart := false }
def FnExactIsForestSaid : Prop := fnExactIsForestRow.holds Try.pinned (OpenSpec.ofChange fnExactIsForestSpec)

/-- ITS FALSE NEIGHBOUR: 'it returns false'. Refute it at one input. -/
def fnExactIsForestWrong : ChangeSpec := { name := "fnExactIsForest", fn := fun _ => fun
  | [d] => { results := [.lit (.bool false)], args := [d] }
  | _ => none }
def FnExactIsForestWrongFalsely : Prop := fnExactIsForestRow.holds Try.pinned (OpenSpec.ofChange fnExactIsForestWrong)

/-- 'laws.FnExactIsTree': WHATEVER THE INPUT: true; the input reads as it did. -/
def fnExactIsTreeSpec : ChangeSpec := { name := "fnExactIsTree", fn := fun _ => fun
  | [d] => { results := [.lit (.bool true)], args := [d] }
  | _ => none }
def fnExactIsTreeRow : OpenClaim := { program := "ytoeencgofelgoaa", sum := "6e0fe6fc1487a590435fb64ba211b950975930961476de3290e0ac0e85df1cdd", func := "loop.example/g01084/laws.FnExactIsTree", spec := "fnExactIsTree", unfollowed := true, recurses := true, plainKeys := false, apart := false }
def FnExactIsTreeSaid : Prop := fnExactIsTreeRow.holds Try.pinned (OpenSpec.ofChange fnExactIsTreeSpec)

/-- ITS FALSE NEIGHBOUR: 'it returns false'. Refute it at one input. -/
def fnExactIsTreeWrong : ChangeSpec := { name := "fnExactIsTree", fn := fun _ => fun
  | [d] => { results := [.lit (.bool false)], args := [d] }
  | _ => none }
def FnExactIsTreeWrongFalsely : Prop := fnExactIsTreeRow.holds Try.pinned (OpenSpec.ofChange fnExactIsTreeWrong)

/-- 'laws.FnExactGirthOf': WHATEVER THE INPUT: true; the input reads as it did. -/
def fnExactGirthOfSpec : ChangeSpec := { name := "fnExactGirthOf", fn := fun _ => fun
  | [d] => { results := [.lit (.bool true)], args := [d] }
  | _ => none }
def fnExactGirthOfRow : OpenClaim := { program := "ytoeencgofelgoaa", sum := "6e0fe6fc1487a590435fb64ba211b950975930961476de3290e0ac0e85df1cdd", func := "loop.example/g01084/laws.FnExactGirthOf", spec := "fnExactGirthOf", unfollowed := true, recurses := true, plainKeys := false, apart := false }
def FnExactGirthOfSaid : Prop := fnExactGirthOfRow.holds Try.pinned (OpenSpec.ofChange fnExactGirthOfSpec)

/-- ITS FALSE NEIGHBOUR: 'it returns false'. Refute it at one input. -/
def fnExactGirthOfWrong : ChangeSpec := { name := "fnExactGirthOf", fn := fun _ => fun
  | [d] => { results := [.lit (.bool false)], args := [d] }
  | _ => none }
def FnExactGirthOfWrongFalsely : Prop := fnExactGirthOfRow.holds Try.pinned (OpenSpec.ofChange fnExactGirthOfWrong)

/-- 'laws.FnExactOddClosedWalk': WHATEVER THE INPUT: true; the input reads as it did. -/
def fnExactOddClosedWalkSpec : ChangeSpec := { name := "fnExactOddClosedWalk", fn := fun _ => fun
  | [d] => { results := [.lit (.bool true)], args := [d] }
  | _ => none }
def fnExactOddClosedWalkRow : OpenClaim := { program := "ytoeencgofelgoaa", sum := "6e0fe6fc1487a590435fb64ba211b950975930961476de3290e0ac0e85df1cdd", func := "loop.example/g01084/laws.FnExactOddClosedWalk", spec := "fnExactOddClosedWalk", unfollowed := true, recurses := true, plainKeys := false, apart := false }
def FnExactOddClosedWalkSaid : Prop := fnExactOddClosedWalkRow.holds Try.pinned (OpenSpec.ofChange fnExactOddClosedWalkSpec)

/-- ITS FALSE NEIGHBOUR: 'it returns false'. Refute it at one input. -/
def fnExactOddClosedWalkWrong : ChangeSpec := { name := "fnExactOddClosedWalk", fn := fun _ => fun
  | [d] => { results := [.lit (.bool false)], args := [d] }
  | _ => none }
def FnExactOddClosedWalkWrongFalsely : Prop := fnExactOddClosedWalkRow.holds Try.pinned (OpenSpec.ofChange fnExactOddClosedWalkWrong)

/- THE SECOND FORM. 'bulk': how many values and letters a reading holds, each counted each time it is reached (what is shared counts as often as it is met; a slice's spare places count too). A statement '..UptoSaid' is the law's where the arguments, and the package variables that the reading takes, are together of bulk at most 1048576: NARROWER than '..Said'. Prove '..Said' where nothing that the law and all that it calls make is longer than what came in: it says more and counts as full. Else prove '..UptoSaid'. A law counts once. -/
mutual
def uptoBulk {H : Type} : DataW H → Nat
  | .lit (.string bytes) => bytes.length + 1
  | .lit _ => 1
  | .nil => 1
  | .ptr d => uptoBulk d + 1
  | .slice elems spare => uptoBulkAll elems + uptoBulkAll spare + 1
  | .agg parts => uptoBulkAll parts + 1
  | .iface _ d => uptoBulk d + 1
  | .map entries => uptoBulkEntries entries + 1
  | .held _ => 1
def uptoBulkAll {H : Type} : List (DataW H) → Nat
  | [] => 0
  | d :: r => uptoBulk d + uptoBulkAll r
def uptoBulkEntries {H : Type} : List (Lit × DataW H) → Nat
  | [] => 0
  | x :: r => uptoBulkEntry x + uptoBulkEntries r
def uptoBulkEntry {H : Type} : Lit × DataW H → Nat
  | (.string bytes, d) => bytes.length + uptoBulk d + 1
  | (_, d) => uptoBulk d + 1
 end
def uptoSmall : (H : Type) → List (DataW H) → Bool := fun _ ds => decide (uptoBulkAll ds ≤ 1048576)
def OpenSpec.upto (s : _root_.Go.ChangeSpec) : _root_.Go.OpenSpec := { _root_.Go.OpenSpec.ofChange s with cond := some uptoSmall }

/-- 'laws.FnExactSameView', WHERE WHAT IT READS IS OF BULK AT MOST 1048576: true; the input reads as it did. -/
def fnExactSameViewUptoRow : OpenClaim := { program := "ytoeencgofelgoaa", sum := "6e0fe6fc1487a590435fb64ba211b950975930961476de3290e0ac0e85df1cdd", func := "loop.example/g01084/laws.FnExactSameView", spec := "fnExactSameView", unfollowed := true, recurses := true, plainKeys := false, apart := false, narrowed := true }
def FnExactSameViewUptoSaid : Prop := fnExactSameViewUptoRow.holds Try.pinned (OpenSpec.upto fnExactSameViewSpec)

/-- 'laws.FnExactAreTwins', WHERE WHAT IT READS IS OF BULK AT MOST 1048576: true; the input reads as it did. -/
def fnExactAreTwinsUptoRow : OpenClaim := { program := "ytoeencgofelgoaa", sum := "6e0fe6fc1487a590435fb64ba211b950975930961476de3290e0ac0e85df1cdd", func := "loop.example/g01084/laws.FnExactAreTwins", spec := "fnExactAreTwins", unfollowed := true, recurses := true, plainKeys := false, apart := false, narrowed := true }
def FnExactAreTwinsUptoSaid : Prop := fnExactAreTwinsUptoRow.holds Try.pinned (OpenSpec.upto fnExactAreTwinsSpec)

/-- 'laws.FnExactSeparatingDepth', WHERE WHAT IT READS IS OF BULK AT MOST 1048576: true; the input reads as it did. -/
def fnExactSeparatingDepthUptoRow : OpenClaim := { program := "ytoeencgofelgoaa", sum := "6e0fe6fc1487a590435fb64ba211b950975930961476de3290e0ac0e85df1cdd", func := "loop.example/g01084/laws.FnExactSeparatingDepth", spec := "fnExactSeparatingDepth", unfollowed := true, recurses := true, plainKeys := false, apart := false, narrowed := true }
def FnExactSeparatingDepthUptoSaid : Prop := fnExactSeparatingDepthUptoRow.holds Try.pinned (OpenSpec.upto fnExactSeparatingDepthSpec)

/-- 'laws.FnExactIsForest', WHERE WHAT IT READS IS OF BULK AT MOST 1048576: true; the input reads as it did. -/
def fnExactIsForestUptoRow : OpenClaim := { program := "ytoeencgofelgoaa", sum := "6e0fe6fc1487a590435fb64ba211b950975930961476de3290e0ac0e85df1cdd", func := "loop.example/g01084/laws.FnExactIsForest", spec := "fnExactIsForest", unfollowed := true, recurses := true, plainKeys := false, apart := false, narrowed := true }
def FnExactIsForestUptoSaid : Prop := fnExactIsForestUptoRow.holds Try.pinned (OpenSpec.upto fnExactIsForestSpec)

/-- 'laws.FnExactIsTree', WHERE WHAT IT READS IS OF BULK AT MOST 1048576: true; the input reads as it did. -/
def fnExactIsTreeUptoRow : OpenClaim := { program := "ytoeencgofelgoaa", sum := "6e0fe6fc1487a590435fb64ba211b950975930961476de3290e0ac0e85df1cdd", func := "loop.example/g01084/laws.FnExactIsTree", spec := "fnExactIsTree", unfollowed := true, recurses := true, plainKeys := false, apart := false, narrowed := true }
def FnExactIsTreeUptoSaid : Prop := fnExactIsTreeUptoRow.holds Try.pinned (OpenSpec.upto fnExactIsTreeSpec)

/-- 'laws.FnExactGirthOf', WHERE WHAT IT READS IS OF BULK AT MOST 1048576: true; the input reads as it did. -/
def fnExactGirthOfUptoRow : OpenClaim := { program := "ytoeencgofelgoaa", sum := "6e0fe6fc1487a590435fb64ba211b950975930961476de3290e0ac0e85df1cdd", func := "loop.example/g01084/laws.FnExactGirthOf", spec := "fnExactGirthOf", unfollowed := true, recurses := true, plainKeys := false, apart := false, narrowed := true }
def FnExactGirthOfUptoSaid : Prop := fnExactGirthOfUptoRow.holds Try.pinned (OpenSpec.upto fnExactGirthOfSpec)

/-- 'laws.FnExactOddClosedWalk', WHERE WHAT IT READS IS OF BULK AT MOST 1048576: true; the input reads as it did. -/
def fnExactOddClosedWalkUptoRow : OpenClaim := { program := "ytoeencgofelgoaa", sum := "6e0fe6fc1487a590435fb64ba211b950975930961476de3290e0ac0e85df1cdd", func := "loop.example/g01084/laws.FnExactOddClosedWalk", spec := "fnExactOddClosedWalk", unfollowed := true, recurses := true, plainKeys := false, apart := false, narrowed := true }
def FnExactOddClosedWalkUptoSaid : Prop := fnExactOddClosedWalkUptoRow.holds Try.pinned (OpenSpec.upto fnExactOddClosedWalkSpec)

end Rows
end Go.Proofs.Ytoeencgofelgoaa
