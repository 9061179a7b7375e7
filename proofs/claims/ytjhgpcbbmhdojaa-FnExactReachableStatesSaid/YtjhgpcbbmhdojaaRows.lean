/-
  No cell of these rows narrows 'for every input' (looked for: loops, veiled, ifaces, maps, wideKeys, modest, calm, conditions, laid).
  DERIVED. THE GIVEN ROWS OF THIS SEAT. 11 by the template 'for every input the law returns true; each argument reads behind the call as it read before'; 0 by the template 'total and deterministic' (their statements: YtjhgpcbbmhdojaaTotals.lean).
  GIVEN WITH THE SEED: the statements are not yours to turn. If you find one false, say at which input.
  Laid BY PROGRAM, IN A SANDBOX (cutbox-rows.mjs): the forced cells as the released guide's own fill.sh prints them over the translation b3fff80593d2f304… (all of the seat's roots in one cut). By AI agents, Wed Nov 11 2026. No macro, syntax, notation, axiom, sorry.
-/
import Derived.Test.YtjhgpcbbmhdojaaChecked
import GoSem.Claim
import GoSem.ClaimJoined
import GoSem.ClaimMapViews
import Derived.JoinedTies
import Derived.KernelRfl
namespace Go.Proofs.Ytjhgpcbbmhdojaa
/- THE CELL 'sum', in the pinned program and in every row, IS THE sha256 OF THE DUMP (.gsa) THAT YtjhgpcbbmhdojaaProg.lean LOADS. Nothing in Lean hashes anything: it is a label: what it is worth is what the hold of that sum in a sandbox is worth. -/
noncomputable def Try.pinned : Pinned := { name := "ytjhgpcbbmhdojaa", sum := "b3fff80593d2f304a24d762216444827875fc23fe1d6ab55544a20d4075f7a20", checked := Try.checked }
namespace Rows
def none {H : Type} : Left H := { results := [], args := [] }

/-- 'laws.FnExactIsValueProgram': WHATEVER THE INPUT: true; the input reads as it did. -/
def fnExactIsValueProgramSpec : ChangeSpec := { name := "fnExactIsValueProgram", fn := fun _ => fun
  | [d] => { results := [.lit (.bool true)], args := [d] }
  | _ => none }
def fnExactIsValueProgramRow : OpenClaim := { program := "ytjhgpcbbmhdojaa", sum := "b3fff80593d2f304a24d762216444827875fc23fe1d6ab55544a20d4075f7a20", func := "loop.example/g01084/laws.FnExactIsValueProgram", spec := "fnExactIsValueProgram", apart := false }
def FnExactIsValueProgramSaid : Prop := fnExactIsValueProgramRow.holds Try.pinned (OpenSpec.ofChange fnExactIsValueProgramSpec)

/-- ITS FALSE NEIGHBOUR: 'it returns false'. Refute it at one input. -/
def fnExactIsValueProgramWrong : ChangeSpec := { name := "fnExactIsValueProgram", fn := fun _ => fun
  | [d] => { results := [.lit (.bool false)], args := [d] }
  | _ => none }
def FnExactIsValueProgramWrongFalsely : Prop := fnExactIsValueProgramRow.holds Try.pinned (OpenSpec.ofChange fnExactIsValueProgramWrong)

/-- 'laws.FnExactNeedsIds': WHATEVER THE INPUT: true; the input reads as it did. -/
def fnExactNeedsIdsSpec : ChangeSpec := { name := "fnExactNeedsIds", fn := fun _ => fun
  | [d] => { results := [.lit (.bool true)], args := [d] }
  | _ => none }
def fnExactNeedsIdsRow : OpenClaim := { program := "ytjhgpcbbmhdojaa", sum := "b3fff80593d2f304a24d762216444827875fc23fe1d6ab55544a20d4075f7a20", func := "loop.example/g01084/laws.FnExactNeedsIds", spec := "fnExactNeedsIds", unfollowed := true, recurses := true, apart := false }
def FnExactNeedsIdsSaid : Prop := fnExactNeedsIdsRow.holds Try.pinned (OpenSpec.ofChange fnExactNeedsIdsSpec)

/-- ITS FALSE NEIGHBOUR: 'it returns false'. Refute it at one input. -/
def fnExactNeedsIdsWrong : ChangeSpec := { name := "fnExactNeedsIds", fn := fun _ => fun
  | [d] => { results := [.lit (.bool false)], args := [d] }
  | _ => none }
def FnExactNeedsIdsWrongFalsely : Prop := fnExactNeedsIdsRow.holds Try.pinned (OpenSpec.ofChange fnExactNeedsIdsWrong)

/-- 'laws.FnExactNeedsRound': WHATEVER THE INPUT: true; the input reads as it did. -/
def fnExactNeedsRoundSpec : ChangeSpec := { name := "fnExactNeedsRound", fn := fun _ => fun
  | [d] => { results := [.lit (.bool true)], args := [d] }
  | _ => none }
def fnExactNeedsRoundRow : OpenClaim := { program := "ytjhgpcbbmhdojaa", sum := "b3fff80593d2f304a24d762216444827875fc23fe1d6ab55544a20d4075f7a20", func := "loop.example/g01084/laws.FnExactNeedsRound", spec := "fnExactNeedsRound", unfollowed := true, recurses := true, apart := false }
def FnExactNeedsRoundSaid : Prop := fnExactNeedsRoundRow.holds Try.pinned (OpenSpec.ofChange fnExactNeedsRoundSpec)

/-- ITS FALSE NEIGHBOUR: 'it returns false'. Refute it at one input. -/
def fnExactNeedsRoundWrong : ChangeSpec := { name := "fnExactNeedsRound", fn := fun _ => fun
  | [d] => { results := [.lit (.bool false)], args := [d] }
  | _ => none }
def FnExactNeedsRoundWrongFalsely : Prop := fnExactNeedsRoundRow.holds Try.pinned (OpenSpec.ofChange fnExactNeedsRoundWrong)

/-- 'laws.FnExactIsMachine': WHATEVER THE INPUT: true; the input reads as it did. -/
def fnExactIsMachineSpec : ChangeSpec := { name := "fnExactIsMachine", fn := fun _ => fun
  | [d] => { results := [.lit (.bool true)], args := [d] }
  | _ => none }
def fnExactIsMachineRow : OpenClaim := { program := "ytjhgpcbbmhdojaa", sum := "b3fff80593d2f304a24d762216444827875fc23fe1d6ab55544a20d4075f7a20", func := "loop.example/g01084/laws.FnExactIsMachine", spec := "fnExactIsMachine", unfollowed := true, recurses := true, apart := false }
def FnExactIsMachineSaid : Prop := fnExactIsMachineRow.holds Try.pinned (OpenSpec.ofChange fnExactIsMachineSpec)

/-- ITS FALSE NEIGHBOUR: 'it returns false'. Refute it at one input. -/
def fnExactIsMachineWrong : ChangeSpec := { name := "fnExactIsMachine", fn := fun _ => fun
  | [d] => { results := [.lit (.bool false)], args := [d] }
  | _ => none }
def FnExactIsMachineWrongFalsely : Prop := fnExactIsMachineRow.holds Try.pinned (OpenSpec.ofChange fnExactIsMachineWrong)

/-- 'laws.FnExactClauseFor': WHATEVER THE INPUT: true; the input reads as it did. -/
def fnExactClauseForSpec : ChangeSpec := { name := "fnExactClauseFor", fn := fun _ => fun
  | [d1, d2, d3] => { results := [.lit (.bool true)], args := [d1, d2, d3] }
  | _ => none }
def fnExactClauseForRow : OpenClaim := { program := "ytjhgpcbbmhdojaa", sum := "b3fff80593d2f304a24d762216444827875fc23fe1d6ab55544a20d4075f7a20", func := "loop.example/g01084/laws.FnExactClauseFor", spec := "fnExactClauseFor", unfollowed := true, recurses := true, apart := false }
def FnExactClauseForSaid : Prop := fnExactClauseForRow.holds Try.pinned (OpenSpec.ofChange fnExactClauseForSpec)

/-- ITS FALSE NEIGHBOUR: 'it returns false'. Refute it at one input. -/
def fnExactClauseForWrong : ChangeSpec := { name := "fnExactClauseFor", fn := fun _ => fun
  | [d1, d2, d3] => { results := [.lit (.bool false)], args := [d1, d2, d3] }
  | _ => none }
def FnExactClauseForWrongFalsely : Prop := fnExactClauseForRow.holds Try.pinned (OpenSpec.ofChange fnExactClauseForWrong)

/-- 'laws.FnExactReachableStates': WHATEVER THE INPUT: true; the input reads as it did. -/
def fnExactReachableStatesSpec : ChangeSpec := { name := "fnExactReachableStates", fn := fun _ => fun
  | [d] => { results := [.lit (.bool true)], args := [d] }
  | _ => none }
def fnExactReachableStatesRow : OpenClaim := { program := "ytjhgpcbbmhdojaa", sum := "b3fff80593d2f304a24d762216444827875fc23fe1d6ab55544a20d4075f7a20", func := "loop.example/g01084/laws.FnExactReachableStates", spec := "fnExactReachableStates", unfollowed := true, recurses := true, apart := false }
def FnExactReachableStatesSaid : Prop := fnExactReachableStatesRow.holds Try.pinned (OpenSpec.ofChange fnExactReachableStatesSpec)

/-- ITS FALSE NEIGHBOUR: 'it returns false'. Refute it at one input. -/
def fnExactReachableStatesWrong : ChangeSpec := { name := "fnExactReachableStates", fn := fun _ => fun
  | [d] => { results := [.lit (.bool false)], args := [d] }
  | _ => none }
def FnExactReachableStatesWrongFalsely : Prop := fnExactReachableStatesRow.holds Try.pinned (OpenSpec.ofChange fnExactReachableStatesWrong)

/-- 'laws.FnExactStatesAfter': WHATEVER THE INPUT: true; the input reads as it did. -/
def fnExactStatesAfterSpec : ChangeSpec := { name := "fnExactStatesAfter", fn := fun _ => fun
  | [d1, d2, d3] => { results := [.lit (.bool true)], args := [d1, d2, d3] }
  | _ => none }
def fnExactStatesAfterRow : OpenClaim := { program := "ytjhgpcbbmhdojaa", sum := "b3fff80593d2f304a24d762216444827875fc23fe1d6ab55544a20d4075f7a20", func := "loop.example/g01084/laws.FnExactStatesAfter", spec := "fnExactStatesAfter", unfollowed := true, recurses := true, apart := false }
def FnExactStatesAfterSaid : Prop := fnExactStatesAfterRow.holds Try.pinned (OpenSpec.ofChange fnExactStatesAfterSpec)

/-- ITS FALSE NEIGHBOUR: 'it returns false'. Refute it at one input. -/
def fnExactStatesAfterWrong : ChangeSpec := { name := "fnExactStatesAfter", fn := fun _ => fun
  | [d1, d2, d3] => { results := [.lit (.bool false)], args := [d1, d2, d3] }
  | _ => none }
def FnExactStatesAfterWrongFalsely : Prop := fnExactStatesAfterRow.holds Try.pinned (OpenSpec.ofChange fnExactStatesAfterWrong)

/-- 'laws.FnExactEvalValue': WHATEVER THE INPUT: true; the input reads as it did. -/
def fnExactEvalValueSpec : ChangeSpec := { name := "fnExactEvalValue", fn := fun _ => fun
  | [d1, d2, d3, d4, d5, d6] => { results := [.lit (.bool true)], args := [d1, d2, d3, d4, d5, d6] }
  | _ => none }
def fnExactEvalValueRow : OpenClaim := { program := "ytjhgpcbbmhdojaa", sum := "b3fff80593d2f304a24d762216444827875fc23fe1d6ab55544a20d4075f7a20", func := "loop.example/g01084/laws.FnExactEvalValue", spec := "fnExactEvalValue", unfollowed := true, recurses := true, apart := false }
def FnExactEvalValueSaid : Prop := fnExactEvalValueRow.holds Try.pinned (OpenSpec.ofChange fnExactEvalValueSpec)

/-- ITS FALSE NEIGHBOUR: 'it returns false'. Refute it at one input. -/
def fnExactEvalValueWrong : ChangeSpec := { name := "fnExactEvalValue", fn := fun _ => fun
  | [d1, d2, d3, d4, d5, d6] => { results := [.lit (.bool false)], args := [d1, d2, d3, d4, d5, d6] }
  | _ => none }
def FnExactEvalValueWrongFalsely : Prop := fnExactEvalValueRow.holds Try.pinned (OpenSpec.ofChange fnExactEvalValueWrong)

/-- 'laws.FnExactIsPortMap': WHATEVER THE INPUT: true; the input reads as it did. -/
def fnExactIsPortMapSpec : ChangeSpec := { name := "fnExactIsPortMap", fn := fun _ => fun
  | [d1, d2, d3] => { results := [.lit (.bool true)], args := [d1, d2, d3] }
  | _ => none }
def fnExactIsPortMapRow : OpenClaim := { program := "ytjhgpcbbmhdojaa", sum := "b3fff80593d2f304a24d762216444827875fc23fe1d6ab55544a20d4075f7a20", func := "loop.example/g01084/laws.FnExactIsPortMap", spec := "fnExactIsPortMap", unfollowed := true, recurses := true, apart := false }
def FnExactIsPortMapSaid : Prop := fnExactIsPortMapRow.holds Try.pinned (OpenSpec.ofChange fnExactIsPortMapSpec)

/-- ITS FALSE NEIGHBOUR: 'it returns false'. Refute it at one input. -/
def fnExactIsPortMapWrong : ChangeSpec := { name := "fnExactIsPortMap", fn := fun _ => fun
  | [d1, d2, d3] => { results := [.lit (.bool false)], args := [d1, d2, d3] }
  | _ => none }
def FnExactIsPortMapWrongFalsely : Prop := fnExactIsPortMapRow.holds Try.pinned (OpenSpec.ofChange fnExactIsPortMapWrong)

/-- 'laws.FnExactIsCovering': WHATEVER THE INPUT: true; the input reads as it did. -/
def fnExactIsCoveringSpec : ChangeSpec := { name := "fnExactIsCovering", fn := fun _ => fun
  | [d1, d2, d3] => { results := [.lit (.bool true)], args := [d1, d2, d3] }
  | _ => none }
def fnExactIsCoveringRow : OpenClaim := { program := "ytjhgpcbbmhdojaa", sum := "b3fff80593d2f304a24d762216444827875fc23fe1d6ab55544a20d4075f7a20", func := "loop.example/g01084/laws.FnExactIsCovering", spec := "fnExactIsCovering", unfollowed := true, recurses := true, apart := false }
def FnExactIsCoveringSaid : Prop := fnExactIsCoveringRow.holds Try.pinned (OpenSpec.ofChange fnExactIsCoveringSpec)

/-- ITS FALSE NEIGHBOUR: 'it returns false'. Refute it at one input. -/
def fnExactIsCoveringWrong : ChangeSpec := { name := "fnExactIsCovering", fn := fun _ => fun
  | [d1, d2, d3] => { results := [.lit (.bool false)], args := [d1, d2, d3] }
  | _ => none }
def FnExactIsCoveringWrongFalsely : Prop := fnExactIsCoveringRow.holds Try.pinned (OpenSpec.ofChange fnExactIsCoveringWrong)

/-- 'laws.FnExactSheetsOf': WHATEVER THE INPUT: true; the input reads as it did. -/
def fnExactSheetsOfSpec : ChangeSpec := { name := "fnExactSheetsOf", fn := fun _ => fun
  | [d1, d2, d3] => { results := [.lit (.bool true)], args := [d1, d2, d3] }
  | _ => none }
def fnExactSheetsOfRow : OpenClaim := { program := "ytjhgpcbbmhdojaa", sum := "b3fff80593d2f304a24d762216444827875fc23fe1d6ab55544a20d4075f7a20", func := "loop.example/g01084/laws.FnExactSheetsOf", spec := "fnExactSheetsOf", unfollowed := true, recurses := true, apart := false }
def FnExactSheetsOfSaid : Prop := fnExactSheetsOfRow.holds Try.pinned (OpenSpec.ofChange fnExactSheetsOfSpec)

/-- ITS FALSE NEIGHBOUR: 'it returns false'. Refute it at one input. -/
def fnExactSheetsOfWrong : ChangeSpec := { name := "fnExactSheetsOf", fn := fun _ => fun
  | [d1, d2, d3] => { results := [.lit (.bool false)], args := [d1, d2, d3] }
  | _ => none }
def FnExactSheetsOfWrongFalsely : Prop := fnExactSheetsOfRow.holds Try.pinned (OpenSpec.ofChange fnExactSheetsOfWrong)

/- THE SECOND FORM. 'bulk': how many values and letters a reading holds, each counted each time it is reached (what is shared counts as often as it is met; a slice's spare places count too). A statement '..UptoSaid' is the law's where the arguments, and the package variables that the reading takes, are together of bulk at most 1048576: NARROWER than '..Said'. Prove '..Said' where nothing that the law and all that it calls make is longer than what came in: it says more and counts as full. Else prove '..UptoSaid'. A law counts once. -/
mutual
def uptoBulk {H : Type} : DataW H → Nat
  | .lit (.string bytes) => bytes.length + 1
  | .lit _ => 1
  | .nil => 1
  | .ptr d => uptoBulk d + 1
  | .slice elems spare => uptoBulkAll elems + uptoBulkAll spare + 1
  | .agg parts => uptoBulkAll parts + 1
  | .iface _ d => uptoBulk d + 1
  | .map entries => uptoBulkEntries entries + 1
  | .held _ => 1
def uptoBulkAll {H : Type} : List (DataW H) → Nat
  | [] => 0
  | d :: r => uptoBulk d + uptoBulkAll r
def uptoBulkEntries {H : Type} : List (Lit × DataW H) → Nat
  | [] => 0
  | x :: r => uptoBulkEntry x + uptoBulkEntries r
def uptoBulkEntry {H : Type} : Lit × DataW H → Nat
  | (.string bytes, d) => bytes.length + uptoBulk d + 1
  | (_, d) => uptoBulk d + 1
 end
def uptoSmall : (H : Type) → List (DataW H) → Bool := fun _ ds => decide (uptoBulkAll ds ≤ 1048576)
def OpenSpec.upto (s : _root_.Go.ChangeSpec) : _root_.Go.OpenSpec := { _root_.Go.OpenSpec.ofChange s with cond := some uptoSmall }

/-- 'laws.FnExactIsValueProgram', WHERE WHAT IT READS IS OF BULK AT MOST 1048576: true; the input reads as it did. -/
def fnExactIsValueProgramUptoRow : OpenClaim := { program := "ytjhgpcbbmhdojaa", sum := "b3fff80593d2f304a24d762216444827875fc23fe1d6ab55544a20d4075f7a20", func := "loop.example/g01084/laws.FnExactIsValueProgram", spec := "fnExactIsValueProgram", apart := false, narrowed := true }
def FnExactIsValueProgramUptoSaid : Prop := fnExactIsValueProgramUptoRow.holds Try.pinned (OpenSpec.upto fnExactIsValueProgramSpec)

/-- 'laws.FnExactNeedsIds', WHERE WHAT IT READS IS OF BULK AT MOST 1048576: true; the input reads as it did. -/
def fnExactNeedsIdsUptoRow : OpenClaim := { program := "ytjhgpcbbmhdojaa", sum := "b3fff80593d2f304a24d762216444827875fc23fe1d6ab55544a20d4075f7a20", func := "loop.example/g01084/laws.FnExactNeedsIds", spec := "fnExactNeedsIds", unfollowed := true, recurses := true, apart := false, narrowed := true }
def FnExactNeedsIdsUptoSaid : Prop := fnExactNeedsIdsUptoRow.holds Try.pinned (OpenSpec.upto fnExactNeedsIdsSpec)

/-- 'laws.FnExactNeedsRound', WHERE WHAT IT READS IS OF BULK AT MOST 1048576: true; the input reads as it did. -/
def fnExactNeedsRoundUptoRow : OpenClaim := { program := "ytjhgpcbbmhdojaa", sum := "b3fff80593d2f304a24d762216444827875fc23fe1d6ab55544a20d4075f7a20", func := "loop.example/g01084/laws.FnExactNeedsRound", spec := "fnExactNeedsRound", unfollowed := true, recurses := true, apart := false, narrowed := true }
def FnExactNeedsRoundUptoSaid : Prop := fnExactNeedsRoundUptoRow.holds Try.pinned (OpenSpec.upto fnExactNeedsRoundSpec)

/-- 'laws.FnExactIsMachine', WHERE WHAT IT READS IS OF BULK AT MOST 1048576: true; the input reads as it did. -/
def fnExactIsMachineUptoRow : OpenClaim := { program := "ytjhgpcbbmhdojaa", sum := "b3fff80593d2f304a24d762216444827875fc23fe1d6ab55544a20d4075f7a20", func := "loop.example/g01084/laws.FnExactIsMachine", spec := "fnExactIsMachine", unfollowed := true, recurses := true, apart := false, narrowed := true }
def FnExactIsMachineUptoSaid : Prop := fnExactIsMachineUptoRow.holds Try.pinned (OpenSpec.upto fnExactIsMachineSpec)

/-- 'laws.FnExactClauseFor', WHERE WHAT IT READS IS OF BULK AT MOST 1048576: true; the input reads as it did. -/
def fnExactClauseForUptoRow : OpenClaim := { program := "ytjhgpcbbmhdojaa", sum := "b3fff80593d2f304a24d762216444827875fc23fe1d6ab55544a20d4075f7a20", func := "loop.example/g01084/laws.FnExactClauseFor", spec := "fnExactClauseFor", unfollowed := true, recurses := true, apart := false, narrowed := true }
def FnExactClauseForUptoSaid : Prop := fnExactClauseForUptoRow.holds Try.pinned (OpenSpec.upto fnExactClauseForSpec)

/-- 'laws.FnExactReachableStates', WHERE WHAT IT READS IS OF BULK AT MOST 1048576: true; the input reads as it did. -/
def fnExactReachableStatesUptoRow : OpenClaim := { program := "ytjhgpcbbmhdojaa", sum := "b3fff80593d2f304a24d762216444827875fc23fe1d6ab55544a20d4075f7a20", func := "loop.example/g01084/laws.FnExactReachableStates", spec := "fnExactReachableStates", unfollowed := true, recurses := true, apart := false, narrowed := true }
def FnExactReachableStatesUptoSaid : Prop := fnExactReachableStatesUptoRow.holds Try.pinned (OpenSpec.upto fnExactReachableStatesSpec)

/-- 'laws.FnExactStatesAfter', WHERE WHAT IT READS IS OF BULK AT MOST 1048576: true; the input reads as it did. -/
def fnExactStatesAfterUptoRow : OpenClaim := { program := "ytjhgpcbbmhdojaa", sum := "b3fff80593d2f304a24d762216444827875fc23fe1d6ab55544a20d4075f7a20", func := "loop.example/g01084/laws.FnExactStatesAfter", spec := "fnExactStatesAfter", unfollowed := true, recurses := true, apart := false, narrowed := true }
def FnExactStatesAfterUptoSaid : Prop := fnExactStatesAfterUptoRow.holds Try.pinned (OpenSpec.upto fnExactStatesAfterSpec)

/-- 'laws.FnExactEvalValue', WHERE WHAT IT READS IS OF BULK AT MOST 1048576: true; the input reads as it did. -/
def fnExactEvalValueUptoRow : OpenClaim := { program := "ytjhgpcbbmhdojaa", sum := "b3fff80593d2f304a24d762216444827875fc23fe1d6ab55544a20d4075f7a20", func := "loop.example/g01084/laws.FnExactEvalValue", spec := "fnExactEvalValue", unfollowed := true, recurses := true, apart := false, narrowed := true }
def FnExactEvalValueUptoSaid : Prop := fnExactEvalValueUptoRow.holds Try.pinned (OpenSpec.upto fnExactEvalValueSpec)

/-- 'laws.FnExactIsPortMap', WHERE WHAT IT READS IS OF BULK AT MOST 1048576: true; the input reads as it did. -/
def fnExactIsPortMapUptoRow : OpenClaim := { program := "ytjhgpcbbmhdojaa", sum := "b3fff80593d2f304a24d762216444827875fc23fe1d6ab55544a20d4075f7a20", func := "loop.example/g01084/laws.FnExactIsPortMap", spec := "fnExactIsPortMap", unfollowed := true, recurses := true, apart := false, narrowed := true }
def FnExactIsPortMapUptoSaid : Prop := fnExactIsPortMapUptoRow.holds Try.pinned (OpenSpec.upto fnExactIsPortMapSpec)

/-- 'laws.FnExactIsCovering', WHERE WHAT IT READS IS OF BULK AT MOST 1048576: true; the input reads as it did. -/
def fnExactIsCoveringUptoRow : OpenClaim := { program := "ytjhgpcbbmhdojaa", sum := "b3fff80593d2f304a24d762216444827875fc23fe1d6ab55544a20d4075f7a20", func := "loop.example/g01084/laws.FnExactIsCovering", spec := "fnExactIsCovering", unfollowed := true, recurses := true, apart := false, narrowed := true }
def FnExactIsCoveringUptoSaid : Prop := fnExactIsCoveringUptoRow.holds Try.pinned (OpenSpec.upto fnExactIsCoveringSpec)

/-- 'laws.FnExactSheetsOf', WHERE WHAT IT READS IS OF BULK AT MOST 1048576: true; the input reads as it did. -/
def fnExactSheetsOfUptoRow : OpenClaim := { program := "ytjhgpcbbmhdojaa", sum := "b3fff80593d2f304a24d762216444827875fc23fe1d6ab55544a20d4075f7a20", func := "loop.example/g01084/laws.FnExactSheetsOf", spec := "fnExactSheetsOf", unfollowed := true, recurses := true, apart := false, narrowed := true }
def FnExactSheetsOfUptoSaid : Prop := fnExactSheetsOfUptoRow.holds Try.pinned (OpenSpec.upto fnExactSheetsOfSpec)

end Rows
end Go.Proofs.Ytjhgpcbbmhdojaa
