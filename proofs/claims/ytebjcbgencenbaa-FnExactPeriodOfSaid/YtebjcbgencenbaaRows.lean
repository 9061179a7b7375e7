/-
  No cell of these rows narrows 'for every input' (looked for: loops, veiled, ifaces, maps, wideKeys, modest, calm, conditions, laid).
  DERIVED. THE GIVEN ROWS OF THIS SEAT. 9 by the template 'for every input the law returns true; each argument reads behind the call as it read before'; 0 by the template 'total and deterministic' (their statements: YtebjcbgencenbaaTotals.lean).
  GIVEN WITH THE SEED: the statements are not yours to turn. If you find one false, say at which input.
  Laid BY PROGRAM, IN A SANDBOX (cutbox-rows.mjs): the forced cells as the released guide's own fill.sh prints them over the translation 72f2b7853b9cc2a9… (all of the seat's roots in one cut). By AI agents, Wed Nov 11 2026. No macro, syntax, notation, axiom, sorry.
-/
import Derived.Test.YtebjcbgencenbaaChecked
import GoSem.Claim
import GoSem.ClaimJoined
import GoSem.ClaimMapViews
import Derived.JoinedTies
import Derived.KernelRfl
namespace Go.Proofs.Ytebjcbgencenbaa
/- THE CELL 'sum', in the pinned program and in every row, IS THE sha256 OF THE DUMP (.gsa) THAT YtebjcbgencenbaaProg.lean LOADS. Nothing in Lean hashes anything: it is a label: what it is worth is what the hold of that sum in a sandbox is worth. -/
noncomputable def Try.pinned : Pinned := { name := "ytebjcbgencenbaa", sum := "72f2b7853b9cc2a9c77929ecec5010c5fc46472c6129489cc37aeacd347b11aa", checked := Try.checked }
namespace Rows
def none {H : Type} : Left H := { results := [], args := [] }

/-- 'laws.FnExactRunsOn': WHATEVER THE INPUT: true; the input reads as it did. -/
def fnExactRunsOnSpec : ChangeSpec := { name := "fnExactRunsOn", fn := fun _ => fun
  | [d1, d2] => { results := [.lit (.bool true)], args := [d1, d2] }
  | _ => none }
def fnExactRunsOnRow : OpenClaim := { program := "ytebjcbgencenbaa", sum := "72f2b7853b9cc2a9c77929ecec5010c5fc46472c6129489cc37aeacd347b11aa", func := "loop.example/g01084/laws.FnExactRunsOn", spec := "fnExactRunsOn", unfollowed := true, recurses := true, apart := false }
def FnExactRunsOnSaid : Prop := fnExactRunsOnRow.holds Try.pinned (OpenSpec.ofChange fnExactRunsOnSpec)

/-- ITS FALSE NEIGHBOUR: 'it returns false'. Refute it at one input. -/
def fnExactRunsOnWrong : ChangeSpec := { name := "fnExactRunsOn", fn := fun _ => fun
  | [d1, d2] => { results := [.lit (.bool false)], args := [d1, d2] }
  | _ => none }
def FnExactRunsOnWrongFalsely : Prop := fnExactRunsOnRow.holds Try.pinned (OpenSpec.ofChange fnExactRunsOnWrong)

/-- 'laws.FnExactStartStates': WHATEVER THE INPUT: true; the input reads as it did. -/
def fnExactStartStatesSpec : ChangeSpec := { name := "fnExactStartStates", fn := fun _ => fun
  | [d1, d2] => { results := [.lit (.bool true)], args := [d1, d2] }
  | _ => none }
def fnExactStartStatesRow : OpenClaim := { program := "ytebjcbgencenbaa", sum := "72f2b7853b9cc2a9c77929ecec5010c5fc46472c6129489cc37aeacd347b11aa", func := "loop.example/g01084/laws.FnExactStartStates", spec := "fnExactStartStates", unfollowed := true, recurses := true, apart := false }
def FnExactStartStatesSaid : Prop := fnExactStartStatesRow.holds Try.pinned (OpenSpec.ofChange fnExactStartStatesSpec)

/-- ITS FALSE NEIGHBOUR: 'it returns false'. Refute it at one input. -/
def fnExactStartStatesWrong : ChangeSpec := { name := "fnExactStartStates", fn := fun _ => fun
  | [d1, d2] => { results := [.lit (.bool false)], args := [d1, d2] }
  | _ => none }
def FnExactStartStatesWrongFalsely : Prop := fnExactStartStatesRow.holds Try.pinned (OpenSpec.ofChange fnExactStartStatesWrong)

/-- 'laws.FnExactInboxesOf': WHATEVER THE INPUT: true; the input reads as it did. -/
def fnExactInboxesOfSpec : ChangeSpec := { name := "fnExactInboxesOf", fn := fun _ => fun
  | [d1, d2, d3] => { results := [.lit (.bool true)], args := [d1, d2, d3] }
  | _ => none }
def fnExactInboxesOfRow : OpenClaim := { program := "ytebjcbgencenbaa", sum := "72f2b7853b9cc2a9c77929ecec5010c5fc46472c6129489cc37aeacd347b11aa", func := "loop.example/g01084/laws.FnExactInboxesOf", spec := "fnExactInboxesOf", unfollowed := true, recurses := true, apart := false }
def FnExactInboxesOfSaid : Prop := fnExactInboxesOfRow.holds Try.pinned (OpenSpec.ofChange fnExactInboxesOfSpec)

/-- ITS FALSE NEIGHBOUR: 'it returns false'. Refute it at one input. -/
def fnExactInboxesOfWrong : ChangeSpec := { name := "fnExactInboxesOf", fn := fun _ => fun
  | [d1, d2, d3] => { results := [.lit (.bool false)], args := [d1, d2, d3] }
  | _ => none }
def FnExactInboxesOfWrongFalsely : Prop := fnExactInboxesOfRow.holds Try.pinned (OpenSpec.ofChange fnExactInboxesOfWrong)

/-- 'laws.FnExactStepMachine': WHATEVER THE INPUT: true; the input reads as it did. -/
def fnExactStepMachineSpec : ChangeSpec := { name := "fnExactStepMachine", fn := fun _ => fun
  | [d1, d2, d3] => { results := [.lit (.bool true)], args := [d1, d2, d3] }
  | _ => none }
def fnExactStepMachineRow : OpenClaim := { program := "ytebjcbgencenbaa", sum := "72f2b7853b9cc2a9c77929ecec5010c5fc46472c6129489cc37aeacd347b11aa", func := "loop.example/g01084/laws.FnExactStepMachine", spec := "fnExactStepMachine", unfollowed := true, recurses := true, apart := false }
def FnExactStepMachineSaid : Prop := fnExactStepMachineRow.holds Try.pinned (OpenSpec.ofChange fnExactStepMachineSpec)

/-- ITS FALSE NEIGHBOUR: 'it returns false'. Refute it at one input. -/
def fnExactStepMachineWrong : ChangeSpec := { name := "fnExactStepMachine", fn := fun _ => fun
  | [d1, d2, d3] => { results := [.lit (.bool false)], args := [d1, d2, d3] }
  | _ => none }
def FnExactStepMachineWrongFalsely : Prop := fnExactStepMachineRow.holds Try.pinned (OpenSpec.ofChange fnExactStepMachineWrong)

/-- 'laws.FnExactRunMachine': WHATEVER THE INPUT: true; the input reads as it did. -/
def fnExactRunMachineSpec : ChangeSpec := { name := "fnExactRunMachine", fn := fun _ => fun
  | [d1, d2, d3] => { results := [.lit (.bool true)], args := [d1, d2, d3] }
  | _ => none }
def fnExactRunMachineRow : OpenClaim := { program := "ytebjcbgencenbaa", sum := "72f2b7853b9cc2a9c77929ecec5010c5fc46472c6129489cc37aeacd347b11aa", func := "loop.example/g01084/laws.FnExactRunMachine", spec := "fnExactRunMachine", unfollowed := true, recurses := true, apart := false }
def FnExactRunMachineSaid : Prop := fnExactRunMachineRow.holds Try.pinned (OpenSpec.ofChange fnExactRunMachineSpec)

/-- ITS FALSE NEIGHBOUR: 'it returns false'. Refute it at one input. -/
def fnExactRunMachineWrong : ChangeSpec := { name := "fnExactRunMachine", fn := fun _ => fun
  | [d1, d2, d3] => { results := [.lit (.bool false)], args := [d1, d2, d3] }
  | _ => none }
def FnExactRunMachineWrongFalsely : Prop := fnExactRunMachineRow.holds Try.pinned (OpenSpec.ofChange fnExactRunMachineWrong)

/-- 'laws.FnExactStatesAfter': WHATEVER THE INPUT: true; the input reads as it did. -/
def fnExactStatesAfterSpec : ChangeSpec := { name := "fnExactStatesAfter", fn := fun _ => fun
  | [d1, d2, d3] => { results := [.lit (.bool true)], args := [d1, d2, d3] }
  | _ => none }
def fnExactStatesAfterRow : OpenClaim := { program := "ytebjcbgencenbaa", sum := "72f2b7853b9cc2a9c77929ecec5010c5fc46472c6129489cc37aeacd347b11aa", func := "loop.example/g01084/laws.FnExactStatesAfter", spec := "fnExactStatesAfter", unfollowed := true, recurses := true, apart := false }
def FnExactStatesAfterSaid : Prop := fnExactStatesAfterRow.holds Try.pinned (OpenSpec.ofChange fnExactStatesAfterSpec)

/-- ITS FALSE NEIGHBOUR: 'it returns false'. Refute it at one input. -/
def fnExactStatesAfterWrong : ChangeSpec := { name := "fnExactStatesAfter", fn := fun _ => fun
  | [d1, d2, d3] => { results := [.lit (.bool false)], args := [d1, d2, d3] }
  | _ => none }
def FnExactStatesAfterWrongFalsely : Prop := fnExactStatesAfterRow.holds Try.pinned (OpenSpec.ofChange fnExactStatesAfterWrong)

/-- 'laws.FnExactHaltingRound': WHATEVER THE INPUT: true; the input reads as it did. -/
def fnExactHaltingRoundSpec : ChangeSpec := { name := "fnExactHaltingRound", fn := fun _ => fun
  | [d1, d2, d3] => { results := [.lit (.bool true)], args := [d1, d2, d3] }
  | _ => none }
def fnExactHaltingRoundRow : OpenClaim := { program := "ytebjcbgencenbaa", sum := "72f2b7853b9cc2a9c77929ecec5010c5fc46472c6129489cc37aeacd347b11aa", func := "loop.example/g01084/laws.FnExactHaltingRound", spec := "fnExactHaltingRound", unfollowed := true, recurses := true, apart := false }
def FnExactHaltingRoundSaid : Prop := fnExactHaltingRoundRow.holds Try.pinned (OpenSpec.ofChange fnExactHaltingRoundSpec)

/-- ITS FALSE NEIGHBOUR: 'it returns false'. Refute it at one input. -/
def fnExactHaltingRoundWrong : ChangeSpec := { name := "fnExactHaltingRound", fn := fun _ => fun
  | [d1, d2, d3] => { results := [.lit (.bool false)], args := [d1, d2, d3] }
  | _ => none }
def FnExactHaltingRoundWrongFalsely : Prop := fnExactHaltingRoundRow.holds Try.pinned (OpenSpec.ofChange fnExactHaltingRoundWrong)

/-- 'laws.FnExactFirstFaultOfRun': WHATEVER THE INPUT: true; the input reads as it did. -/
def fnExactFirstFaultOfRunSpec : ChangeSpec := { name := "fnExactFirstFaultOfRun", fn := fun _ => fun
  | [d1, d2, d3] => { results := [.lit (.bool true)], args := [d1, d2, d3] }
  | _ => none }
def fnExactFirstFaultOfRunRow : OpenClaim := { program := "ytebjcbgencenbaa", sum := "72f2b7853b9cc2a9c77929ecec5010c5fc46472c6129489cc37aeacd347b11aa", func := "loop.example/g01084/laws.FnExactFirstFaultOfRun", spec := "fnExactFirstFaultOfRun", unfollowed := true, recurses := true, apart := false }
def FnExactFirstFaultOfRunSaid : Prop := fnExactFirstFaultOfRunRow.holds Try.pinned (OpenSpec.ofChange fnExactFirstFaultOfRunSpec)

/-- ITS FALSE NEIGHBOUR: 'it returns false'. Refute it at one input. -/
def fnExactFirstFaultOfRunWrong : ChangeSpec := { name := "fnExactFirstFaultOfRun", fn := fun _ => fun
  | [d1, d2, d3] => { results := [.lit (.bool false)], args := [d1, d2, d3] }
  | _ => none }
def FnExactFirstFaultOfRunWrongFalsely : Prop := fnExactFirstFaultOfRunRow.holds Try.pinned (OpenSpec.ofChange fnExactFirstFaultOfRunWrong)

/-- 'laws.FnExactPeriodOf': WHATEVER THE INPUT: true; the input reads as it did. -/
def fnExactPeriodOfSpec : ChangeSpec := { name := "fnExactPeriodOf", fn := fun _ => fun
  | [d1, d2, d3] => { results := [.lit (.bool true)], args := [d1, d2, d3] }
  | _ => none }
def fnExactPeriodOfRow : OpenClaim := { program := "ytebjcbgencenbaa", sum := "72f2b7853b9cc2a9c77929ecec5010c5fc46472c6129489cc37aeacd347b11aa", func := "loop.example/g01084/laws.FnExactPeriodOf", spec := "fnExactPeriodOf", unfollowed := true, recurses := true, apart := false }
def FnExactPeriodOfSaid : Prop := fnExactPeriodOfRow.holds Try.pinned (OpenSpec.ofChange fnExactPeriodOfSpec)

/-- ITS FALSE NEIGHBOUR: 'it returns false'. Refute it at one input. -/
def fnExactPeriodOfWrong : ChangeSpec := { name := "fnExactPeriodOf", fn := fun _ => fun
  | [d1, d2, d3] => { results := [.lit (.bool false)], args := [d1, d2, d3] }
  | _ => none }
def FnExactPeriodOfWrongFalsely : Prop := fnExactPeriodOfRow.holds Try.pinned (OpenSpec.ofChange fnExactPeriodOfWrong)

/- THE SECOND FORM. 'bulk': how many values and letters a reading holds, each counted each time it is reached (what is shared counts as often as it is met; a slice's spare places count too). A statement '..UptoSaid' is the law's where the arguments, and the package variables that the reading takes, are together of bulk at most 1048576: NARROWER than '..Said'. Prove '..Said' where nothing that the law and all that it calls make is longer than what came in: it says more and counts as full. Else prove '..UptoSaid'. A law counts once. -/
mutual
def uptoBulk {H : Type} : DataW H → Nat
  | .lit (.string bytes) => bytes.length + 1
  | .lit _ => 1
  | .nil => 1
  | .ptr d => uptoBulk d + 1
  | .slice elems spare => uptoBulkAll elems + uptoBulkAll spare + 1
  | .agg parts => uptoBulkAll parts + 1
  | .iface _ d => uptoBulk d + 1
  | .map entries => uptoBulkEntries entries + 1
  | .held _ => 1
def uptoBulkAll {H : Type} : List (DataW H) → Nat
  | [] => 0
  | d :: r => uptoBulk d + uptoBulkAll r
def uptoBulkEntries {H : Type} : List (Lit × DataW H) → Nat
  | [] => 0
  | x :: r => uptoBulkEntry x + uptoBulkEntries r
def uptoBulkEntry {H : Type} : Lit × DataW H → Nat
  | (.string bytes, d) => bytes.length + uptoBulk d + 1
  | (_, d) => uptoBulk d + 1
 end
def uptoSmall : (H : Type) → List (DataW H) → Bool := fun _ ds => decide (uptoBulkAll ds ≤ 1048576)
def OpenSpec.upto (s : _root_.Go.ChangeSpec) : _root_.Go.OpenSpec := { _root_.Go.OpenSpec.ofChange s with cond := some uptoSmall }

/-- 'laws.FnExactRunsOn', WHERE WHAT IT READS IS OF BULK AT MOST 1048576: true; the input reads as it did. -/
def fnExactRunsOnUptoRow : OpenClaim := { program := "ytebjcbgencenbaa", sum := "72f2b7853b9cc2a9c77929ecec5010c5fc46472c6129489cc37aeacd347b11aa", func := "loop.example/g01084/laws.FnExactRunsOn", spec := "fnExactRunsOn", unfollowed := true, recurses := true, apart := false, narrowed := true }
def FnExactRunsOnUptoSaid : Prop := fnExactRunsOnUptoRow.holds Try.pinned (OpenSpec.upto fnExactRunsOnSpec)

/-- 'laws.FnExactStartStates', WHERE WHAT IT READS IS OF BULK AT MOST 1048576: true; the input reads as it did. -/
def fnExactStartStatesUptoRow : OpenClaim := { program := "ytebjcbgencenbaa", sum := "72f2b7853b9cc2a9c77929ecec5010c5fc46472c6129489cc37aeacd347b11aa", func := "loop.example/g01084/laws.FnExactStartStates", spec := "fnExactStartStates", unfollowed := true, recurses := true, apart := false, narrowed := true }
def FnExactStartStatesUptoSaid : Prop := fnExactStartStatesUptoRow.holds Try.pinned (OpenSpec.upto fnExactStartStatesSpec)

/-- 'laws.FnExactInboxesOf', WHERE WHAT IT READS IS OF BULK AT MOST 1048576: true; the input reads as it did. -/
def fnExactInboxesOfUptoRow : OpenClaim := { program := "ytebjcbgencenbaa", sum := "72f2b7853b9cc2a9c77929ecec5010c5fc46472c6129489cc37aeacd347b11aa", func := "loop.example/g01084/laws.FnExactInboxesOf", spec := "fnExactInboxesOf", unfollowed := true, recurses := true, apart := false, narrowed := true }
def FnExactInboxesOfUptoSaid : Prop := fnExactInboxesOfUptoRow.holds Try.pinned (OpenSpec.upto fnExactInboxesOfSpec)

/-- 'laws.FnExactStepMachine', WHERE WHAT IT READS IS OF BULK AT MOST 1048576: true; the input reads as it did. -/
def fnExactStepMachineUptoRow : OpenClaim := { program := "ytebjcbgencenbaa", sum := "72f2b7853b9cc2a9c77929ecec5010c5fc46472c6129489cc37aeacd347b11aa", func := "loop.example/g01084/laws.FnExactStepMachine", spec := "fnExactStepMachine", unfollowed := true, recurses := true, apart := false, narrowed := true }
def FnExactStepMachineUptoSaid : Prop := fnExactStepMachineUptoRow.holds Try.pinned (OpenSpec.upto fnExactStepMachineSpec)

/-- 'laws.FnExactRunMachine', WHERE WHAT IT READS IS OF BULK AT MOST 1048576: true; the input reads as it did. -/
def fnExactRunMachineUptoRow : OpenClaim := { program := "ytebjcbgencenbaa", sum := "72f2b7853b9cc2a9c77929ecec5010c5fc46472c6129489cc37aeacd347b11aa", func := "loop.example/g01084/laws.FnExactRunMachine", spec := "fnExactRunMachine", unfollowed := true, recurses := true, apart := false, narrowed := true }
def FnExactRunMachineUptoSaid : Prop := fnExactRunMachineUptoRow.holds Try.pinned (OpenSpec.upto fnExactRunMachineSpec)

/-- 'laws.FnExactStatesAfter', WHERE WHAT IT READS IS OF BULK AT MOST 1048576: true; the input reads as it did. -/
def fnExactStatesAfterUptoRow : OpenClaim := { program := "ytebjcbgencenbaa", sum := "72f2b7853b9cc2a9c77929ecec5010c5fc46472c6129489cc37aeacd347b11aa", func := "loop.example/g01084/laws.FnExactStatesAfter", spec := "fnExactStatesAfter", unfollowed := true, recurses := true, apart := false, narrowed := true }
def FnExactStatesAfterUptoSaid : Prop := fnExactStatesAfterUptoRow.holds Try.pinned (OpenSpec.upto fnExactStatesAfterSpec)

/-- 'laws.FnExactHaltingRound', WHERE WHAT IT READS IS OF BULK AT MOST 1048576: true; the input reads as it did. -/
def fnExactHaltingRoundUptoRow : OpenClaim := { program := "ytebjcbgencenbaa", sum := "72f2b7853b9cc2a9c77929ecec5010c5fc46472c6129489cc37aeacd347b11aa", func := "loop.example/g01084/laws.FnExactHaltingRound", spec := "fnExactHaltingRound", unfollowed := true, recurses := true, apart := false, narrowed := true }
def FnExactHaltingRoundUptoSaid : Prop := fnExactHaltingRoundUptoRow.holds Try.pinned (OpenSpec.upto fnExactHaltingRoundSpec)

/-- 'laws.FnExactFirstFaultOfRun', WHERE WHAT IT READS IS OF BULK AT MOST 1048576: true; the input reads as it did. -/
def fnExactFirstFaultOfRunUptoRow : OpenClaim := { program := "ytebjcbgencenbaa", sum := "72f2b7853b9cc2a9c77929ecec5010c5fc46472c6129489cc37aeacd347b11aa", func := "loop.example/g01084/laws.FnExactFirstFaultOfRun", spec := "fnExactFirstFaultOfRun", unfollowed := true, recurses := true, apart := false, narrowed := true }
def FnExactFirstFaultOfRunUptoSaid : Prop := fnExactFirstFaultOfRunUptoRow.holds Try.pinned (OpenSpec.upto fnExactFirstFaultOfRunSpec)

/-- 'laws.FnExactPeriodOf', WHERE WHAT IT READS IS OF BULK AT MOST 1048576: true; the input reads as it did. -/
def fnExactPeriodOfUptoRow : OpenClaim := { program := "ytebjcbgencenbaa", sum := "72f2b7853b9cc2a9c77929ecec5010c5fc46472c6129489cc37aeacd347b11aa", func := "loop.example/g01084/laws.FnExactPeriodOf", spec := "fnExactPeriodOf", unfollowed := true, recurses := true, apart := false, narrowed := true }
def FnExactPeriodOfUptoSaid : Prop := fnExactPeriodOfUptoRow.holds Try.pinned (OpenSpec.upto fnExactPeriodOfSpec)

end Rows
end Go.Proofs.Ytebjcbgencenbaa
