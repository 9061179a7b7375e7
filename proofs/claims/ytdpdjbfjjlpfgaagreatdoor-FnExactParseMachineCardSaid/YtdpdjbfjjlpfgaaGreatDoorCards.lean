/-
  DERIVED. GIVEN WITH THE SEED: THE CARDS: each row of YtdpdjbfjjlpfgaaGreatDoorRows.lean that lists a variable, with what it lists TIED to the program's text (the seventh form; the later family's looks); each row that meets fmt, with fmt's text TOLD by the authors' own Lean function (tested against real Go, not proved from fmt's source: count such statements apart). THE CARD IS WHAT COUNTS. Prove the row's statement (the work); the ties are given (YtdpdjbfjjlpfgaaGreatDoorTie.lean); close each card by the builder's one call (the guide's Derived/Test/ToyasCard.lean, 'card_holds'). Laid BY PROGRAM, IN A SANDBOX (cutbox-door.mjs). By AI agents, Wed Nov 11 2026. No macro, syntax, notation, axiom, sorry.
-/
import Derived.Test.YtdpdjbfjjlpfgaaGreatDoorRows
import GoSem.ClaimSeven
namespace Go.Proofs.YtdpdjbfjjlpfgaaGreatDoor
namespace Rows

/-- THE TIED CARD OF 'laws.FnExactParseMachine'. -/
def fnExactParseMachineCard : Claim7 := { stood := { row := fnExactParseMachineRow, standIns := [], harness := (true, "f0e543e1141145feb87f11e4e4cee3977a9cbeb471664fb380b32b07a61bceab"), looks := true }, kinds := [], alts := [], laidByText := true, laidKinds := [.data, .data, .data, .data, .sentinel, .sentinel, .pinned], laidTests := true, laidLooks := .later }
def FnExactParseMachineCardSaid : Prop := Claim7.holds Tryz.pinned (.plain (OpenSpec.ofChange fnExactParseMachineSpec)) fnExactParseMachineCard

/-- THE SECOND FORM's CARD OF 'laws.FnExactParseMachine'. -/
def fnExactParseMachineUptoCard : Claim7 := { stood := { row := fnExactParseMachineUptoRow, standIns := [], harness := (true, "f0e543e1141145feb87f11e4e4cee3977a9cbeb471664fb380b32b07a61bceab"), looks := true }, kinds := [], alts := [], laidByText := true, laidKinds := [.data, .data, .data, .data, .sentinel, .sentinel, .pinned], laidTests := true, laidLooks := .later }
def FnExactParseMachineUptoCardSaid : Prop := Claim7.holds Tryz.pinned (.plain (OpenSpec.upto fnExactParseMachineSpec)) fnExactParseMachineUptoCard
end Rows
end Go.Proofs.YtdpdjbfjjlpfgaaGreatDoor
