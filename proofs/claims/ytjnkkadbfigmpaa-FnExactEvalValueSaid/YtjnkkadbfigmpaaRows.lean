/-
  No cell of these rows narrows 'for every input' (looked for: loops, veiled, ifaces, maps, wideKeys, modest, calm, conditions, laid).
  DERIVED. THE GIVEN ROWS OF THIS SEAT. 8 by the template 'for every input the law returns true; each argument reads behind the call as it read before'; 0 by the template 'total and deterministic' (their statements: YtjnkkadbfigmpaaTotals.lean).
  GIVEN WITH THE SEED: the statements are not yours to turn. If you find one false, say at which input.
  Laid BY PROGRAM, IN A SANDBOX (cutbox-rows.mjs): the forced cells as the released guide's own fill.sh prints them over the translation 6a27768f7b64a3a7… (all of the seat's roots in one cut). By AI agents, Wed Nov 11 2026. No macro, syntax, notation, axiom, sorry.
-/
import Derived.Test.YtjnkkadbfigmpaaChecked
import GoSem.Claim
import GoSem.ClaimJoined
import GoSem.ClaimMapViews
import Derived.JoinedTies
import Derived.KernelRfl
namespace Go.Proofs.Ytjnkkadbfigmpaa
/- THE CELL 'sum', in the pinned program and in every row, IS THE sha256 OF THE DUMP (.gsa) THAT YtjnkkadbfigmpaaProg.lean LOADS. Nothing in Lean hashes anything: it is a label: what it is worth is what the hold of that sum in a sandbox is worth. -/
noncomputable def Try.pinned : Pinned := { name := "ytjnkkadbfigmpaa", sum := "6a27768f7b64a3a752a2c0a852be63d213999666c89af12ae9e33272e9092ea3", checked := Try.checked }
namespace Rows
def none {H : Type} : Left H := { results := [], args := [] }

/-- 'laws.FnExactTwinClasses': WHATEVER THE INPUT: true; the input reads as it did. -/
def fnExactTwinClassesSpec : ChangeSpec := { name := "fnExactTwinClasses", fn := fun _ => fun
  | [d] => { results := [.lit (.bool true)], args := [d] }
  | _ => none }
def fnExactTwinClassesRow : OpenClaim := { program := "ytjnkkadbfigmpaa", sum := "6a27768f7b64a3a752a2c0a852be63d213999666c89af12ae9e33272e9092ea3", func := "loop.example/g01084/laws.FnExactTwinClasses", spec := "fnExactTwinClasses", unfollowed := true, recurses := true, plainKeys := false, apart := false }
def FnExactTwinClassesSaid : Prop := fnExactTwinClassesRow.holds Try.pinned (OpenSpec.ofChange fnExactTwinClassesSpec)

/-- ITS FALSE NEIGHBOUR: 'it returns false'. Refute it at one input. -/
def fnExactTwinClassesWrong : ChangeSpec := { name := "fnExactTwinClasses", fn := fun _ => fun
  | [d] => { results := [.lit (.bool false)], args := [d] }
  | _ => none }
def FnExactTwinClassesWrongFalsely : Prop := fnExactTwinClassesRow.holds Try.pinned (OpenSpec.ofChange fnExactTwinClassesWrong)

/-- 'laws.FnExactExtendMap': WHATEVER THE INPUT: true; the input reads as it did. -/
def fnExactExtendMapSpec : ChangeSpec := { name := "fnExactExtendMap", fn := fun _ => fun
  | [d1, d2, d3] => { results := [.lit (.bool true)], args := [d1, d2, d3] }
  | _ => none }
def fnExactExtendMapRow : OpenClaim := { program := "ytjnkkadbfigmpaa", sum := "6a27768f7b64a3a752a2c0a852be63d213999666c89af12ae9e33272e9092ea3", func := "loop.example/g01084/laws.FnExactExtendMap", spec := "fnExactExtendMap", unfollowed := true, recurses := true, plainKeys := false, apart := false }
def FnExactExtendMapSaid : Prop := fnExactExtendMapRow.holds Try.pinned (OpenSpec.ofChange fnExactExtendMapSpec)

/-- ITS FALSE NEIGHBOUR: 'it returns false'. Refute it at one input. -/
def fnExactExtendMapWrong : ChangeSpec := { name := "fnExactExtendMap", fn := fun _ => fun
  | [d1, d2, d3] => { results := [.lit (.bool false)], args := [d1, d2, d3] }
  | _ => none }
def FnExactExtendMapWrongFalsely : Prop := fnExactExtendMapRow.holds Try.pinned (OpenSpec.ofChange fnExactExtendMapWrong)

/-- 'laws.FnExactPullPorts': WHATEVER THE INPUT: true; the input reads as it did. -/
def fnExactPullPortsSpec : ChangeSpec := { name := "fnExactPullPorts", fn := fun _ => fun
  | [d1, d2, d3, d4] => { results := [.lit (.bool true)], args := [d1, d2, d3, d4] }
  | _ => none }
def fnExactPullPortsRow : OpenClaim := { program := "ytjnkkadbfigmpaa", sum := "6a27768f7b64a3a752a2c0a852be63d213999666c89af12ae9e33272e9092ea3", func := "loop.example/g01084/laws.FnExactPullPorts", spec := "fnExactPullPorts", unfollowed := true, recurses := true, plainKeys := false, apart := false }
def FnExactPullPortsSaid : Prop := fnExactPullPortsRow.holds Try.pinned (OpenSpec.ofChange fnExactPullPortsSpec)

/-- ITS FALSE NEIGHBOUR: 'it returns false'. Refute it at one input. -/
def fnExactPullPortsWrong : ChangeSpec := { name := "fnExactPullPorts", fn := fun _ => fun
  | [d1, d2, d3, d4] => { results := [.lit (.bool false)], args := [d1, d2, d3, d4] }
  | _ => none }
def FnExactPullPortsWrongFalsely : Prop := fnExactPullPortsRow.holds Try.pinned (OpenSpec.ofChange fnExactPullPortsWrong)

/-- 'laws.FnExactPortMapsBetween': WHATEVER THE INPUT: true; the input reads as it did. -/
def fnExactPortMapsBetweenSpec : ChangeSpec := { name := "fnExactPortMapsBetween", fn := fun _ => fun
  | [d1, d2] => { results := [.lit (.bool true)], args := [d1, d2] }
  | _ => none }
def fnExactPortMapsBetweenRow : OpenClaim := { program := "ytjnkkadbfigmpaa", sum := "6a27768f7b64a3a752a2c0a852be63d213999666c89af12ae9e33272e9092ea3", func := "loop.example/g01084/laws.FnExactPortMapsBetween", spec := "fnExactPortMapsBetween", unfollowed := true, recurses := true, plainKeys := false, apart := false }
def FnExactPortMapsBetweenSaid : Prop := fnExactPortMapsBetweenRow.holds Try.pinned (OpenSpec.ofChange fnExactPortMapsBetweenSpec)

/-- ITS FALSE NEIGHBOUR: 'it returns false'. Refute it at one input. -/
def fnExactPortMapsBetweenWrong : ChangeSpec := { name := "fnExactPortMapsBetween", fn := fun _ => fun
  | [d1, d2] => { results := [.lit (.bool false)], args := [d1, d2] }
  | _ => none }
def FnExactPortMapsBetweenWrongFalsely : Prop := fnExactPortMapsBetweenRow.holds Try.pinned (OpenSpec.ofChange fnExactPortMapsBetweenWrong)

/-- 'laws.FnExactSameView': WHATEVER THE INPUT: true; the input reads as it did. -/
def fnExactSameViewSpec : ChangeSpec := { name := "fnExactSameView", fn := fun _ => fun
  | [d1, d2, d3, d4, d5] => { results := [.lit (.bool true)], args := [d1, d2, d3, d4, d5] }
  | _ => none }
def fnExactSameViewRow : OpenClaim := { program := "ytjnkkadbfigmpaa", sum := "6a27768f7b64a3a752a2c0a852be63d213999666c89af12ae9e33272e9092ea3", func := "loop.example/g01084/laws.FnExactSameView", spec := "fnExactSameView", unfollowed := true, recurses := true, plainKeys := false, apart := false }
def FnExactSameViewSaid : Prop := fnExactSameViewRow.holds Try.pinned (OpenSpec.ofChange fnExactSameViewSpec)

/-- ITS FALSE NEIGHBOUR: 'it returns false'. Refute it at one input. -/
def fnExactSameViewWrong : ChangeSpec := { name := "fnExactSameView", fn := fun _ => fun
  | [d1, d2, d3, d4, d5] => { results := [.lit (.bool false)], args := [d1, d2, d3, d4, d5] }
  | _ => none }
def FnExactSameViewWrongFalsely : Prop := fnExactSameViewRow.holds Try.pinned (OpenSpec.ofChange fnExactSameViewWrong)

/-- 'laws.FnExactAreTwins': WHATEVER THE INPUT: true; the input reads as it did. -/
def fnExactAreTwinsSpec : ChangeSpec := { name := "fnExactAreTwins", fn := fun _ => fun
  | [d1, d2, d3, d4] => { results := [.lit (.bool true)], args := [d1, d2, d3, d4] }
  | _ => none }
def fnExactAreTwinsRow : OpenClaim := { program := "ytjnkkadbfigmpaa", sum := "6a27768f7b64a3a752a2c0a852be63d213999666c89af12ae9e33272e9092ea3", func := "loop.example/g01084/laws.FnExactAreTwins", spec := "fnExactAreTwins", unfollowed := true, recurses := true, plainKeys := false, apart := false }
def FnExactAreTwinsSaid : Prop := fnExactAreTwinsRow.holds Try.pinned (OpenSpec.ofChange fnExactAreTwinsSpec)

/-- ITS FALSE NEIGHBOUR: 'it returns false'. Refute it at one input. -/
def fnExactAreTwinsWrong : ChangeSpec := { name := "fnExactAreTwins", fn := fun _ => fun
  | [d1, d2, d3, d4] => { results := [.lit (.bool false)], args := [d1, d2, d3, d4] }
  | _ => none }
def FnExactAreTwinsWrongFalsely : Prop := fnExactAreTwinsRow.holds Try.pinned (OpenSpec.ofChange fnExactAreTwinsWrong)

/-- 'laws.FnExactSeparatingDepth': WHATEVER THE INPUT: true; the input reads as it did. -/
def fnExactSeparatingDepthSpec : ChangeSpec := { name := "fnExactSeparatingDepth", fn := fun _ => fun
  | [d1, d2, d3, d4] => { results := [.lit (.bool true)], args := [d1, d2, d3, d4] }
  | _ => none }
def fnExactSeparatingDepthRow : OpenClaim := { program := "ytjnkkadbfigmpaa", sum := "6a27768f7b64a3a752a2c0a852be63d213999666c89af12ae9e33272e9092ea3", func := "loop.example/g01084/laws.FnExactSeparatingDepth", spec := "fnExactSeparatingDepth", unfollowed := true, recurses := true, plainKeys := false, apart := false }
def FnExactSeparatingDepthSaid : Prop := fnExactSeparatingDepthRow.holds Try.pinned (OpenSpec.ofChange fnExactSeparatingDepthSpec)

/-- ITS FALSE NEIGHBOUR: 'it returns false'. Refute it at one input. -/
def fnExactSeparatingDepthWrong : ChangeSpec := { name := "fnExactSeparatingDepth", fn := fun _ => fun
  | [d1, d2, d3, d4] => { results := [.lit (.bool false)], args := [d1, d2, d3, d4] }
  | _ => none }
def FnExactSeparatingDepthWrongFalsely : Prop := fnExactSeparatingDepthRow.holds Try.pinned (OpenSpec.ofChange fnExactSeparatingDepthWrong)

/-- 'laws.FnExactEvalValue': WHATEVER THE INPUT: true; the input reads as it did. -/
def fnExactEvalValueSpec : ChangeSpec := { name := "fnExactEvalValue", fn := fun _ => fun
  | [d1, d2, d3, d4, d5, d6] => { results := [.lit (.bool true)], args := [d1, d2, d3, d4, d5, d6] }
  | _ => none }
def fnExactEvalValueRow : OpenClaim := { program := "ytjnkkadbfigmpaa", sum := "6a27768f7b64a3a752a2c0a852be63d213999666c89af12ae9e33272e9092ea3", func := "loop.example/g01084/laws.FnExactEvalValue", spec := "fnExactEvalValue", unfollowed := true, recurses := true, plainKeys := false, apart := false }
def FnExactEvalValueSaid : Prop := fnExactEvalValueRow.holds Try.pinned (OpenSpec.ofChange fnExactEvalValueSpec)

/-- ITS FALSE NEIGHBOUR: 'it returns false'. Refute it at one input. -/
def fnExactEvalValueWrong : ChangeSpec := { name := "fnExactEvalValue", fn := fun _ => fun
  | [d1, d2, d3, d4, d5, d6] => { results := [.lit (.bool false)], args := [d1, d2, d3, d4, d5, d6] }
  | _ => none }
def FnExactEvalValueWrongFalsely : Prop := fnExactEvalValueRow.holds Try.pinned (OpenSpec.ofChange fnExactEvalValueWrong)

/- THE SECOND FORM. 'bulk': how many values and letters a reading holds, each counted each time it is reached (what is shared counts as often as it is met; a slice's spare places count too). A statement '..UptoSaid' is the law's where the arguments, and the package variables that the reading takes, are together of bulk at most 1048576: NARROWER than '..Said'. Prove '..Said' where nothing that the law and all that it calls make is longer than what came in: it says more and counts as full. Else prove '..UptoSaid'. A law counts once. -/
mutual
def uptoBulk {H : Type} : DataW H → Nat
  | .lit (.string bytes) => bytes.length + 1
  | .lit _ => 1
  | .nil => 1
  | .ptr d => uptoBulk d + 1
  | .slice elems spare => uptoBulkAll elems + uptoBulkAll spare + 1
  | .agg parts => uptoBulkAll parts + 1
  | .iface _ d => uptoBulk d + 1
  | .map entries => uptoBulkEntries entries + 1
  | .held _ => 1
def uptoBulkAll {H : Type} : List (DataW H) → Nat
  | [] => 0
  | d :: r => uptoBulk d + uptoBulkAll r
def uptoBulkEntries {H : Type} : List (Lit × DataW H) → Nat
  | [] => 0
  | x :: r => uptoBulkEntry x + uptoBulkEntries r
def uptoBulkEntry {H : Type} : Lit × DataW H → Nat
  | (.string bytes, d) => bytes.length + uptoBulk d + 1
  | (_, d) => uptoBulk d + 1
 end
def uptoSmall : (H : Type) → List (DataW H) → Bool := fun _ ds => decide (uptoBulkAll ds ≤ 1048576)
def OpenSpec.upto (s : _root_.Go.ChangeSpec) : _root_.Go.OpenSpec := { _root_.Go.OpenSpec.ofChange s with cond := some uptoSmall }

/-- 'laws.FnExactTwinClasses', WHERE WHAT IT READS IS OF BULK AT MOST 1048576: true; the input reads as it did. -/
def fnExactTwinClassesUptoRow : OpenClaim := { program := "ytjnkkadbfigmpaa", sum := "6a27768f7b64a3a752a2c0a852be63d213999666c89af12ae9e33272e9092ea3", func := "loop.example/g01084/laws.FnExactTwinClasses", spec := "fnExactTwinClasses", unfollowed := true, recurses := true, plainKeys := false, apart := false, narrowed := true }
def FnExactTwinClassesUptoSaid : Prop := fnExactTwinClassesUptoRow.holds Try.pinned (OpenSpec.upto fnExactTwinClassesSpec)

/-- 'laws.FnExactExtendMap', WHERE WHAT IT READS IS OF BULK AT MOST 1048576: true; the input reads as it did. -/
def fnExactExtendMapUptoRow : OpenClaim := { program := "ytjnkkadbfigmpaa", sum := "6a27768f7b64a3a752a2c0a852be63d213999666c89af12ae9e33272e9092ea3", func := "loop.example/g01084/laws.FnExactExtendMap", spec := "fnExactExtendMap", unfollowed := true, recurses := true, plainKeys := false, apart := false, narrowed := true }
def FnExactExtendMapUptoSaid : Prop := fnExactExtendMapUptoRow.holds Try.pinned (OpenSpec.upto fnExactExtendMapSpec)

/-- 'laws.FnExactPullPorts', WHERE WHAT IT READS IS OF BULK AT MOST 1048576: true; the input reads as it did. -/
def fnExactPullPortsUptoRow : OpenClaim := { program := "ytjnkkadbfigmpaa", sum := "6a27768f7b64a3a752a2c0a852be63d213999666c89af12ae9e33272e9092ea3", func := "loop.example/g01084/laws.FnExactPullPorts", spec := "fnExactPullPorts", unfollowed := true, recurses := true, plainKeys := false, apart := false, narrowed := true }
def FnExactPullPortsUptoSaid : Prop := fnExactPullPortsUptoRow.holds Try.pinned (OpenSpec.upto fnExactPullPortsSpec)

/-- 'laws.FnExactPortMapsBetween', WHERE WHAT IT READS IS OF BULK AT MOST 1048576: true; the input reads as it did. -/
def fnExactPortMapsBetweenUptoRow : OpenClaim := { program := "ytjnkkadbfigmpaa", sum := "6a27768f7b64a3a752a2c0a852be63d213999666c89af12ae9e33272e9092ea3", func := "loop.example/g01084/laws.FnExactPortMapsBetween", spec := "fnExactPortMapsBetween", unfollowed := true, recurses := true, plainKeys := false, apart := false, narrowed := true }
def FnExactPortMapsBetweenUptoSaid : Prop := fnExactPortMapsBetweenUptoRow.holds Try.pinned (OpenSpec.upto fnExactPortMapsBetweenSpec)

/-- 'laws.FnExactSameView', WHERE WHAT IT READS IS OF BULK AT MOST 1048576: true; the input reads as it did. -/
def fnExactSameViewUptoRow : OpenClaim := { program := "ytjnkkadbfigmpaa", sum := "6a27768f7b64a3a752a2c0a852be63d213999666c89af12ae9e33272e9092ea3", func := "loop.example/g01084/laws.FnExactSameView", spec := "fnExactSameView", unfollowed := true, recurses := true, plainKeys := false, apart := false, narrowed := true }
def FnExactSameViewUptoSaid : Prop := fnExactSameViewUptoRow.holds Try.pinned (OpenSpec.upto fnExactSameViewSpec)

/-- 'laws.FnExactAreTwins', WHERE WHAT IT READS IS OF BULK AT MOST 1048576: true; the input reads as it did. -/
def fnExactAreTwinsUptoRow : OpenClaim := { program := "ytjnkkadbfigmpaa", sum := "6a27768f7b64a3a752a2c0a852be63d213999666c89af12ae9e33272e9092ea3", func := "loop.example/g01084/laws.FnExactAreTwins", spec := "fnExactAreTwins", unfollowed := true, recurses := true, plainKeys := false, apart := false, narrowed := true }
def FnExactAreTwinsUptoSaid : Prop := fnExactAreTwinsUptoRow.holds Try.pinned (OpenSpec.upto fnExactAreTwinsSpec)

/-- 'laws.FnExactSeparatingDepth', WHERE WHAT IT READS IS OF BULK AT MOST 1048576: true; the input reads as it did. -/
def fnExactSeparatingDepthUptoRow : OpenClaim := { program := "ytjnkkadbfigmpaa", sum := "6a27768f7b64a3a752a2c0a852be63d213999666c89af12ae9e33272e9092ea3", func := "loop.example/g01084/laws.FnExactSeparatingDepth", spec := "fnExactSeparatingDepth", unfollowed := true, recurses := true, plainKeys := false, apart := false, narrowed := true }
def FnExactSeparatingDepthUptoSaid : Prop := fnExactSeparatingDepthUptoRow.holds Try.pinned (OpenSpec.upto fnExactSeparatingDepthSpec)

/-- 'laws.FnExactEvalValue', WHERE WHAT IT READS IS OF BULK AT MOST 1048576: true; the input reads as it did. -/
def fnExactEvalValueUptoRow : OpenClaim := { program := "ytjnkkadbfigmpaa", sum := "6a27768f7b64a3a752a2c0a852be63d213999666c89af12ae9e33272e9092ea3", func := "loop.example/g01084/laws.FnExactEvalValue", spec := "fnExactEvalValue", unfollowed := true, recurses := true, plainKeys := false, apart := false, narrowed := true }
def FnExactEvalValueUptoSaid : Prop := fnExactEvalValueUptoRow.holds Try.pinned (OpenSpec.upto fnExactEvalValueSpec)

end Rows
end Go.Proofs.Ytjnkkadbfigmpaa
