/-
  No cell of these rows narrows 'for every input' (looked for: loops, veiled, ifaces, maps, wideKeys, modest, calm, conditions, laid).
  DERIVED. THE GIVEN ROWS OF THIS SEAT. 3 by the template 'for every input the law returns true; each argument reads behind the call as it read before'; 0 by the template 'total and deterministic' (their statements: YtladejfcplpnaaaTotals.lean).
  GIVEN WITH THE SEED: the statements are not yours to turn. If you find one false, say at which input.
  Laid BY PROGRAM, IN A SANDBOX (cutbox-rows.mjs): the forced cells as the released guide's own fill.sh prints them over the translation f3bc9cdcb39223f8… (all of the seat's roots in one cut). By AI agents, Wed Nov 11 2026. No macro, syntax, notation, axiom, sorry.
-/
import Derived.Test.YtladejfcplpnaaaChecked
import GoSem.Claim
import GoSem.ClaimJoined
import GoSem.ClaimMapViews
import Derived.JoinedTies
import Derived.KernelRfl
namespace Go.Proofs.Ytladejfcplpnaaa
/- THE CELL 'sum', in the pinned program and in every row, IS THE sha256 OF THE DUMP (.gsa) THAT YtladejfcplpnaaaProg.lean LOADS. Nothing in Lean hashes anything: it is a label: what it is worth is what the hold of that sum in a sandbox is worth. -/
noncomputable def Try.pinned : Pinned := { name := "ytladejfcplpnaaa", sum := "f3bc9cdcb39223f821e1d04db157de1594ad567e3b68b3b16a92ee6c17c4556a", checked := Try.checked }
namespace Rows
def none {H : Type} : Left H := { results := [], args := [] }

/-- 'laws.FnExactLiftOf': WHATEVER THE INPUT: true; the input reads as it did. -/
def fnExactLiftOfSpec : ChangeSpec := { name := "fnExactLiftOf", fn := fun _ => fun
  | [d1, d2, d3] => { results := [.lit (.bool true)], args := [d1, d2, d3] }
  | _ => none }
def fnExactLiftOfRow : OpenClaim := { program := "ytladejfcplpnaaa", sum := "f3bc9cdcb39223f821e1d04db157de1594ad567e3b68b3b16a92ee6c17c4556a", func := "loop.example/g01084/laws.FnExactLiftOf", spec := "fnExactLiftOf", unfollowed := true, recurses := true, plainKeys := false, apart := false }
def FnExactLiftOfSaid : Prop := fnExactLiftOfRow.holds Try.pinned (OpenSpec.ofChange fnExactLiftOfSpec)

/-- ITS FALSE NEIGHBOUR: 'it returns false'. Refute it at one input. -/
def fnExactLiftOfWrong : ChangeSpec := { name := "fnExactLiftOf", fn := fun _ => fun
  | [d1, d2, d3] => { results := [.lit (.bool false)], args := [d1, d2, d3] }
  | _ => none }
def FnExactLiftOfWrongFalsely : Prop := fnExactLiftOfRow.holds Try.pinned (OpenSpec.ofChange fnExactLiftOfWrong)

/-- 'laws.FnExactFibreProduct': WHATEVER THE INPUT: true; the input reads as it did. -/
def fnExactFibreProductSpec : ChangeSpec := { name := "fnExactFibreProduct", fn := fun _ => fun
  | [d1, d2, d3, d4, d5] => { results := [.lit (.bool true)], args := [d1, d2, d3, d4, d5] }
  | _ => none }
def fnExactFibreProductRow : OpenClaim := { program := "ytladejfcplpnaaa", sum := "f3bc9cdcb39223f821e1d04db157de1594ad567e3b68b3b16a92ee6c17c4556a", func := "loop.example/g01084/laws.FnExactFibreProduct", spec := "fnExactFibreProduct", unfollowed := true, recurses := true, plainKeys := false, apart := false }
def FnExactFibreProductSaid : Prop := fnExactFibreProductRow.holds Try.pinned (OpenSpec.ofChange fnExactFibreProductSpec)

/-- ITS FALSE NEIGHBOUR: 'it returns false'. Refute it at one input. -/
def fnExactFibreProductWrong : ChangeSpec := { name := "fnExactFibreProduct", fn := fun _ => fun
  | [d1, d2, d3, d4, d5] => { results := [.lit (.bool false)], args := [d1, d2, d3, d4, d5] }
  | _ => none }
def FnExactFibreProductWrongFalsely : Prop := fnExactFibreProductRow.holds Try.pinned (OpenSpec.ofChange fnExactFibreProductWrong)

/-- 'laws.FnExactUnfoldNetwork': WHATEVER THE INPUT: true; the input reads as it did. -/
def fnExactUnfoldNetworkSpec : ChangeSpec := { name := "fnExactUnfoldNetwork", fn := fun _ => fun
  | [d1, d2, d3] => { results := [.lit (.bool true)], args := [d1, d2, d3] }
  | _ => none }
def fnExactUnfoldNetworkRow : OpenClaim := { program := "ytladejfcplpnaaa", sum := "f3bc9cdcb39223f821e1d04db157de1594ad567e3b68b3b16a92ee6c17c4556a", func := "loop.example/g01084/laws.FnExactUnfoldNetwork", spec := "fnExactUnfoldNetwork", unfollowed := true, recurses := true, plainKeys := false, apart := false }
def FnExactUnfoldNetworkSaid : Prop := fnExactUnfoldNetworkRow.holds Try.pinned (OpenSpec.ofChange fnExactUnfoldNetworkSpec)

/-- ITS FALSE NEIGHBOUR: 'it returns false'. Refute it at one input. -/
def fnExactUnfoldNetworkWrong : ChangeSpec := { name := "fnExactUnfoldNetwork", fn := fun _ => fun
  | [d1, d2, d3] => { results := [.lit (.bool false)], args := [d1, d2, d3] }
  | _ => none }
def FnExactUnfoldNetworkWrongFalsely : Prop := fnExactUnfoldNetworkRow.holds Try.pinned (OpenSpec.ofChange fnExactUnfoldNetworkWrong)

/- THE SECOND FORM. 'bulk': how many values and letters a reading holds, each counted each time it is reached (what is shared counts as often as it is met; a slice's spare places count too). A statement '..UptoSaid' is the law's where the arguments, and the package variables that the reading takes, are together of bulk at most 1048576: NARROWER than '..Said'. Prove '..Said' where nothing that the law and all that it calls make is longer than what came in: it says more and counts as full. Else prove '..UptoSaid'. A law counts once. -/
mutual
def uptoBulk {H : Type} : DataW H → Nat
  | .lit (.string bytes) => bytes.length + 1
  | .lit _ => 1
  | .nil => 1
  | .ptr d => uptoBulk d + 1
  | .slice elems spare => uptoBulkAll elems + uptoBulkAll spare + 1
  | .agg parts => uptoBulkAll parts + 1
  | .iface _ d => uptoBulk d + 1
  | .map entries => uptoBulkEntries entries + 1
  | .held _ => 1
def uptoBulkAll {H : Type} : List (DataW H) → Nat
  | [] => 0
  | d :: r => uptoBulk d + uptoBulkAll r
def uptoBulkEntries {H : Type} : List (Lit × DataW H) → Nat
  | [] => 0
  | x :: r => uptoBulkEntry x + uptoBulkEntries r
def uptoBulkEntry {H : Type} : Lit × DataW H → Nat
  | (.string bytes, d) => bytes.length + uptoBulk d + 1
  | (_, d) => uptoBulk d + 1
 end
def uptoSmall : (H : Type) → List (DataW H) → Bool := fun _ ds => decide (uptoBulkAll ds ≤ 1048576)
def OpenSpec.upto (s : _root_.Go.ChangeSpec) : _root_.Go.OpenSpec := { _root_.Go.OpenSpec.ofChange s with cond := some uptoSmall }

/-- 'laws.FnExactLiftOf', WHERE WHAT IT READS IS OF BULK AT MOST 1048576: true; the input reads as it did. -/
def fnExactLiftOfUptoRow : OpenClaim := { program := "ytladejfcplpnaaa", sum := "f3bc9cdcb39223f821e1d04db157de1594ad567e3b68b3b16a92ee6c17c4556a", func := "loop.example/g01084/laws.FnExactLiftOf", spec := "fnExactLiftOf", unfollowed := true, recurses := true, plainKeys := false, apart := false, narrowed := true }
def FnExactLiftOfUptoSaid : Prop := fnExactLiftOfUptoRow.holds Try.pinned (OpenSpec.upto fnExactLiftOfSpec)

/-- 'laws.FnExactFibreProduct', WHERE WHAT IT READS IS OF BULK AT MOST 1048576: true; the input reads as it did. -/
def fnExactFibreProductUptoRow : OpenClaim := { program := "ytladejfcplpnaaa", sum := "f3bc9cdcb39223f821e1d04db157de1594ad567e3b68b3b16a92ee6c17c4556a", func := "loop.example/g01084/laws.FnExactFibreProduct", spec := "fnExactFibreProduct", unfollowed := true, recurses := true, plainKeys := false, apart := false, narrowed := true }
def FnExactFibreProductUptoSaid : Prop := fnExactFibreProductUptoRow.holds Try.pinned (OpenSpec.upto fnExactFibreProductSpec)

/-- 'laws.FnExactUnfoldNetwork', WHERE WHAT IT READS IS OF BULK AT MOST 1048576: true; the input reads as it did. -/
def fnExactUnfoldNetworkUptoRow : OpenClaim := { program := "ytladejfcplpnaaa", sum := "f3bc9cdcb39223f821e1d04db157de1594ad567e3b68b3b16a92ee6c17c4556a", func := "loop.example/g01084/laws.FnExactUnfoldNetwork", spec := "fnExactUnfoldNetwork", unfollowed := true, recurses := true, plainKeys := false, apart := false, narrowed := true }
def FnExactUnfoldNetworkUptoSaid : Prop := fnExactUnfoldNetworkUptoRow.holds Try.pinned (OpenSpec.upto fnExactUnfoldNetworkSpec)

end Rows
end Go.Proofs.Ytladejfcplpnaaa
