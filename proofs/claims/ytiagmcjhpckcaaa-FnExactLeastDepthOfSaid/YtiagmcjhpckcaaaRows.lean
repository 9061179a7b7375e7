/-
  No cell of these rows narrows 'for every input' (looked for: loops, veiled, ifaces, maps, wideKeys, modest, calm, conditions, laid).
  DERIVED. THE GIVEN ROWS OF THIS SEAT. 12 by the template 'for every input the law returns true; each argument reads behind the call as it read before'; 0 by the template 'total and deterministic' (their statements: YtiagmcjhpckcaaaTotals.lean).
  GIVEN WITH THE SEED: the statements are not yours to turn. If you find one false, say at which input.
  Laid BY PROGRAM, IN A SANDBOX (cutbox-rows.mjs): the forced cells as the released guide's own fill.sh prints them over the translation 739a415f6dea5fe4… (all of the seat's roots in one cut). By AI agents, Wed Nov 11 2026. No macro, syntax, notation, axiom, sorry.
-/
import Derived.Test.YtiagmcjhpckcaaaChecked
import GoSem.Claim
import GoSem.ClaimJoined
import GoSem.ClaimMapViews
import Derived.JoinedTies
import Derived.KernelRfl
namespace Go.Proofs.Ytiagmcjhpckcaaa
/- THE CELL 'sum', in the pinned program and in every row, IS THE sha256 OF THE DUMP (.gsa) THAT YtiagmcjhpckcaaaProg.lean LOADS. Nothing in Lean hashes anything: it is a label: what it is worth is what the hold of that sum in a sandbox is worth. -/
noncomputable def Try.pinned : Pinned := { name := "ytiagmcjhpckcaaa", sum := "739a415f6dea5fe4acbe3b906c85cfbcce6583b392cf9ac93edd530663cd31bd", checked := Try.checked }
namespace Rows
def none {H : Type} : Left H := { results := [], args := [] }

/-- 'laws.FnExactEvalValue': WHATEVER THE INPUT: true; the input reads as it did. -/
def fnExactEvalValueSpec : ChangeSpec := { name := "fnExactEvalValue", fn := fun _ => fun
  | [d1, d2, d3, d4, d5, d6] => { results := [.lit (.bool true)], args := [d1, d2, d3, d4, d5, d6] }
  | _ => none }
def fnExactEvalValueRow : OpenClaim := { program := "ytiagmcjhpckcaaa", sum := "739a415f6dea5fe4acbe3b906c85cfbcce6583b392cf9ac93edd530663cd31bd", func := "loop.example/g01084/laws.FnExactEvalValue", spec := "fnExactEvalValue", unfollowed := true, recurses := true, plainKeys := false, apart := false }
def FnExactEvalValueSaid : Prop := fnExactEvalValueRow.holds Try.pinned (OpenSpec.ofChange fnExactEvalValueSpec)

/-- ITS FALSE NEIGHBOUR: 'it returns false'. Refute it at one input. -/
def fnExactEvalValueWrong : ChangeSpec := { name := "fnExactEvalValue", fn := fun _ => fun
  | [d1, d2, d3, d4, d5, d6] => { results := [.lit (.bool false)], args := [d1, d2, d3, d4, d5, d6] }
  | _ => none }
def FnExactEvalValueWrongFalsely : Prop := fnExactEvalValueRow.holds Try.pinned (OpenSpec.ofChange fnExactEvalValueWrong)

/-- 'laws.FnExactIsIsomorphism': WHATEVER THE INPUT: true; the input reads as it did. -/
def fnExactIsIsomorphismSpec : ChangeSpec := { name := "fnExactIsIsomorphism", fn := fun _ => fun
  | [d1, d2, d3] => { results := [.lit (.bool true)], args := [d1, d2, d3] }
  | _ => none }
def fnExactIsIsomorphismRow : OpenClaim := { program := "ytiagmcjhpckcaaa", sum := "739a415f6dea5fe4acbe3b906c85cfbcce6583b392cf9ac93edd530663cd31bd", func := "loop.example/g01084/laws.FnExactIsIsomorphism", spec := "fnExactIsIsomorphism", unfollowed := true, recurses := true, plainKeys := false, apart := false }
def FnExactIsIsomorphismSaid : Prop := fnExactIsIsomorphismRow.holds Try.pinned (OpenSpec.ofChange fnExactIsIsomorphismSpec)

/-- ITS FALSE NEIGHBOUR: 'it returns false'. Refute it at one input. -/
def fnExactIsIsomorphismWrong : ChangeSpec := { name := "fnExactIsIsomorphism", fn := fun _ => fun
  | [d1, d2, d3] => { results := [.lit (.bool false)], args := [d1, d2, d3] }
  | _ => none }
def FnExactIsIsomorphismWrongFalsely : Prop := fnExactIsIsomorphismRow.holds Try.pinned (OpenSpec.ofChange fnExactIsIsomorphismWrong)

/-- 'laws.FnExactConflictOf': WHATEVER THE INPUT: true; the input reads as it did. -/
def fnExactConflictOfSpec : ChangeSpec := { name := "fnExactConflictOf", fn := fun _ => fun
  | [d1, d2, d3] => { results := [.lit (.bool true)], args := [d1, d2, d3] }
  | _ => none }
def fnExactConflictOfRow : OpenClaim := { program := "ytiagmcjhpckcaaa", sum := "739a415f6dea5fe4acbe3b906c85cfbcce6583b392cf9ac93edd530663cd31bd", func := "loop.example/g01084/laws.FnExactConflictOf", spec := "fnExactConflictOf", unfollowed := true, recurses := true, plainKeys := false, apart := false }
def FnExactConflictOfSaid : Prop := fnExactConflictOfRow.holds Try.pinned (OpenSpec.ofChange fnExactConflictOfSpec)

/-- ITS FALSE NEIGHBOUR: 'it returns false'. Refute it at one input. -/
def fnExactConflictOfWrong : ChangeSpec := { name := "fnExactConflictOf", fn := fun _ => fun
  | [d1, d2, d3] => { results := [.lit (.bool false)], args := [d1, d2, d3] }
  | _ => none }
def FnExactConflictOfWrongFalsely : Prop := fnExactConflictOfRow.holds Try.pinned (OpenSpec.ofChange fnExactConflictOfWrong)

/-- 'laws.FnExactIsConnected': WHATEVER THE INPUT: true; the input reads as it did. -/
def fnExactIsConnectedSpec : ChangeSpec := { name := "fnExactIsConnected", fn := fun _ => fun
  | [d] => { results := [.lit (.bool true)], args := [d] }
  | _ => none }
def fnExactIsConnectedRow : OpenClaim := { program := "ytiagmcjhpckcaaa", sum := "739a415f6dea5fe4acbe3b906c85cfbcce6583b392cf9ac93edd530663cd31bd", func := "loop.example/g01084/laws.FnExactIsConnected", spec := "fnExactIsConnected", unfollowed := true, recurses := true, plainKeys := false, apart := false }
def FnExactIsConnectedSaid : Prop := fnExactIsConnectedRow.holds Try.pinned (OpenSpec.ofChange fnExactIsConnectedSpec)

/-- ITS FALSE NEIGHBOUR: 'it returns false'. Refute it at one input. -/
def fnExactIsConnectedWrong : ChangeSpec := { name := "fnExactIsConnected", fn := fun _ => fun
  | [d] => { results := [.lit (.bool false)], args := [d] }
  | _ => none }
def FnExactIsConnectedWrongFalsely : Prop := fnExactIsConnectedRow.holds Try.pinned (OpenSpec.ofChange fnExactIsConnectedWrong)

/-- 'laws.FnExactIsSymmetric': WHATEVER THE INPUT: true; the input reads as it did. -/
def fnExactIsSymmetricSpec : ChangeSpec := { name := "fnExactIsSymmetric", fn := fun _ => fun
  | [d] => { results := [.lit (.bool true)], args := [d] }
  | _ => none }
def fnExactIsSymmetricRow : OpenClaim := { program := "ytiagmcjhpckcaaa", sum := "739a415f6dea5fe4acbe3b906c85cfbcce6583b392cf9ac93edd530663cd31bd", func := "loop.example/g01084/laws.FnExactIsSymmetric", spec := "fnExactIsSymmetric", unfollowed := true, recurses := true, plainKeys := false, apart := false }
def FnExactIsSymmetricSaid : Prop := fnExactIsSymmetricRow.holds Try.pinned (OpenSpec.ofChange fnExactIsSymmetricSpec)

/-- ITS FALSE NEIGHBOUR: 'it returns false'. Refute it at one input. -/
def fnExactIsSymmetricWrong : ChangeSpec := { name := "fnExactIsSymmetric", fn := fun _ => fun
  | [d] => { results := [.lit (.bool false)], args := [d] }
  | _ => none }
def FnExactIsSymmetricWrongFalsely : Prop := fnExactIsSymmetricRow.holds Try.pinned (OpenSpec.ofChange fnExactIsSymmetricWrong)

/-- 'laws.FnExactSameView': WHATEVER THE INPUT: true; the input reads as it did. -/
def fnExactSameViewSpec : ChangeSpec := { name := "fnExactSameView", fn := fun _ => fun
  | [d1, d2, d3, d4, d5] => { results := [.lit (.bool true)], args := [d1, d2, d3, d4, d5] }
  | _ => none }
def fnExactSameViewRow : OpenClaim := { program := "ytiagmcjhpckcaaa", sum := "739a415f6dea5fe4acbe3b906c85cfbcce6583b392cf9ac93edd530663cd31bd", func := "loop.example/g01084/laws.FnExactSameView", spec := "fnExactSameView", unfollowed := true, recurses := true, plainKeys := false, apart := false }
def FnExactSameViewSaid : Prop := fnExactSameViewRow.holds Try.pinned (OpenSpec.ofChange fnExactSameViewSpec)

/-- ITS FALSE NEIGHBOUR: 'it returns false'. Refute it at one input. -/
def fnExactSameViewWrong : ChangeSpec := { name := "fnExactSameView", fn := fun _ => fun
  | [d1, d2, d3, d4, d5] => { results := [.lit (.bool false)], args := [d1, d2, d3, d4, d5] }
  | _ => none }
def FnExactSameViewWrongFalsely : Prop := fnExactSameViewRow.holds Try.pinned (OpenSpec.ofChange fnExactSameViewWrong)

/-- 'laws.FnExactLeastDepthOf': WHATEVER THE INPUT: true; the input reads as it did. -/
def fnExactLeastDepthOfSpec : ChangeSpec := { name := "fnExactLeastDepthOf", fn := fun _ => fun
  | [d1, d2] => { results := [.lit (.bool true)], args := [d1, d2] }
  | _ => none }
def fnExactLeastDepthOfRow : OpenClaim := { program := "ytiagmcjhpckcaaa", sum := "739a415f6dea5fe4acbe3b906c85cfbcce6583b392cf9ac93edd530663cd31bd", func := "loop.example/g01084/laws.FnExactLeastDepthOf", spec := "fnExactLeastDepthOf", unfollowed := true, recurses := true, plainKeys := false, apart := false }
def FnExactLeastDepthOfSaid : Prop := fnExactLeastDepthOfRow.holds Try.pinned (OpenSpec.ofChange fnExactLeastDepthOfSpec)

/-- ITS FALSE NEIGHBOUR: 'it returns false'. Refute it at one input. -/
def fnExactLeastDepthOfWrong : ChangeSpec := { name := "fnExactLeastDepthOf", fn := fun _ => fun
  | [d1, d2] => { results := [.lit (.bool false)], args := [d1, d2] }
  | _ => none }
def FnExactLeastDepthOfWrongFalsely : Prop := fnExactLeastDepthOfRow.holds Try.pinned (OpenSpec.ofChange fnExactLeastDepthOfWrong)

/-- 'laws.FnExactDiameterOf': WHATEVER THE INPUT: true; the input reads as it did. -/
def fnExactDiameterOfSpec : ChangeSpec := { name := "fnExactDiameterOf", fn := fun _ => fun
  | [d] => { results := [.lit (.bool true)], args := [d] }
  | _ => none }
def fnExactDiameterOfRow : OpenClaim := { program := "ytiagmcjhpckcaaa", sum := "739a415f6dea5fe4acbe3b906c85cfbcce6583b392cf9ac93edd530663cd31bd", func := "loop.example/g01084/laws.FnExactDiameterOf", spec := "fnExactDiameterOf", unfollowed := true, recurses := true, plainKeys := false, apart := false }
def FnExactDiameterOfSaid : Prop := fnExactDiameterOfRow.holds Try.pinned (OpenSpec.ofChange fnExactDiameterOfSpec)

/-- ITS FALSE NEIGHBOUR: 'it returns false'. Refute it at one input. -/
def fnExactDiameterOfWrong : ChangeSpec := { name := "fnExactDiameterOf", fn := fun _ => fun
  | [d] => { results := [.lit (.bool false)], args := [d] }
  | _ => none }
def FnExactDiameterOfWrongFalsely : Prop := fnExactDiameterOfRow.holds Try.pinned (OpenSpec.ofChange fnExactDiameterOfWrong)

/-- 'laws.FnExactAreTwins': WHATEVER THE INPUT: true; the input reads as it did. -/
def fnExactAreTwinsSpec : ChangeSpec := { name := "fnExactAreTwins", fn := fun _ => fun
  | [d1, d2, d3, d4] => { results := [.lit (.bool true)], args := [d1, d2, d3, d4] }
  | _ => none }
def fnExactAreTwinsRow : OpenClaim := { program := "ytiagmcjhpckcaaa", sum := "739a415f6dea5fe4acbe3b906c85cfbcce6583b392cf9ac93edd530663cd31bd", func := "loop.example/g01084/laws.FnExactAreTwins", spec := "fnExactAreTwins", unfollowed := true, recurses := true, plainKeys := false, apart := false }
def FnExactAreTwinsSaid : Prop := fnExactAreTwinsRow.holds Try.pinned (OpenSpec.ofChange fnExactAreTwinsSpec)

/-- ITS FALSE NEIGHBOUR: 'it returns false'. Refute it at one input. -/
def fnExactAreTwinsWrong : ChangeSpec := { name := "fnExactAreTwins", fn := fun _ => fun
  | [d1, d2, d3, d4] => { results := [.lit (.bool false)], args := [d1, d2, d3, d4] }
  | _ => none }
def FnExactAreTwinsWrongFalsely : Prop := fnExactAreTwinsRow.holds Try.pinned (OpenSpec.ofChange fnExactAreTwinsWrong)

/-- 'laws.FnExactSeparatingDepth': WHATEVER THE INPUT: true; the input reads as it did. -/
def fnExactSeparatingDepthSpec : ChangeSpec := { name := "fnExactSeparatingDepth", fn := fun _ => fun
  | [d1, d2, d3, d4] => { results := [.lit (.bool true)], args := [d1, d2, d3, d4] }
  | _ => none }
def fnExactSeparatingDepthRow : OpenClaim := { program := "ytiagmcjhpckcaaa", sum := "739a415f6dea5fe4acbe3b906c85cfbcce6583b392cf9ac93edd530663cd31bd", func := "loop.example/g01084/laws.FnExactSeparatingDepth", spec := "fnExactSeparatingDepth", unfollowed := true, recurses := true, plainKeys := false, apart := false }
def FnExactSeparatingDepthSaid : Prop := fnExactSeparatingDepthRow.holds Try.pinned (OpenSpec.ofChange fnExactSeparatingDepthSpec)

/-- ITS FALSE NEIGHBOUR: 'it returns false'. Refute it at one input. -/
def fnExactSeparatingDepthWrong : ChangeSpec := { name := "fnExactSeparatingDepth", fn := fun _ => fun
  | [d1, d2, d3, d4] => { results := [.lit (.bool false)], args := [d1, d2, d3, d4] }
  | _ => none }
def FnExactSeparatingDepthWrongFalsely : Prop := fnExactSeparatingDepthRow.holds Try.pinned (OpenSpec.ofChange fnExactSeparatingDepthWrong)

/-- 'laws.FnExactIsForest': WHATEVER THE INPUT: true; the input reads as it did. -/
def fnExactIsForestSpec : ChangeSpec := { name := "fnExactIsForest", fn := fun _ => fun
  | [d] => { results := [.lit (.bool true)], args := [d] }
  | _ => none }
def fnExactIsForestRow : OpenClaim := { program := "ytiagmcjhpckcaaa", sum := "739a415f6dea5fe4acbe3b906c85cfbcce6583b392cf9ac93edd530663cd31bd", func := "loop.example/g01084/laws.FnExactIsForest", spec := "fnExactIsForest", unfollowed := true, recurses := true, plainKeys := false, apart := false }
def FnExactIsForestSaid : Prop := fnExactIsForestRow.holds Try.pinned (OpenSpec.ofChange fnExactIsForestSpec)

/-- ITS FALSE NEIGHBOUR: 'it returns false'. Refute it at one input. -/
def fnExactIsForestWrong : ChangeSpec := { name := "fnExactIsForest", fn := fun _ => fun
  | [d] => { results := [.lit (.bool false)], args := [d] }
  | _ => none }
def FnExactIsForestWrongFalsely : Prop := fnExactIsForestRow.holds Try.pinned (OpenSpec.ofChange fnExactIsForestWrong)

/-- 'laws.FnExactGirthOf': WHATEVER THE INPUT: true; the input reads as it did. -/
def fnExactGirthOfSpec : ChangeSpec := { name := "fnExactGirthOf", fn := fun _ => fun
  | [d] => { results := [.lit (.bool true)], args := [d] }
  | _ => none }
def fnExactGirthOfRow : OpenClaim := { program := "ytiagmcjhpckcaaa", sum := "739a415f6dea5fe4acbe3b906c85cfbcce6583b392cf9ac93edd530663cd31bd", func := "loop.example/g01084/laws.FnExactGirthOf", spec := "fnExactGirthOf", unfollowed := true, recurses := true, plainKeys := false, apart := false }
def FnExactGirthOfSaid : Prop := fnExactGirthOfRow.holds Try.pinned (OpenSpec.ofChange fnExactGirthOfSpec)

/-- ITS FALSE NEIGHBOUR: 'it returns false'. Refute it at one input. -/
def fnExactGirthOfWrong : ChangeSpec := { name := "fnExactGirthOf", fn := fun _ => fun
  | [d] => { results := [.lit (.bool false)], args := [d] }
  | _ => none }
def FnExactGirthOfWrongFalsely : Prop := fnExactGirthOfRow.holds Try.pinned (OpenSpec.ofChange fnExactGirthOfWrong)

/- THE SECOND FORM. 'bulk': how many values and letters a reading holds, each counted each time it is reached (what is shared counts as often as it is met; a slice's spare places count too). A statement '..UptoSaid' is the law's where the arguments, and the package variables that the reading takes, are together of bulk at most 1048576: NARROWER than '..Said'. Prove '..Said' where nothing that the law and all that it calls make is longer than what came in: it says more and counts as full. Else prove '..UptoSaid'. A law counts once. -/
mutual
def uptoBulk {H : Type} : DataW H → Nat
  | .lit (.string bytes) => bytes.length + 1
  | .lit _ => 1
  | .nil => 1
  | .ptr d => uptoBulk d + 1
  | .slice elems spare => uptoBulkAll elems + uptoBulkAll spare + 1
  | .agg parts => uptoBulkAll parts + 1
  | .iface _ d => uptoBulk d + 1
  | .map entries => uptoBulkEntries entries + 1
  | .held _ => 1
def uptoBulkAll {H : Type} : List (DataW H) → Nat
  | [] => 0
  | d :: r => uptoBulk d + uptoBulkAll r
def uptoBulkEntries {H : Type} : List (Lit × DataW H) → Nat
  | [] => 0
  | x :: r => uptoBulkEntry x + uptoBulkEntries r
def uptoBulkEntry {H : Type} : Lit × DataW H → Nat
  | (.string bytes, d) => bytes.length + uptoBulk d + 1
  | (_, d) => uptoBulk d + 1
 end
def uptoSmall : (H : Type) → List (DataW H) → Bool := fun _ ds => decide (uptoBulkAll ds ≤ 1048576)
def OpenSpec.upto (s : _root_.Go.ChangeSpec) : _root_.Go.OpenSpec := { _root_.Go.OpenSpec.ofChange s with cond := some uptoSmall }

/-- 'laws.FnExactEvalValue', WHERE WHAT IT READS IS OF BULK AT MOST 1048576: true; the input reads as it did. -/
def fnExactEvalValueUptoRow : OpenClaim := { program := "ytiagmcjhpckcaaa", sum := "739a415f6dea5fe4acbe3b906c85cfbcce6583b392cf9ac93edd530663cd31bd", func := "loop.example/g01084/laws.FnExactEvalValue", spec := "fnExactEvalValue", unfollowed := true, recurses := true, plainKeys := false, apart := false, narrowed := true }
def FnExactEvalValueUptoSaid : Prop := fnExactEvalValueUptoRow.holds Try.pinned (OpenSpec.upto fnExactEvalValueSpec)

/-- 'laws.FnExactIsIsomorphism', WHERE WHAT IT READS IS OF BULK AT MOST 1048576: true; the input reads as it did. -/
def fnExactIsIsomorphismUptoRow : OpenClaim := { program := "ytiagmcjhpckcaaa", sum := "739a415f6dea5fe4acbe3b906c85cfbcce6583b392cf9ac93edd530663cd31bd", func := "loop.example/g01084/laws.FnExactIsIsomorphism", spec := "fnExactIsIsomorphism", unfollowed := true, recurses := true, plainKeys := false, apart := false, narrowed := true }
def FnExactIsIsomorphismUptoSaid : Prop := fnExactIsIsomorphismUptoRow.holds Try.pinned (OpenSpec.upto fnExactIsIsomorphismSpec)

/-- 'laws.FnExactConflictOf', WHERE WHAT IT READS IS OF BULK AT MOST 1048576: true; the input reads as it did. -/
def fnExactConflictOfUptoRow : OpenClaim := { program := "ytiagmcjhpckcaaa", sum := "739a415f6dea5fe4acbe3b906c85cfbcce6583b392cf9ac93edd530663cd31bd", func := "loop.example/g01084/laws.FnExactConflictOf", spec := "fnExactConflictOf", unfollowed := true, recurses := true, plainKeys := false, apart := false, narrowed := true }
def FnExactConflictOfUptoSaid : Prop := fnExactConflictOfUptoRow.holds Try.pinned (OpenSpec.upto fnExactConflictOfSpec)

/-- 'laws.FnExactIsConnected', WHERE WHAT IT READS IS OF BULK AT MOST 1048576: true; the input reads as it did. -/
def fnExactIsConnectedUptoRow : OpenClaim := { program := "ytiagmcjhpckcaaa", sum := "739a415f6dea5fe4acbe3b906c85cfbcce6583b392cf9ac93edd530663cd31bd", func := "loop.example/g01084/laws.FnExactIsConnected", spec := "fnExactIsConnected", unfollowed := true, recurses := true, plainKeys := false, apart := false, narrowed := true }
def FnExactIsConnectedUptoSaid : Prop := fnExactIsConnectedUptoRow.holds Try.pinned (OpenSpec.upto fnExactIsConnectedSpec)

/-- 'laws.FnExactIsSymmetric', WHERE WHAT IT READS IS OF BULK AT MOST 1048576: true; the input reads as it did. -/
def fnExactIsSymmetricUptoRow : OpenClaim := { program := "ytiagmcjhpckcaaa", sum := "739a415f6dea5fe4acbe3b906c85cfbcce6583b392cf9ac93edd530663cd31bd", func := "loop.example/g01084/laws.FnExactIsSymmetric", spec := "fnExactIsSymmetric", unfollowed := true, recurses := true, plainKeys := false, apart := false, narrowed := true }
def FnExactIsSymmetricUptoSaid : Prop := fnExactIsSymmetricUptoRow.holds Try.pinned (OpenSpec.upto fnExactIsSymmetricSpec)

/-- 'laws.FnExactSameView', WHERE WHAT IT READS IS OF BULK AT MOST 1048576: true; the input reads as it did. -/
def fnExactSameViewUptoRow : OpenClaim := { program := "ytiagmcjhpckcaaa", sum := "739a415f6dea5fe4acbe3b906c85cfbcce6583b392cf9ac93edd530663cd31bd", func := "loop.example/g01084/laws.FnExactSameView", spec := "fnExactSameView", unfollowed := true, recurses := true, plainKeys := false, apart := false, narrowed := true }
def FnExactSameViewUptoSaid : Prop := fnExactSameViewUptoRow.holds Try.pinned (OpenSpec.upto fnExactSameViewSpec)

/-- 'laws.FnExactLeastDepthOf', WHERE WHAT IT READS IS OF BULK AT MOST 1048576: true; the input reads as it did. -/
def fnExactLeastDepthOfUptoRow : OpenClaim := { program := "ytiagmcjhpckcaaa", sum := "739a415f6dea5fe4acbe3b906c85cfbcce6583b392cf9ac93edd530663cd31bd", func := "loop.example/g01084/laws.FnExactLeastDepthOf", spec := "fnExactLeastDepthOf", unfollowed := true, recurses := true, plainKeys := false, apart := false, narrowed := true }
def FnExactLeastDepthOfUptoSaid : Prop := fnExactLeastDepthOfUptoRow.holds Try.pinned (OpenSpec.upto fnExactLeastDepthOfSpec)

/-- 'laws.FnExactDiameterOf', WHERE WHAT IT READS IS OF BULK AT MOST 1048576: true; the input reads as it did. -/
def fnExactDiameterOfUptoRow : OpenClaim := { program := "ytiagmcjhpckcaaa", sum := "739a415f6dea5fe4acbe3b906c85cfbcce6583b392cf9ac93edd530663cd31bd", func := "loop.example/g01084/laws.FnExactDiameterOf", spec := "fnExactDiameterOf", unfollowed := true, recurses := true, plainKeys := false, apart := false, narrowed := true }
def FnExactDiameterOfUptoSaid : Prop := fnExactDiameterOfUptoRow.holds Try.pinned (OpenSpec.upto fnExactDiameterOfSpec)

/-- 'laws.FnExactAreTwins', WHERE WHAT IT READS IS OF BULK AT MOST 1048576: true; the input reads as it did. -/
def fnExactAreTwinsUptoRow : OpenClaim := { program := "ytiagmcjhpckcaaa", sum := "739a415f6dea5fe4acbe3b906c85cfbcce6583b392cf9ac93edd530663cd31bd", func := "loop.example/g01084/laws.FnExactAreTwins", spec := "fnExactAreTwins", unfollowed := true, recurses := true, plainKeys := false, apart := false, narrowed := true }
def FnExactAreTwinsUptoSaid : Prop := fnExactAreTwinsUptoRow.holds Try.pinned (OpenSpec.upto fnExactAreTwinsSpec)

/-- 'laws.FnExactSeparatingDepth', WHERE WHAT IT READS IS OF BULK AT MOST 1048576: true; the input reads as it did. -/
def fnExactSeparatingDepthUptoRow : OpenClaim := { program := "ytiagmcjhpckcaaa", sum := "739a415f6dea5fe4acbe3b906c85cfbcce6583b392cf9ac93edd530663cd31bd", func := "loop.example/g01084/laws.FnExactSeparatingDepth", spec := "fnExactSeparatingDepth", unfollowed := true, recurses := true, plainKeys := false, apart := false, narrowed := true }
def FnExactSeparatingDepthUptoSaid : Prop := fnExactSeparatingDepthUptoRow.holds Try.pinned (OpenSpec.upto fnExactSeparatingDepthSpec)

/-- 'laws.FnExactIsForest', WHERE WHAT IT READS IS OF BULK AT MOST 1048576: true; the input reads as it did. -/
def fnExactIsForestUptoRow : OpenClaim := { program := "ytiagmcjhpckcaaa", sum := "739a415f6dea5fe4acbe3b906c85cfbcce6583b392cf9ac93edd530663cd31bd", func := "loop.example/g01084/laws.FnExactIsForest", spec := "fnExactIsForest", unfollowed := true, recurses := true, plainKeys := false, apart := false, narrowed := true }
def FnExactIsForestUptoSaid : Prop := fnExactIsForestUptoRow.holds Try.pinned (OpenSpec.upto fnExactIsForestSpec)

/-- 'laws.FnExactGirthOf', WHERE WHAT IT READS IS OF BULK AT MOST 1048576: true; the input reads as it did. -/
def fnExactGirthOfUptoRow : OpenClaim := { program := "ytiagmcjhpckcaaa", sum := "739a415f6dea5fe4acbe3b906c85cfbcce6583b392cf9ac93edd530663cd31bd", func := "loop.example/g01084/laws.FnExactGirthOf", spec := "fnExactGirthOf", unfollowed := true, recurses := true, plainKeys := false, apart := false, narrowed := true }
def FnExactGirthOfUptoSaid : Prop := fnExactGirthOfUptoRow.holds Try.pinned (OpenSpec.upto fnExactGirthOfSpec)

end Rows
end Go.Proofs.Ytiagmcjhpckcaaa
