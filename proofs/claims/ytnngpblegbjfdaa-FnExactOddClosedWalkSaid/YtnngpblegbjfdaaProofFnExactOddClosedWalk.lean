/- FnExactOddClosedWalk returns true for every input, and the input reads as it did. No condition. -/
import Derived.Test.YtnngpblegbjfdaaOdd6
import Derived.Test.YtnngpblegbjfdaaOpen2
import Derived.Test.YtnngpblegbjfdaaRows
namespace Go.Proofs.Ytnngpblegbjfdaa
open Go Go.RowKit Go.ChangeShapes Go.WideShapes Go.ChangeAt Go.Deep

theorem own_fnExactOddClosedWalk : ownKnob Try.prog.godebug = none := by kernel_rfl
theorem laidOut_fnExactOddClosedWalk : laidOutB Try.prog = true := by kernel_rfl
set_option maxRecDepth 100000 in
set_option maxHeartbeats 1000000 in
theorem lifted_fnExactOddClosedWalk (os : Os) (started : os.Started) (H : Type) (enc : TypeId × Value → H) :
    ReturnsInHanded {} Try.checked os 4 .any (Rows.fnExactOddClosedWalkSpec.pre6 enc Try.prog Try.f4 Rows.fnExactOddClosedWalkRow.domain false) (Rows.fnExactOddClosedWalkSpec.post enc Try.prog Try.f4 false true false false) := by
  refine returnsInHanded_of_change (C := Try.checked) own_fnExactOddClosedWalk started (by kernel_rfl) Try.func4
    (ChangeSpec.witness6 (enc := enc) (C := Try.checked) false ⟨#[], #[.agg #[.slice none 0 0, .slice none 0 0, .slice none 0 0]], []⟩ 8 (by kernel_rfl) (by kernel_rfl) (by kernel_rfl) (by kernel_rfl)) ?_
  intro W base args ds gs before hval0 hW hcnd _
  have hval : ∀ (j : Nat) t v, Try.f4.params[j]? = some t → args[j]? = some v → Value.okWide Try.prog W .any base t v := hval0
  have hW' := hW
  obtain ⟨p, q, hA0, hV, rfl, hfz, hnd⟩ := hW
  have hA : DataW.TrodAll enc Try.prog W 0 (fun _ => true) true Try.f4.params.toList args.toList ds p := hA0
  rw [Try.params4] at hA hval
  obtain ⟨v0, vs0, d0, ds0, p0, q0, hargs, rfl, rfl, t0, r0⟩ := trodAll_cons hA
  obtain ⟨rfl, rfl, rfl⟩ := trodAll_nil r0
  obtain rfl : args = #[v0] := by cases args; simp_all
  obtain ⟨rfl, rfl⟩ := trodVars_none hV
  have k0 := t0
  have lt0 : ∀ x ∈ p0, x.block < W.heap.size := by obtain ⟨m, hm⟩ := k0; exact DataW.trod_lt m _ _ _ hm
  obtain ⟨cs0, rfl, hsz0⟩ := okWide_struct Try.underlying25 (hval 0 25 v0 rfl rfl)
  obtain ⟨fuel0, hf0⟩ := t0
  obtain ⟨f0_0, f0_1, f0_2, rfl⟩ := array3' (hsz0.trans (by kernel_rfl))
  obtain ⟨ys0, n0, _, _, _, hyl0, hg0⟩ := DataW.trod_struct Try.underlying25 hf0
  obtain ⟨y0_0, g0_0⟩ : ∃ y, DataW.trod enc Try.prog W 0 (fun _ => true) true n0 22 [f0_0] = some y := field1 hg0 0 rfl (by rw [hyl0]; decide) (by kernel_rfl) rfl
  obtain ⟨a0_0, c0_0, s0_0, hv0_0, hx0_0, hr0_0, hm0_0⟩ := openLls _ (fun xs : List (Int × Int) => (∀ p ∈ xs, I64 p.1 ∧ I64 p.2) ∧ xs.length ≤ maxLen) Try.underlying22 (by kernel_rfl) (fun _ _ _ hq => by obtain ⟨a, c, xs, h1, h2, h3, h4⟩ := openPairs Try.underlying60 Try.underlying79 (by kernel_rfl) rfl rfl (by kernel_rfl) (by kernel_rfl) Try.underlying3 Try.underlying3 hq; exact ⟨a, c, xs, h1, h2, h3, h4⟩) g0_0
  subst hv0_0
  obtain ⟨y0_1, g0_1⟩ : ∃ y, DataW.trod enc Try.prog W 0 (fun _ => true) true n0 23 [f0_1] = some y := field1 hg0 1 rfl (by rw [hyl0]; decide) (by kernel_rfl) rfl
  obtain ⟨a0_1, c0_1, s0_1, hv0_1, hx0_1, hr0_1, hm0_1⟩ := openInts Try.underlying23 (by kernel_rfl) Try.underlying3 g0_1
  subst hv0_1
  obtain ⟨y0_2, g0_2⟩ : ∃ y, DataW.trod enc Try.prog W 0 (fun _ => true) true n0 23 [f0_2] = some y := field1 hg0 2 rfl (by rw [hyl0]; decide) (by kernel_rfl) rfl
  obtain ⟨a0_2, c0_2, s0_2, hv0_2, hx0_2, hr0_2, hm0_2⟩ := openInts Try.underlying23 (by kernel_rfl) Try.underlying3 g0_2
  subst hv0_2
  clear hA0 hval0
  unfold maxLen at *
  refine (law_OddClosedWalk ⟨a0_0, c0_0, a0_1, c0_1, a0_2, c0_2⟩ ⟨s0_0, s0_1, s0_2⟩ W ⟨hx0_0, hx0_1, hx0_2⟩ ⟨by simp only []; omega, fun x hx => by have := (hr0_0 x hx).2; omega, by simp only []; omega, by simp only []; omega⟩).2.mono fun e W' hee => ?_
  obtain ⟨v, he, hv, hE⟩ := hee
  subst he
  subst hv
  have bel := hE.below
  exact ⟨_, rfl, _, _, _, [], _, [], hW', trodAll_mk1 (shut_bool Try.underlying4 _), (trodAll_cons_mk (Below.trod laidOut_fnExactOddClosedWalk (by kernel_rfl) (of_decide_eq_true (by kernel_rfl)) k0 bel lt0) trodAll_mk0), rfl, bel.frame _, fun h => by cases h⟩

theorem over_fnExactOddClosedWalk : Rows.fnExactOddClosedWalkRow.holds Try.pinned (OpenSpec.ofChange Rows.fnExactOddClosedWalkSpec) :=
  OpenClaim.holds_of_wide 4 Try.f4 rfl rfl rfl rfl rfl rfl rfl ⟨rfl, rfl, rfl, rfl, rfl⟩ rfl rfl rfl rfl rfl (by kernel_rfl) Try.func4 (by kernel_rfl)
    (of_decide_eq_true (by kernel_rfl)) (by unfold Func.isWrapper; rw [if_neg (of_decide_eq_false (by kernel_rfl))]; exact ⟨rfl, rfl⟩)
    (fun os started H enc _ => lifted_fnExactOddClosedWalk os started H enc)

/-- The given statement. -/
theorem fnExactOddClosedWalk_holds : Rows.FnExactOddClosedWalkSaid := over_fnExactOddClosedWalk
#print axioms fnExactOddClosedWalk_holds

end Go.Proofs.Ytnngpblegbjfdaa
