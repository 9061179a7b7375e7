/- FnExactReachableStates returns true for every input, and the input reads as it did. No condition. -/
import Derived.Test.YtjhgpcbbmhdojaaReach
import Derived.Test.YtjhgpcbbmhdojaaOpen2
import Derived.Test.YtjhgpcbbmhdojaaRows
namespace Go.Proofs.Ytjhgpcbbmhdojaa
open Go Go.RowKit Go.ChangeShapes Go.WideShapes Go.ChangeAt Go.Deep

theorem own_fnExactReachableStates : ownKnob Try.prog.godebug = none := by kernel_rfl
theorem laidOut_fnExactReachableStates : laidOutB Try.prog = true := by kernel_rfl
set_option maxRecDepth 100000 in
set_option maxHeartbeats 1000000 in
theorem lifted_fnExactReachableStates (os : Os) (started : os.Started) (H : Type) (enc : TypeId × Value → H) :
    ReturnsInHanded {} Try.checked os 8 .any (Rows.fnExactReachableStatesSpec.pre6 enc Try.prog Try.f8 Rows.fnExactReachableStatesRow.domain false) (Rows.fnExactReachableStatesSpec.post enc Try.prog Try.f8 false true false false) := by
  refine returnsInHanded_of_change (C := Try.checked) own_fnExactReachableStates started (by kernel_rfl) Try.func8
    (ChangeSpec.witness6 (enc := enc) (C := Try.checked) false ⟨#[], #[.agg #[.int .i64 0, .int .i64 0, .int .i64 0, .slice none 0 0, .slice none 0 0, .slice none 0 0, .slice none 0 0]], []⟩ 8 (by kernel_rfl) (by kernel_rfl) (by kernel_rfl) (by kernel_rfl)) ?_
  intro W base args ds gs before hval0 hW hcnd _
  have hval : ∀ (j : Nat) t v, Try.f8.params[j]? = some t → args[j]? = some v → Value.okWide Try.prog W .any base t v := hval0
  have hW' := hW
  obtain ⟨p, q, hA0, hV, rfl, hfz, hnd⟩ := hW
  have hA : DataW.TrodAll enc Try.prog W 0 (fun _ => true) true Try.f8.params.toList args.toList ds p := hA0
  rw [Try.params8] at hA hval
  obtain ⟨v0, vs0, d0, ds0, p0, q0, hargs, rfl, rfl, t0, r0⟩ := trodAll_cons hA
  obtain ⟨rfl, rfl, rfl⟩ := trodAll_nil r0
  obtain rfl : args = #[v0] := by cases args; simp_all
  obtain ⟨rfl, rfl⟩ := trodVars_none hV
  have k0 := t0
  have lt0 : ∀ x ∈ p0, x.block < W.heap.size := by obtain ⟨m, hm⟩ := k0; exact DataW.trod_lt m _ _ _ hm
  obtain ⟨cs0, rfl, hsz0⟩ := okWide_struct Try.underlying35 (hval 0 35 v0 rfl rfl)
  obtain ⟨fuel0, hf0⟩ := t0
  obtain ⟨f0_0, f0_1, f0_2, f0_3, f0_4, f0_5, f0_6, rfl⟩ := array7 (hsz0.trans (by kernel_rfl))
  obtain ⟨ys0, n0, _, _, _, hyl0, hg0⟩ := DataW.trod_struct Try.underlying35 hf0
  obtain ⟨y0_0, g0_0⟩ : ∃ y, DataW.trod enc Try.prog W 0 (fun _ => true) true n0 3 [f0_0] = some y := field1 hg0 0 rfl (by rw [hyl0]; decide) (by kernel_rfl) rfl
  obtain ⟨m1, hn0_0, _, wf0_0⟩ := DataW.trod_int Try.underlying3 g0_0
  simp at hn0_0
  subst hn0_0
  have hi0_0 := i64_of_wf wf0_0
  obtain ⟨y0_1, g0_1⟩ : ∃ y, DataW.trod enc Try.prog W 0 (fun _ => true) true n0 3 [f0_1] = some y := field1 hg0 1 rfl (by rw [hyl0]; decide) (by kernel_rfl) rfl
  obtain ⟨m2, hn0_1, _, wf0_1⟩ := DataW.trod_int Try.underlying3 g0_1
  simp at hn0_1
  subst hn0_1
  have hi0_1 := i64_of_wf wf0_1
  obtain ⟨y0_2, g0_2⟩ : ∃ y, DataW.trod enc Try.prog W 0 (fun _ => true) true n0 3 [f0_2] = some y := field1 hg0 2 rfl (by rw [hyl0]; decide) (by kernel_rfl) rfl
  obtain ⟨m3, hn0_2, _, wf0_2⟩ := DataW.trod_int Try.underlying3 g0_2
  simp at hn0_2
  subst hn0_2
  have hi0_2 := i64_of_wf wf0_2
  obtain ⟨y0_3, g0_3⟩ : ∃ y, DataW.trod enc Try.prog W 0 (fun _ => true) true n0 31 [f0_3] = some y := field1 hg0 3 rfl (by rw [hyl0]; decide) (by kernel_rfl) rfl
  obtain ⟨a1, c1, s1, hv0_3, hx0_3, hr0_3, hm0_3⟩ := openLls _ (fun xs : List Int => (∀ x ∈ xs, I64 x) ∧ xs.length ≤ maxLen) Try.underlying31 (by kernel_rfl) (fun _ _ _ hq => by obtain ⟨a, c, xs, h1, h2, h3, h4⟩ := openInts Try.underlying33 (by kernel_rfl) Try.underlying3 hq; exact ⟨a, c, xs, h1, h2, h3, h4⟩) g0_3
  subst hv0_3
  obtain ⟨y0_4, g0_4⟩ : ∃ y, DataW.trod enc Try.prog W 0 (fun _ => true) true n0 31 [f0_4] = some y := field1 hg0 4 rfl (by rw [hyl0]; decide) (by kernel_rfl) rfl
  obtain ⟨a2, c2, s2, hv0_4, hx0_4, hr0_4, hm0_4⟩ := openLls _ (fun xs : List Int => (∀ x ∈ xs, I64 x) ∧ xs.length ≤ maxLen) Try.underlying31 (by kernel_rfl) (fun _ _ _ hq => by obtain ⟨a, c, xs, h1, h2, h3, h4⟩ := openInts Try.underlying33 (by kernel_rfl) Try.underlying3 hq; exact ⟨a, c, xs, h1, h2, h3, h4⟩) g0_4
  subst hv0_4
  obtain ⟨y0_5, g0_5⟩ : ∃ y, DataW.trod enc Try.prog W 0 (fun _ => true) true n0 32 [f0_5] = some y := field1 hg0 5 rfl (by rw [hyl0]; decide) (by kernel_rfl) rfl
  obtain ⟨a3, c3, s3, hv0_5, hx0_5, hr0_5, hm0_5⟩ := openClauses Try.underlying32 Try.underlying118 (by kernel_rfl) (by kernel_rfl) Try.underlying3 Try.underlying33 Try.underlying3 (by kernel_rfl) Try.underlying3 g0_5
  subst hv0_5
  obtain ⟨y0_6, g0_6⟩ : ∃ y, DataW.trod enc Try.prog W 0 (fun _ => true) true n0 33 [f0_6] = some y := field1 hg0 6 rfl (by rw [hyl0]; decide) (by kernel_rfl) rfl
  obtain ⟨a4, c4, s4, hv0_6, hx0_6, hr0_6, hm0_6⟩ := openInts Try.underlying33 (by kernel_rfl) Try.underlying3 g0_6
  subst hv0_6
  clear hA0 hval0
  unfold maxLen at *
  refine (law_ReachableStates ⟨a1, c1, a2, c2, a3, c3, a4, c4⟩ ⟨m1, m2, m3, s1, s2, s3, s4⟩ W ⟨hx0_3, hx0_4, hx0_5, hx0_6⟩ ⟨by simp only []; omega, fun x hx => by have := (hr0_3 x hx).2; omega, by simp only []; omega, fun x hx => by have := (hr0_4 x hx).2; omega, by simp only []; omega, fun x hx => by have := (hr0_5 x hx).2; omega, by simp only []; omega⟩).2.mono fun e W' hee => ?_
  obtain ⟨v, he, hv, hE⟩ := hee
  subst he
  subst hv
  have bel := hE.below
  exact ⟨_, rfl, _, _, _, [], _, [], hW', trodAll_mk1 (shut_bool Try.underlying4 _), (trodAll_cons_mk (Below.trod laidOut_fnExactReachableStates (by kernel_rfl) (of_decide_eq_true (by kernel_rfl)) k0 bel lt0) trodAll_mk0), rfl, bel.frame _, fun h => by cases h⟩

theorem over_fnExactReachableStates : Rows.fnExactReachableStatesRow.holds Try.pinned (OpenSpec.ofChange Rows.fnExactReachableStatesSpec) :=
  OpenClaim.holds_of_wide 8 Try.f8 rfl rfl rfl rfl rfl rfl rfl ⟨rfl, rfl, rfl, rfl, rfl⟩ rfl rfl rfl rfl rfl (by kernel_rfl) Try.func8 (by kernel_rfl)
    (of_decide_eq_true (by kernel_rfl)) (by unfold Func.isWrapper; rw [if_neg (of_decide_eq_false (by kernel_rfl))]; exact ⟨rfl, rfl⟩)
    (fun os started H enc _ => lifted_fnExactReachableStates os started H enc)

/-- The given statement. -/
theorem fnExactReachableStates_holds : Rows.FnExactReachableStatesSaid := over_fnExactReachableStates
#print axioms fnExactReachableStates_holds

end Go.Proofs.Ytjhgpcbbmhdojaa
