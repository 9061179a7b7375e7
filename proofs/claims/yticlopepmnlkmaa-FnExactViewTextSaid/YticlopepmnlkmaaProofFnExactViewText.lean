/- FnExactViewText returns true for every input, and the input reads as it did. No condition. -/
import Derived.Test.YticlopepmnlkmaaVtx5
import Derived.Test.YticlopepmnlkmaaOpen2
import Derived.Test.YticlopepmnlkmaaRows
namespace Go.Proofs.Yticlopepmnlkmaa
open Go Go.RowKit Go.ChangeShapes Go.WideShapes Go.ChangeAt Go.Deep

theorem own_fnExactViewText : ownKnob Try.prog.godebug = none := by kernel_rfl
theorem laidOut_fnExactViewText : laidOutB Try.prog = true := by kernel_rfl
set_option maxRecDepth 100000 in
set_option maxHeartbeats 1000000 in
theorem lifted_fnExactViewText (os : Os) (started : os.Started) (H : Type) (enc : TypeId × Value → H) :
    ReturnsInHanded {} Try.checked os 3 .any (Rows.fnExactViewTextSpec.pre6 enc Try.prog Try.f3 Rows.fnExactViewTextRow.domain false) (Rows.fnExactViewTextSpec.post enc Try.prog Try.f3 false true false false) := by
  refine returnsInHanded_of_change (C := Try.checked) own_fnExactViewText started (by kernel_rfl) Try.func3
    (ChangeSpec.witness6 (enc := enc) (C := Try.checked) false ⟨#[], #[.agg #[.slice none 0 0, .slice none 0 0, .slice none 0 0], .int .i64 0, .int .i64 0], []⟩ 8 (by kernel_rfl) (by kernel_rfl) (by kernel_rfl) (by kernel_rfl)) ?_
  intro W base args ds gs before hval0 hW hcnd _
  have hval : ∀ (j : Nat) t v, Try.f3.params[j]? = some t → args[j]? = some v → Value.okWide Try.prog W .any base t v := hval0
  have hW' := hW
  obtain ⟨p, q, hA0, hV, rfl, hfz, hnd⟩ := hW
  have hA : DataW.TrodAll enc Try.prog W 0 (fun _ => true) true Try.f3.params.toList args.toList ds p := hA0
  rw [Try.params3] at hA hval
  obtain ⟨v0, vs0, d0, ds0, p0, q0, hargs, rfl, rfl, t0, r0⟩ := trodAll_cons hA
  obtain ⟨v1, vs1, d1, ds1, p1, q1, rfl, rfl, rfl, t1, r1⟩ := trodAll_cons r0
  obtain ⟨v2, vs2, d2, ds2, p2, q2, rfl, rfl, rfl, t2, r2⟩ := trodAll_cons r1
  obtain ⟨rfl, rfl, rfl⟩ := trodAll_nil r2
  obtain rfl : args = #[v0, v1, v2] := by cases args; simp_all
  obtain ⟨rfl, rfl⟩ := trodVars_none hV
  have k0 := t0
  have lt0 : ∀ x ∈ p0, x.block < W.heap.size := by obtain ⟨m, hm⟩ := k0; exact DataW.trod_lt m _ _ _ hm
  obtain ⟨cs0, rfl, hsz0⟩ := okWide_struct Try.underlying25 (hval 0 25 v0 rfl rfl)
  obtain ⟨fuel0, hf0⟩ := t0
  obtain ⟨f0_0, f0_1, f0_2, rfl⟩ := array3' (hsz0.trans (by kernel_rfl))
  obtain ⟨ys0, n0, _, _, _, hyl0, hg0⟩ := DataW.trod_struct Try.underlying25 hf0
  obtain ⟨y0_0, g0_0⟩ : ∃ y, DataW.trod enc Try.prog W 0 (fun _ => true) true n0 22 [f0_0] = some y := field1 hg0 0 rfl (by rw [hyl0]; decide) (by kernel_rfl) rfl
  obtain ⟨a0_0, c0_0, s0_0, hv0_0, hx0_0, hr0_0, hm0_0⟩ := openLls _ (fun xs : List (Int × Int) => (∀ p ∈ xs, I64 p.1 ∧ I64 p.2) ∧ xs.length ≤ maxLen) Try.underlying22 (by kernel_rfl) (fun _ _ _ hq => by obtain ⟨a, c, xs, h1, h2, h3, h4⟩ := openPairs Try.underlying57 Try.underlying76 (by kernel_rfl) rfl rfl (by kernel_rfl) (by kernel_rfl) Try.underlying3 Try.underlying3 hq; exact ⟨a, c, xs, h1, h2, h3, h4⟩) g0_0
  subst hv0_0
  obtain ⟨y0_1, g0_1⟩ : ∃ y, DataW.trod enc Try.prog W 0 (fun _ => true) true n0 23 [f0_1] = some y := field1 hg0 1 rfl (by rw [hyl0]; decide) (by kernel_rfl) rfl
  obtain ⟨a0_1, c0_1, s0_1, hv0_1, hx0_1, hr0_1, hm0_1⟩ := openInts Try.underlying23 (by kernel_rfl) Try.underlying3 g0_1
  subst hv0_1
  obtain ⟨y0_2, g0_2⟩ : ∃ y, DataW.trod enc Try.prog W 0 (fun _ => true) true n0 23 [f0_2] = some y := field1 hg0 2 rfl (by rw [hyl0]; decide) (by kernel_rfl) rfl
  obtain ⟨a0_2, c0_2, s0_2, hv0_2, hx0_2, hr0_2, hm0_2⟩ := openInts Try.underlying23 (by kernel_rfl) Try.underlying3 g0_2
  subst hv0_2
  obtain ⟨x1, rfl, rfl, rfl, wf1⟩ := open_int Try.underlying3 (hval 1 3 v1 rfl rfl) t1
  have hi1 := i64_of_wf wf1
  obtain ⟨x2, rfl, rfl, rfl, wf2⟩ := open_int Try.underlying3 (hval 2 3 v2 rfl rfl) t2
  have hi2 := i64_of_wf wf2
  clear hA0 hval0
  unfold maxLen at *
  refine (law_ViewText ⟨a0_0, c0_0, a0_1, c0_1, a0_2, c0_2⟩ ⟨s0_0, s0_1, s0_2⟩ x1 x2 W ⟨hx0_0, hx0_1, hx0_2⟩ ⟨by simp only []; omega, fun x hx => by have := (hr0_0 x hx).2; omega, by simp only []; omega, by simp only []; omega⟩ hi1 hi2).2.mono fun e W' hee => ?_
  obtain ⟨v, he, hv, hE⟩ := hee
  subst he
  subst hv
  have bel := hE.below
  exact ⟨_, rfl, _, _, _, [], _, [], hW', trodAll_mk1 (shut_bool Try.underlying4 _), (trodAll_cons_mk (Below.trod laidOut_fnExactViewText (by kernel_rfl) (of_decide_eq_true (by kernel_rfl)) k0 bel lt0) (trodAll_cons_mk (shut_int Try.underlying3 wf1) (trodAll_cons_mk (shut_int Try.underlying3 wf2) trodAll_mk0))), rfl, bel.frame _, fun h => by cases h⟩

theorem over_fnExactViewText : Rows.fnExactViewTextRow.holds Try.pinned (OpenSpec.ofChange Rows.fnExactViewTextSpec) :=
  OpenClaim.holds_of_wide 3 Try.f3 rfl rfl rfl rfl rfl rfl rfl ⟨rfl, rfl, rfl, rfl, rfl⟩ rfl rfl rfl rfl rfl (by kernel_rfl) Try.func3 (by kernel_rfl)
    (of_decide_eq_true (by kernel_rfl)) (by unfold Func.isWrapper; rw [if_neg (of_decide_eq_false (by kernel_rfl))]; exact ⟨rfl, rfl⟩)
    (fun os started H enc _ => lifted_fnExactViewText os started H enc)

/-- The given statement. -/
theorem fnExactViewText_holds : Rows.FnExactViewTextSaid := over_fnExactViewText
#print axioms fnExactViewText_holds

end Go.Proofs.Yticlopepmnlkmaa
