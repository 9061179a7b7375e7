/- FnExactOutputsOf returns true for every input, and the input reads as it did. No condition. -/
import Derived.Test.YtebjcbgencenbaaGreatOuts
import Derived.Test.YtebjcbgencenbaaGreatOpen2
import Derived.Test.YtebjcbgencenbaaGreatRows
namespace Go.Proofs.YtebjcbgencenbaaGreat
open Go Go.RowKit Go.ChangeShapes Go.WideShapes Go.ChangeAt Go.Deep

theorem own_fnExactOutputsOf : ownKnob Tryz.prog.godebug = none := by kernel_rfl
theorem laidOut_fnExactOutputsOf : laidOutB Tryz.prog = true := by kernel_rfl
set_option maxRecDepth 100000 in
set_option maxHeartbeats 1000000 in
theorem lifted_fnExactOutputsOf (os : Os) (started : os.Started) (H : Type) (enc : TypeId × Value → H) :
    ReturnsInHanded {} Tryz.checked os 3 .any (Rows.fnExactOutputsOfSpec.pre6 enc Tryz.prog Tryz.f3 Rows.fnExactOutputsOfRow.domain false) (Rows.fnExactOutputsOfSpec.post enc Tryz.prog Tryz.f3 false true false false) := by
  refine returnsInHanded_of_change (C := Tryz.checked) own_fnExactOutputsOf started (by kernel_rfl) Tryz.func3
    (ChangeSpec.witness6 (enc := enc) (C := Tryz.checked) false ⟨#[], #[.agg #[.int .i64 0, .int .i64 0, .int .i64 0, .slice none 0 0, .slice none 0 0, .slice none 0 0, .slice none 0 0], .agg #[.slice none 0 0, .slice none 0 0, .slice none 0 0], .int .i64 0], []⟩ 8 (by kernel_rfl) (by kernel_rfl) (by kernel_rfl) (by kernel_rfl)) ?_
  intro W base args ds gs before hval0 hW hcnd _
  have hval : ∀ (j : Nat) t v, Tryz.f3.params[j]? = some t → args[j]? = some v → Value.okWide Tryz.prog W .any base t v := hval0
  have hW' := hW
  obtain ⟨p, q, hA0, hV, rfl, hfz, hnd⟩ := hW
  have hA : DataW.TrodAll enc Tryz.prog W 0 (fun _ => true) true Tryz.f3.params.toList args.toList ds p := hA0
  rw [Tryz.params3] at hA hval
  obtain ⟨v0, vs0, d0, ds0, p0, q0, hargs, rfl, rfl, t0, r0⟩ := trodAll_cons hA
  obtain ⟨v1, vs1, d1, ds1, p1, q1, rfl, rfl, rfl, t1, r1⟩ := trodAll_cons r0
  obtain ⟨v2, vs2, d2, ds2, p2, q2, rfl, rfl, rfl, t2, r2⟩ := trodAll_cons r1
  obtain ⟨rfl, rfl, rfl⟩ := trodAll_nil r2
  obtain rfl : args = #[v0, v1, v2] := by cases args; simp_all
  obtain ⟨rfl, rfl⟩ := trodVars_none hV
  have k0 := t0
  have lt0 : ∀ x ∈ p0, x.block < W.heap.size := by obtain ⟨m, hm⟩ := k0; exact DataW.trod_lt m _ _ _ hm
  obtain ⟨cs0, rfl, hsz0⟩ := okWide_struct Tryz.underlying26 (hval 0 26 v0 rfl rfl)
  obtain ⟨fuel0, hf0⟩ := t0
  obtain ⟨f0_0, f0_1, f0_2, f0_3, f0_4, f0_5, f0_6, rfl⟩ := array7 (hsz0.trans (by kernel_rfl))
  obtain ⟨ys0, n0, _, _, _, hyl0, hg0⟩ := DataW.trod_struct Tryz.underlying26 hf0
  obtain ⟨y0_0, g0_0⟩ : ∃ y, DataW.trod enc Tryz.prog W 0 (fun _ => true) true n0 3 [f0_0] = some y := field1 hg0 0 rfl (by rw [hyl0]; decide) (by kernel_rfl) rfl
  obtain ⟨m0_0, hn0_0, _, wf0_0⟩ := DataW.trod_int Tryz.underlying3 g0_0
  simp at hn0_0
  subst hn0_0
  have hi0_0 := i64_of_wf wf0_0
  obtain ⟨y0_1, g0_1⟩ : ∃ y, DataW.trod enc Tryz.prog W 0 (fun _ => true) true n0 3 [f0_1] = some y := field1 hg0 1 rfl (by rw [hyl0]; decide) (by kernel_rfl) rfl
  obtain ⟨m0_1, hn0_1, _, wf0_1⟩ := DataW.trod_int Tryz.underlying3 g0_1
  simp at hn0_1
  subst hn0_1
  have hi0_1 := i64_of_wf wf0_1
  obtain ⟨y0_2, g0_2⟩ : ∃ y, DataW.trod enc Tryz.prog W 0 (fun _ => true) true n0 3 [f0_2] = some y := field1 hg0 2 rfl (by rw [hyl0]; decide) (by kernel_rfl) rfl
  obtain ⟨m0_2, hn0_2, _, wf0_2⟩ := DataW.trod_int Tryz.underlying3 g0_2
  simp at hn0_2
  subst hn0_2
  have hi0_2 := i64_of_wf wf0_2
  obtain ⟨y0_3, g0_3⟩ : ∃ y, DataW.trod enc Tryz.prog W 0 (fun _ => true) true n0 22 [f0_3] = some y := field1 hg0 3 rfl (by rw [hyl0]; decide) (by kernel_rfl) rfl
  obtain ⟨a0_3, c0_3, s0_3, hv0_3, hx0_3, hr0_3, hm0_3⟩ := openLls _ (fun xs : List Int => (∀ x ∈ xs, I64 x) ∧ xs.length ≤ maxLen) Tryz.underlying22 (by kernel_rfl) (fun _ _ _ hq => by obtain ⟨a, c, xs, h1, h2, h3, h4⟩ := openInts Tryz.underlying24 (by kernel_rfl) Tryz.underlying3 hq; exact ⟨a, c, xs, h1, h2, h3, h4⟩) g0_3
  subst hv0_3
  obtain ⟨y0_4, g0_4⟩ : ∃ y, DataW.trod enc Tryz.prog W 0 (fun _ => true) true n0 22 [f0_4] = some y := field1 hg0 4 rfl (by rw [hyl0]; decide) (by kernel_rfl) rfl
  obtain ⟨a0_4, c0_4, s0_4, hv0_4, hx0_4, hr0_4, hm0_4⟩ := openLls _ (fun xs : List Int => (∀ x ∈ xs, I64 x) ∧ xs.length ≤ maxLen) Tryz.underlying22 (by kernel_rfl) (fun _ _ _ hq => by obtain ⟨a, c, xs, h1, h2, h3, h4⟩ := openInts Tryz.underlying24 (by kernel_rfl) Tryz.underlying3 hq; exact ⟨a, c, xs, h1, h2, h3, h4⟩) g0_4
  subst hv0_4
  obtain ⟨y0_5, g0_5⟩ : ∃ y, DataW.trod enc Tryz.prog W 0 (fun _ => true) true n0 23 [f0_5] = some y := field1 hg0 5 rfl (by rw [hyl0]; decide) (by kernel_rfl) rfl
  obtain ⟨a0_5, c0_5, s0_5, hv0_5, hx0_5, hr0_5, hm0_5⟩ := openClauses Tryz.underlying23 Tryz.underlying70 (by kernel_rfl) (by kernel_rfl) Tryz.underlying3 Tryz.underlying24 Tryz.underlying3 (by kernel_rfl) Tryz.underlying3 g0_5
  subst hv0_5
  obtain ⟨y0_6, g0_6⟩ : ∃ y, DataW.trod enc Tryz.prog W 0 (fun _ => true) true n0 24 [f0_6] = some y := field1 hg0 6 rfl (by rw [hyl0]; decide) (by kernel_rfl) rfl
  obtain ⟨a0_6, c0_6, s0_6, hv0_6, hx0_6, hr0_6, hm0_6⟩ := openInts Tryz.underlying24 (by kernel_rfl) Tryz.underlying3 g0_6
  subst hv0_6
  have k1 := t1
  have lt1 : ∀ x ∈ p1, x.block < W.heap.size := by obtain ⟨m, hm⟩ := k1; exact DataW.trod_lt m _ _ _ hm
  obtain ⟨cs1, rfl, hsz1⟩ := okWide_struct Tryz.underlying29 (hval 1 29 v1 rfl rfl)
  obtain ⟨fuel1, hf1⟩ := t1
  obtain ⟨f1_0, f1_1, f1_2, rfl⟩ := array3' (hsz1.trans (by kernel_rfl))
  obtain ⟨ys1, n1, _, _, _, hyl1, hg1⟩ := DataW.trod_struct Tryz.underlying29 hf1
  obtain ⟨y1_0, g1_0⟩ : ∃ y, DataW.trod enc Tryz.prog W 0 (fun _ => true) true n1 27 [f1_0] = some y := field1 hg1 0 rfl (by rw [hyl1]; decide) (by kernel_rfl) rfl
  obtain ⟨a1_0, c1_0, s1_0, hv1_0, hx1_0, hr1_0, hm1_0⟩ := openLls _ (fun xs : List (Int × Int) => (∀ p ∈ xs, I64 p.1 ∧ I64 p.2) ∧ xs.length ≤ maxLen) Tryz.underlying27 (by kernel_rfl) (fun _ _ _ hq => by obtain ⟨a, c, xs, h1, h2, h3, h4⟩ := openPairs Tryz.underlying72 Tryz.underlying94 (by kernel_rfl) rfl rfl (by kernel_rfl) (by kernel_rfl) Tryz.underlying3 Tryz.underlying3 hq; exact ⟨a, c, xs, h1, h2, h3, h4⟩) g1_0
  subst hv1_0
  obtain ⟨y1_1, g1_1⟩ : ∃ y, DataW.trod enc Tryz.prog W 0 (fun _ => true) true n1 24 [f1_1] = some y := field1 hg1 1 rfl (by rw [hyl1]; decide) (by kernel_rfl) rfl
  obtain ⟨a1_1, c1_1, s1_1, hv1_1, hx1_1, hr1_1, hm1_1⟩ := openInts Tryz.underlying24 (by kernel_rfl) Tryz.underlying3 g1_1
  subst hv1_1
  obtain ⟨y1_2, g1_2⟩ : ∃ y, DataW.trod enc Tryz.prog W 0 (fun _ => true) true n1 24 [f1_2] = some y := field1 hg1 2 rfl (by rw [hyl1]; decide) (by kernel_rfl) rfl
  obtain ⟨a1_2, c1_2, s1_2, hv1_2, hx1_2, hr1_2, hm1_2⟩ := openInts Tryz.underlying24 (by kernel_rfl) Tryz.underlying3 g1_2
  subst hv1_2
  obtain ⟨x2, rfl, rfl, rfl, wf2⟩ := open_int Tryz.underlying3 (hval 2 3 v2 rfl rfl) t2
  have hi2 := i64_of_wf wf2
  clear hA0 hval0
  unfold maxLen at *
  refine (law_OutputsOf ⟨a0_3, c0_3, a0_4, c0_4, a0_5, c0_5, a0_6, c0_6⟩ ⟨m0_0, m0_1, m0_2, s0_3, s0_4, s0_5, s0_6⟩ ⟨a1_0, c1_0, a1_1, c1_1, a1_2, c1_2⟩ ⟨s1_0, s1_1, s1_2⟩ x2 W ⟨hx0_3, hx0_4, hx0_5, hx0_6⟩ ⟨by simp only []; omega, fun x hx => by have := (hr0_3 x hx).2; omega, by simp only []; omega, fun x hx => by have := (hr0_4 x hx).2; omega, by simp only []; omega, fun x hx => by have := (hr0_5 x hx).2; omega, by simp only []; omega⟩ ⟨hx1_0, hx1_1, hx1_2⟩ ⟨by simp only []; omega, fun x hx => by have := (hr1_0 x hx).2; omega, by simp only []; omega, by simp only []; omega⟩ hi2).2.mono fun e W' hee => ?_
  obtain ⟨v, he, hv, hE⟩ := hee
  subst he
  subst hv
  have bel := hE.below
  exact ⟨_, rfl, _, _, _, [], _, [], hW', trodAll_mk1 (shut_bool Tryz.underlying4 _), (trodAll_cons_mk (Below.trod laidOut_fnExactOutputsOf (by kernel_rfl) (of_decide_eq_true (by kernel_rfl)) k0 bel lt0) (trodAll_cons_mk (Below.trod laidOut_fnExactOutputsOf (by kernel_rfl) (of_decide_eq_true (by kernel_rfl)) k1 bel lt1) (trodAll_cons_mk (shut_int Tryz.underlying3 wf2) trodAll_mk0))), rfl, bel.frame _, fun h => by cases h⟩

theorem over_fnExactOutputsOf : Rows.fnExactOutputsOfRow.holds Tryz.pinned (OpenSpec.ofChange Rows.fnExactOutputsOfSpec) :=
  OpenClaim.holds_of_wide 3 Tryz.f3 rfl rfl rfl rfl rfl rfl rfl ⟨rfl, rfl, rfl, rfl, rfl⟩ rfl rfl rfl rfl rfl (by kernel_rfl) Tryz.func3 (by kernel_rfl)
    (of_decide_eq_true (by kernel_rfl)) (by unfold Func.isWrapper; rw [if_neg (of_decide_eq_false (by kernel_rfl))]; exact ⟨rfl, rfl⟩)
    (fun os started H enc _ => lifted_fnExactOutputsOf os started H enc)

/-- The given statement. -/
theorem fnExactOutputsOf_holds : Rows.FnExactOutputsOfSaid := over_fnExactOutputsOf
#print axioms fnExactOutputsOf_holds

end Go.Proofs.YtebjcbgencenbaaGreat
