/- FnExactFibreProduct returns true for every input, and the input reads as it did. No condition. -/
import Derived.Test.YtladejfcplpnaaaFib4
import Derived.Test.YtladejfcplpnaaaOpen2
import Derived.Test.YtladejfcplpnaaaRows
namespace Go.Proofs.Ytladejfcplpnaaa
open Go Go.RowKit Go.ChangeShapes Go.WideShapes Go.ChangeAt Go.Deep

theorem own_fnExactFibreProduct : ownKnob Try.prog.godebug = none := by kernel_rfl
theorem laidOut_fnExactFibreProduct : laidOutB Try.prog = true := by kernel_rfl
set_option maxRecDepth 100000 in
set_option maxHeartbeats 1000000 in
theorem lifted_fnExactFibreProduct (os : Os) (started : os.Started) (H : Type) (enc : TypeId × Value → H) :
    ReturnsInHanded {} Try.checked os 4 .any (Rows.fnExactFibreProductSpec.pre6 enc Try.prog Try.f4 Rows.fnExactFibreProductRow.domain false) (Rows.fnExactFibreProductSpec.post enc Try.prog Try.f4 false true false false) := by
  refine returnsInHanded_of_change (C := Try.checked) own_fnExactFibreProduct started (by kernel_rfl) Try.func4
    (ChangeSpec.witness6 (enc := enc) (C := Try.checked) false ⟨#[], #[.agg #[.slice none 0 0, .slice none 0 0, .slice none 0 0], .agg #[.slice none 0 0, .slice none 0 0, .slice none 0 0], .agg #[.slice none 0 0, .slice none 0 0, .slice none 0 0], .slice none 0 0, .slice none 0 0], []⟩ 8 (by kernel_rfl) (by kernel_rfl) (by kernel_rfl) (by kernel_rfl)) ?_
  intro W base args ds gs before hval0 hW hcnd _
  have hval : ∀ (j : Nat) t v, Try.f4.params[j]? = some t → args[j]? = some v → Value.okWide Try.prog W .any base t v := hval0
  have hW' := hW
  obtain ⟨p, q, hA0, hV, rfl, hfz, hnd⟩ := hW
  have hA : DataW.TrodAll enc Try.prog W 0 (fun _ => true) true Try.f4.params.toList args.toList ds p := hA0
  rw [Try.params4] at hA hval
  obtain ⟨v0, vs0, d0, ds0, p0, q0, hargs, rfl, rfl, t0, r0⟩ := trodAll_cons hA
  obtain ⟨v1, vs1, d1, ds1, p1, q1, rfl, rfl, rfl, t1, r1⟩ := trodAll_cons r0
  obtain ⟨v2, vs2, d2, ds2, p2, q2, rfl, rfl, rfl, t2, r2⟩ := trodAll_cons r1
  obtain ⟨v3, vs3, d3, ds3, p3, q3, rfl, rfl, rfl, t3, r3⟩ := trodAll_cons r2
  obtain ⟨v4, vs4, d4, ds4, p4, q4, rfl, rfl, rfl, t4, r4⟩ := trodAll_cons r3
  obtain ⟨rfl, rfl, rfl⟩ := trodAll_nil r4
  obtain rfl : args = #[v0, v1, v2, v3, v4] := by cases args; simp_all
  obtain ⟨rfl, rfl⟩ := trodVars_none hV
  have k0 := t0
  have lt0 : ∀ x ∈ p0, x.block < W.heap.size := by obtain ⟨m, hm⟩ := k0; exact DataW.trod_lt m _ _ _ hm
  obtain ⟨cs0, rfl, hsz0⟩ := okWide_struct Try.underlying25 (hval 0 25 v0 rfl rfl)
  obtain ⟨fuel0, hf0⟩ := t0
  obtain ⟨f0_0, f0_1, f0_2, rfl⟩ := array3' (hsz0.trans (by kernel_rfl))
  obtain ⟨ys0, n0, _, _, _, hyl0, hg0⟩ := DataW.trod_struct Try.underlying25 hf0
  obtain ⟨y0_0, g0_0⟩ : ∃ y, DataW.trod enc Try.prog W 0 (fun _ => true) true n0 22 [f0_0] = some y := field1 hg0 0 rfl (by rw [hyl0]; decide) (by kernel_rfl) rfl
  obtain ⟨a0_0, c0_0, s0_0, hv0_0, hx0_0, hr0_0, hm0_0⟩ := openLls _ (fun xs : List (Int × Int) => (∀ p ∈ xs, I64 p.1 ∧ I64 p.2) ∧ xs.length ≤ maxLen) Try.underlying22 (by kernel_rfl) (fun _ _ _ hq => by obtain ⟨a, c, xs, h1, h2, h3, h4⟩ := openPairs Try.underlying80 Try.underlying89 (by kernel_rfl) rfl rfl (by kernel_rfl) (by kernel_rfl) Try.underlying3 Try.underlying3 hq; exact ⟨a, c, xs, h1, h2, h3, h4⟩) g0_0
  subst hv0_0
  obtain ⟨y0_1, g0_1⟩ : ∃ y, DataW.trod enc Try.prog W 0 (fun _ => true) true n0 23 [f0_1] = some y := field1 hg0 1 rfl (by rw [hyl0]; decide) (by kernel_rfl) rfl
  obtain ⟨a0_1, c0_1, s0_1, hv0_1, hx0_1, hr0_1, hm0_1⟩ := openInts Try.underlying23 (by kernel_rfl) Try.underlying3 g0_1
  subst hv0_1
  obtain ⟨y0_2, g0_2⟩ : ∃ y, DataW.trod enc Try.prog W 0 (fun _ => true) true n0 23 [f0_2] = some y := field1 hg0 2 rfl (by rw [hyl0]; decide) (by kernel_rfl) rfl
  obtain ⟨a0_2, c0_2, s0_2, hv0_2, hx0_2, hr0_2, hm0_2⟩ := openInts Try.underlying23 (by kernel_rfl) Try.underlying3 g0_2
  subst hv0_2
  have k1 := t1
  have lt1 : ∀ x ∈ p1, x.block < W.heap.size := by obtain ⟨m, hm⟩ := k1; exact DataW.trod_lt m _ _ _ hm
  obtain ⟨cs1, rfl, hsz1⟩ := okWide_struct Try.underlying25 (hval 1 25 v1 rfl rfl)
  obtain ⟨fuel1, hf1⟩ := t1
  obtain ⟨f1_0, f1_1, f1_2, rfl⟩ := array3' (hsz1.trans (by kernel_rfl))
  obtain ⟨ys1, n1, _, _, _, hyl1, hg1⟩ := DataW.trod_struct Try.underlying25 hf1
  obtain ⟨y1_0, g1_0⟩ : ∃ y, DataW.trod enc Try.prog W 0 (fun _ => true) true n1 22 [f1_0] = some y := field1 hg1 0 rfl (by rw [hyl1]; decide) (by kernel_rfl) rfl
  obtain ⟨a1_0, c1_0, s1_0, hv1_0, hx1_0, hr1_0, hm1_0⟩ := openLls _ (fun xs : List (Int × Int) => (∀ p ∈ xs, I64 p.1 ∧ I64 p.2) ∧ xs.length ≤ maxLen) Try.underlying22 (by kernel_rfl) (fun _ _ _ hq => by obtain ⟨a, c, xs, h1, h2, h3, h4⟩ := openPairs Try.underlying80 Try.underlying89 (by kernel_rfl) rfl rfl (by kernel_rfl) (by kernel_rfl) Try.underlying3 Try.underlying3 hq; exact ⟨a, c, xs, h1, h2, h3, h4⟩) g1_0
  subst hv1_0
  obtain ⟨y1_1, g1_1⟩ : ∃ y, DataW.trod enc Try.prog W 0 (fun _ => true) true n1 23 [f1_1] = some y := field1 hg1 1 rfl (by rw [hyl1]; decide) (by kernel_rfl) rfl
  obtain ⟨a1_1, c1_1, s1_1, hv1_1, hx1_1, hr1_1, hm1_1⟩ := openInts Try.underlying23 (by kernel_rfl) Try.underlying3 g1_1
  subst hv1_1
  obtain ⟨y1_2, g1_2⟩ : ∃ y, DataW.trod enc Try.prog W 0 (fun _ => true) true n1 23 [f1_2] = some y := field1 hg1 2 rfl (by rw [hyl1]; decide) (by kernel_rfl) rfl
  obtain ⟨a1_2, c1_2, s1_2, hv1_2, hx1_2, hr1_2, hm1_2⟩ := openInts Try.underlying23 (by kernel_rfl) Try.underlying3 g1_2
  subst hv1_2
  have k2 := t2
  have lt2 : ∀ x ∈ p2, x.block < W.heap.size := by obtain ⟨m, hm⟩ := k2; exact DataW.trod_lt m _ _ _ hm
  obtain ⟨cs2, rfl, hsz2⟩ := okWide_struct Try.underlying25 (hval 2 25 v2 rfl rfl)
  obtain ⟨fuel2, hf2⟩ := t2
  obtain ⟨f2_0, f2_1, f2_2, rfl⟩ := array3' (hsz2.trans (by kernel_rfl))
  obtain ⟨ys2, n2, _, _, _, hyl2, hg2⟩ := DataW.trod_struct Try.underlying25 hf2
  obtain ⟨y2_0, g2_0⟩ : ∃ y, DataW.trod enc Try.prog W 0 (fun _ => true) true n2 22 [f2_0] = some y := field1 hg2 0 rfl (by rw [hyl2]; decide) (by kernel_rfl) rfl
  obtain ⟨a2_0, c2_0, s2_0, hv2_0, hx2_0, hr2_0, hm2_0⟩ := openLls _ (fun xs : List (Int × Int) => (∀ p ∈ xs, I64 p.1 ∧ I64 p.2) ∧ xs.length ≤ maxLen) Try.underlying22 (by kernel_rfl) (fun _ _ _ hq => by obtain ⟨a, c, xs, h1, h2, h3, h4⟩ := openPairs Try.underlying80 Try.underlying89 (by kernel_rfl) rfl rfl (by kernel_rfl) (by kernel_rfl) Try.underlying3 Try.underlying3 hq; exact ⟨a, c, xs, h1, h2, h3, h4⟩) g2_0
  subst hv2_0
  obtain ⟨y2_1, g2_1⟩ : ∃ y, DataW.trod enc Try.prog W 0 (fun _ => true) true n2 23 [f2_1] = some y := field1 hg2 1 rfl (by rw [hyl2]; decide) (by kernel_rfl) rfl
  obtain ⟨a2_1, c2_1, s2_1, hv2_1, hx2_1, hr2_1, hm2_1⟩ := openInts Try.underlying23 (by kernel_rfl) Try.underlying3 g2_1
  subst hv2_1
  obtain ⟨y2_2, g2_2⟩ : ∃ y, DataW.trod enc Try.prog W 0 (fun _ => true) true n2 23 [f2_2] = some y := field1 hg2 2 rfl (by rw [hyl2]; decide) (by kernel_rfl) rfl
  obtain ⟨a2_2, c2_2, s2_2, hv2_2, hx2_2, hr2_2, hm2_2⟩ := openInts Try.underlying23 (by kernel_rfl) Try.underlying3 g2_2
  subst hv2_2
  have k3 := t3
  have lt3 : ∀ x ∈ p3, x.block < W.heap.size := by obtain ⟨m, hm⟩ := k3; exact DataW.trod_lt m _ _ _ hm
  obtain ⟨sa3, sl3, sc3, rfl⟩ := okWide_slice Try.underlying23 (hval 3 23 v3 rfl rfl)
  obtain ⟨fuel3, hf3⟩ := t3
  obtain ⟨a3, c3, s3, hv3, hx3, hr3, hm3⟩ := openInts Try.underlying23 (by kernel_rfl) Try.underlying3 hf3
  obtain ⟨rfl, rfl, rfl⟩ := slice_inj hv3
  have k4 := t4
  have lt4 : ∀ x ∈ p4, x.block < W.heap.size := by obtain ⟨m, hm⟩ := k4; exact DataW.trod_lt m _ _ _ hm
  obtain ⟨sa4, sl4, sc4, rfl⟩ := okWide_slice Try.underlying23 (hval 4 23 v4 rfl rfl)
  obtain ⟨fuel4, hf4⟩ := t4
  obtain ⟨a4, c4, s4, hv4, hx4, hr4, hm4⟩ := openInts Try.underlying23 (by kernel_rfl) Try.underlying3 hf4
  obtain ⟨rfl, rfl, rfl⟩ := slice_inj hv4
  clear hA0 hval0
  unfold maxLen at *
  refine (law_FibreProduct ⟨a0_0, c0_0, a0_1, c0_1, a0_2, c0_2⟩ ⟨s0_0, s0_1, s0_2⟩ ⟨a1_0, c1_0, a1_1, c1_1, a1_2, c1_2⟩ ⟨s1_0, s1_1, s1_2⟩ ⟨a2_0, c2_0, a2_1, c2_1, a2_2, c2_2⟩ ⟨s2_0, s2_1, s2_2⟩ _ _ s3 _ _ s4 W ⟨hx0_0, hx0_1, hx0_2⟩ ⟨by simp only []; omega, fun x hx => by have := (hr0_0 x hx).2; omega, by simp only []; omega, by simp only []; omega⟩ ⟨hx1_0, hx1_1, hx1_2⟩ ⟨by simp only []; omega, fun x hx => by have := (hr1_0 x hx).2; omega, by simp only []; omega, by simp only []; omega⟩ ⟨hx2_0, hx2_1, hx2_2⟩ ⟨by simp only []; omega, fun x hx => by have := (hr2_0 x hx).2; omega, by simp only []; omega, by simp only []; omega⟩ hx3 hx4).2.mono fun e W' hee => ?_
  obtain ⟨v, he, hv, hE⟩ := hee
  subst he
  subst hv
  have bel := hE.below
  exact ⟨_, rfl, _, _, _, [], _, [], hW', trodAll_mk1 (shut_bool Try.underlying4 _), (trodAll_cons_mk (Below.trod laidOut_fnExactFibreProduct (by kernel_rfl) (of_decide_eq_true (by kernel_rfl)) k0 bel lt0) (trodAll_cons_mk (Below.trod laidOut_fnExactFibreProduct (by kernel_rfl) (of_decide_eq_true (by kernel_rfl)) k1 bel lt1) (trodAll_cons_mk (Below.trod laidOut_fnExactFibreProduct (by kernel_rfl) (of_decide_eq_true (by kernel_rfl)) k2 bel lt2) (trodAll_cons_mk (Below.trod laidOut_fnExactFibreProduct (by kernel_rfl) (of_decide_eq_true (by kernel_rfl)) k3 bel lt3) (trodAll_cons_mk (Below.trod laidOut_fnExactFibreProduct (by kernel_rfl) (of_decide_eq_true (by kernel_rfl)) k4 bel lt4) trodAll_mk0))))), rfl, bel.frame _, fun h => by cases h⟩

theorem over_fnExactFibreProduct : Rows.fnExactFibreProductRow.holds Try.pinned (OpenSpec.ofChange Rows.fnExactFibreProductSpec) :=
  OpenClaim.holds_of_wide 4 Try.f4 rfl rfl rfl rfl rfl rfl rfl ⟨rfl, rfl, rfl, rfl, rfl⟩ rfl rfl rfl rfl rfl (by kernel_rfl) Try.func4 (by kernel_rfl)
    (of_decide_eq_true (by kernel_rfl)) (by unfold Func.isWrapper; rw [if_neg (of_decide_eq_false (by kernel_rfl))]; exact ⟨rfl, rfl⟩)
    (fun os started H enc _ => lifted_fnExactFibreProduct os started H enc)

/-- The given statement. -/
theorem fnExactFibreProduct_holds : Rows.FnExactFibreProductSaid := over_fnExactFibreProduct
#print axioms fnExactFibreProduct_holds

end Go.Proofs.Ytladejfcplpnaaa
