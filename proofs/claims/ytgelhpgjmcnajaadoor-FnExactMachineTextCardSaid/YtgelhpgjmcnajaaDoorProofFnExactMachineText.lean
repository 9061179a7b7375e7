/- FnExactMachineText returns true for every input, and the input reads as it did. The listed package variables hold what the program's text lays; the card ties that. -/
import Derived.ProofKit
import Derived.LaidMore
import Derived.OpenShut
import Derived.Stop.Joined
import Derived.SevenTiedAt
import Derived.Test.YtgelhpgjmcnajaaDoorMtx4
import Derived.Test.YtgelhpgjmcnajaaDoorOpen2
import Derived.Test.YtgelhpgjmcnajaaDoorRows
import Derived.Test.YtgelhpgjmcnajaaDoorTie
import Derived.Test.YtgelhpgjmcnajaaDoorCards
namespace Go.Proofs.YtgelhpgjmcnajaaDoor
open Go Go.RowKit Go.ChangeShapes Go.WideShapes Go.ChangeAt Go.Deep

theorem own_fnExactMachineText : ownKnob Tryd.prog.godebug = none := by kernel_rfl
theorem laidOut_fnExactMachineText : laidOutB Tryd.prog = true := by kernel_rfl
set_option maxRecDepth 100000 in
theorem door_fnExactMachineText (os : Os) (args : Array Value) : laidMetH Tryd.prog Rows.fnExactMachineTextRow.laid ((World.doorLaid Tryd.prog 24 os).forCall (fun _ _ => 0) ⟨#[], args, []⟩).memory :=
  laidMetH_of_parts3 (fuel := 8) (laidMet_of_run' 8 (by kernel_rfl) (by kernel_rfl)) (by kernel_rfl) (by kernel_rfl)
set_option maxRecDepth 100000 in
set_option maxHeartbeats 1000000 in
theorem lifted_fnExactMachineText (os : Os) (started : os.Started) (H : Type) (enc : TypeId × Value → H) :
    ReturnsInHanded {} Tryd.checked os 3 .any (fun w args => (Rows.fnExactMachineTextSpec.pre enc Tryd.prog Tryd.f3 [] false w args ∧ laidMetH Tryd.prog Rows.fnExactMachineTextRow.laid w) ∧ sizedMet enc Tryd.prog Tryd.f3 (OpenSpec.ofChange Rows.fnExactMachineTextSpec) false w args) (Rows.fnExactMachineTextSpec.post enc Tryd.prog Tryd.f3 false true false false) := by
  refine returnsInHanded_of_change_and (C := Tryd.checked) (X := fun w _ => laidMetH Tryd.prog Rows.fnExactMachineTextRow.laid w) (fun _ _ _ hh h => h.of_heap hh) own_fnExactMachineText started (by kernel_rfl) Tryd.func3
    (ChangeSpec.witness_shaped (enc := enc) (C := Tryd.checked) (os := os) (X := fun w _ => laidMetH Tryd.prog Rows.fnExactMachineTextRow.laid w) false (World.doorLaid Tryd.prog 24 os) #[.agg #[.int .i64 0, .int .i64 0, .int .i64 0, .slice none 0 0, .slice none 0 0, .slice none 0 0, .slice none 0 0]] 8 rfl (World.shaped_of_RefB (by kernel_rfl) (by kernel_rfl)) (by kernel_rfl) (by kernel_rfl) (by kernel_rfl) (door_fnExactMachineText os _)) ?_
  intro W base args ds gs before hval0 hW _ _ hL _
  have hval : ∀ (j : Nat) t v, Tryd.f3.params[j]? = some t → args[j]? = some v → Value.okWide Tryd.prog W .any base t v := hval0
  have hW' := hW
  obtain ⟨p, q, hA0, hV, rfl, hfz, hnd⟩ := hW
  have hA : DataW.TrodAll enc Tryd.prog W 0 (fun _ => true) true Tryd.f3.params.toList args.toList ds p := hA0
  rw [Tryd.params3] at hA hval
  obtain ⟨v0, vs0, d0, ds0, p0, q0, hargs, rfl, rfl, t0, r0⟩ := trodAll_cons hA
  obtain ⟨rfl, rfl, rfl⟩ := trodAll_nil r0
  obtain rfl : args = #[v0] := by cases args; simp_all
  obtain ⟨rfl, rfl⟩ := trodVars_none hV
  have k0 := t0
  have lt0 : ∀ x ∈ p0, x.block < W.heap.size := by obtain ⟨m, hm⟩ := k0; exact DataW.trod_lt m _ _ _ hm
  obtain ⟨cs0, rfl, hsz0⟩ := okWide_struct Tryd.underlying26 (hval 0 26 v0 rfl rfl)
  obtain ⟨fuel0, hf0⟩ := t0
  obtain ⟨f0_0, f0_1, f0_2, f0_3, f0_4, f0_5, f0_6, rfl⟩ := array7 (hsz0.trans (by kernel_rfl))
  obtain ⟨ys0, n0, _, _, _, hyl0, hg0⟩ := DataW.trod_struct Tryd.underlying26 hf0
  obtain ⟨y0_0, g0_0⟩ : ∃ y, DataW.trod enc Tryd.prog W 0 (fun _ => true) true n0 3 [f0_0] = some y := field1 hg0 0 rfl (by rw [hyl0]; decide) (by kernel_rfl) rfl
  obtain ⟨m0_0, hn0_0, _, wf0_0⟩ := DataW.trod_int Tryd.underlying3 g0_0
  simp at hn0_0
  subst hn0_0
  have hi0_0 := i64_of_wf wf0_0
  obtain ⟨y0_1, g0_1⟩ : ∃ y, DataW.trod enc Tryd.prog W 0 (fun _ => true) true n0 3 [f0_1] = some y := field1 hg0 1 rfl (by rw [hyl0]; decide) (by kernel_rfl) rfl
  obtain ⟨m0_1, hn0_1, _, wf0_1⟩ := DataW.trod_int Tryd.underlying3 g0_1
  simp at hn0_1
  subst hn0_1
  have hi0_1 := i64_of_wf wf0_1
  obtain ⟨y0_2, g0_2⟩ : ∃ y, DataW.trod enc Tryd.prog W 0 (fun _ => true) true n0 3 [f0_2] = some y := field1 hg0 2 rfl (by rw [hyl0]; decide) (by kernel_rfl) rfl
  obtain ⟨m0_2, hn0_2, _, wf0_2⟩ := DataW.trod_int Tryd.underlying3 g0_2
  simp at hn0_2
  subst hn0_2
  have hi0_2 := i64_of_wf wf0_2
  obtain ⟨y0_3, g0_3⟩ : ∃ y, DataW.trod enc Tryd.prog W 0 (fun _ => true) true n0 22 [f0_3] = some y := field1 hg0 3 rfl (by rw [hyl0]; decide) (by kernel_rfl) rfl
  obtain ⟨a0_3, c0_3, s0_3, hv0_3, hx0_3, hr0_3, hm0_3⟩ := openLls _ (fun xs : List Int => (∀ x ∈ xs, I64 x) ∧ xs.length ≤ maxLen) Tryd.underlying22 (by kernel_rfl) (fun _ _ _ hq => by obtain ⟨a, c, xs, h1, h2, h3, h4⟩ := openInts Tryd.underlying24 (by kernel_rfl) Tryd.underlying3 hq; exact ⟨a, c, xs, h1, h2, h3, h4⟩) g0_3
  subst hv0_3
  obtain ⟨y0_4, g0_4⟩ : ∃ y, DataW.trod enc Tryd.prog W 0 (fun _ => true) true n0 22 [f0_4] = some y := field1 hg0 4 rfl (by rw [hyl0]; decide) (by kernel_rfl) rfl
  obtain ⟨a0_4, c0_4, s0_4, hv0_4, hx0_4, hr0_4, hm0_4⟩ := openLls _ (fun xs : List Int => (∀ x ∈ xs, I64 x) ∧ xs.length ≤ maxLen) Tryd.underlying22 (by kernel_rfl) (fun _ _ _ hq => by obtain ⟨a, c, xs, h1, h2, h3, h4⟩ := openInts Tryd.underlying24 (by kernel_rfl) Tryd.underlying3 hq; exact ⟨a, c, xs, h1, h2, h3, h4⟩) g0_4
  subst hv0_4
  obtain ⟨y0_5, g0_5⟩ : ∃ y, DataW.trod enc Tryd.prog W 0 (fun _ => true) true n0 23 [f0_5] = some y := field1 hg0 5 rfl (by rw [hyl0]; decide) (by kernel_rfl) rfl
  obtain ⟨a0_5, c0_5, s0_5, hv0_5, hx0_5, hr0_5, hm0_5⟩ := openClauses Tryd.underlying23 Tryd.underlying53 (by kernel_rfl) (by kernel_rfl) Tryd.underlying3 Tryd.underlying24 Tryd.underlying3 (by kernel_rfl) Tryd.underlying3 g0_5
  subst hv0_5
  obtain ⟨y0_6, g0_6⟩ : ∃ y, DataW.trod enc Tryd.prog W 0 (fun _ => true) true n0 24 [f0_6] = some y := field1 hg0 6 rfl (by rw [hyl0]; decide) (by kernel_rfl) rfl
  obtain ⟨a0_6, c0_6, s0_6, hv0_6, hx0_6, hr0_6, hm0_6⟩ := openInts Tryd.underlying24 (by kernel_rfl) Tryd.underlying3 g0_6
  subst hv0_6
  clear hA0 hval0
  unfold maxLen at *
  refine (law_MachineText ⟨a0_3, c0_3, a0_4, c0_4, a0_5, c0_5, a0_6, c0_6⟩ ⟨m0_0, m0_1, m0_2, s0_3, s0_4, s0_5, s0_6⟩ W ⟨hx0_3, hx0_4, hx0_5, hx0_6⟩ ⟨by simp only []; omega, fun x hx => by have := (hr0_3 x hx).2; omega, by simp only []; omega, fun x hx => by have := (hr0_4 x hx).2; omega, by simp only []; omega, fun x hx => by have := (hr0_5 x hx).2; omega, by simp only []; omega⟩).2.mono fun e W' hee => ?_
  obtain ⟨v, he, hv, hE⟩ := hee
  subst he
  subst hv
  have bel := hE.below
  exact ⟨_, rfl, _, _, _, [], _, [], hW', trodAll_mk1 (shut_bool Tryd.underlying4 _), (trodAll_cons_mk (Below.trod laidOut_fnExactMachineText (by kernel_rfl) (of_decide_eq_true (by kernel_rfl)) k0 bel lt0) trodAll_mk0), rfl, bel.frame _, fun h => by cases h⟩

theorem over_fnExactMachineText : Rows.fnExactMachineTextRow.holds Tryd.pinned (OpenSpec.ofChange Rows.fnExactMachineTextSpec) :=
  OpenClaim.holds_of_wide 3 Tryd.f3 rfl rfl rfl rfl rfl rfl rfl ⟨rfl, rfl, rfl, rfl, rfl⟩ rfl rfl rfl rfl rfl (by kernel_rfl) Tryd.func3 (by kernel_rfl)
    (of_decide_eq_true (by kernel_rfl)) (by unfold Func.isWrapper; rw [if_neg (of_decide_eq_false (by kernel_rfl))]; exact ⟨rfl, rfl⟩)
    (fun os started H enc _ => lifted_fnExactMachineText os started H enc)

/-- The given statement: the card. -/
theorem fnExactMachineText_holds : Rows.FnExactMachineTextCardSaid :=
  Claim7.holds_tied_plain_at .later [] [.data, .data, .data] true (true, "f0b8b3b83d5e3cf882323465383852ceb64c31b22d007713bef84695e7317761") false
    over_fnExactMachineText (fun _ h => by cases h) (by kernel_rfl) (fun _ h => by cases h) fnExactMachineText_row_tie rfl ⟨rfl, rfl⟩ (by kernel_rfl) rfl
    (fun f fn hf hfn => by
      obtain rfl : f = 3 := Option.some.inj ((show Tryd.prog.funcNamed _ = some 3 by kernel_rfl).symm.trans hf) |>.symm
      obtain rfl : fn = Tryd.f3 := (Option.some.inj (Tryd.func3.symm.trans hfn)).symm
      exact ⟨by kernel_rfl, fun j t ht => by
        rw [Tryd.params3] at ht
        have hm : t ∈ [26] := by simpa using Array.mem_of_getElem? ht
        have hall : ([26].all fun u => !Tryd.prog.wantsStandIn u) = true := by kernel_rfl
        exact (show Tryd.prog.wantsStandIn t = false by simpa using List.all_eq_true.1 hall t hm)⟩)
    (by kernel_rfl)
#print axioms fnExactMachineText_holds

end Go.Proofs.YtgelhpgjmcnajaaDoor
