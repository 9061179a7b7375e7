/- Contracts of StatesAfter and HaltingRound, of the program and of the reference; the walks of FnExactStatesAfter and FnExactHaltingRound. -/
import Derived.Test.YtebjcbgencenbaaGreatStep2
namespace Go.Proofs.YtebjcbgencenbaaGreat
open Go Go.RowKit

/-- The states after k rounds. -/
noncomputable def stN (m : Mach) (A : Net) : Nat → List Int
  | 0 => stS m A
  | k + 1 => stepS m A (stN m A k)
theorem stN_len (m : Mach) (A : Net) (k : Nat) : (stN m A k).length = A.ends.length := by cases k with | zero => exact stS_len m A | succ k => exact stepS_len m A _
theorem stN_le {m : Mach} {A : Net} {k : Nat} (h : A.ends.length ≤ 1048576) : (stN m A k).length ≤ 1048576 := by rw [stN_len]; exact h
theorem stN_ok {m : Mach} {A : Net} (h : Fits m A) (k : Nat) : SOk m A (stN m A k) := by
  induction k with
  | zero => exact stS_ok h
  | succ k ih => exact stepS_ok h ih
theorem stN_fix {m : Mach} {A : Net} {i : Nat} (h : stepS m A (stN m A i) = stN m A i) {k : Nat} (hk : i ≤ k) : stN m A i = stN m A k := by
  induction k with
  | zero => rw [show i = 0 by omega]
  | succ k ih =>
    rcases Nat.lt_or_ge k i with h1 | h1
    · rw [show i = k + 1 by omega]
    · have e := ih h1
      show _ = stepS m A (stN m A k)
      rw [← e, h]

set_option maxRecDepth 100000 in
theorem l1Same_spec {lo hi lo2 hi2 : Nat} (a a2 : Option Addr) (c c2 : Nat) (xs ys : List Int) (w : World) (hx : Ints lo hi w a c xs) (hy : Ints lo2 hi2 w a2 c2 ys) (hm : xs.length ≤ 1048576) :
    Fn Tryz.prog 44 #[.slice a xs.length c, .slice a2 ys.length c2] w (fun v w' => ∃ b, v = VB b ∧ (b = true ↔ xs = ys) ∧ Ext w w') := by
  have hE := Ext.refl w
  refine Fn_of Tryz.func44 rfl rfl (by kernel_rfl) rfl ?_
  refine W_seq ?_
  refine W_region ?_
  refine WL_q rfl (ev_assign rfl) ?_
  refine WL_nil ?_
  refine thenE_n ?_
  refine W_seq ?_
  refine W_seq ?_
  refine W_region ?_
  refine WL_q rfl (ev_move rfl) ?_
  refine WL_q rfl (ev_len Tryz.underlying24 rfl) ?_
  refine WL_q rfl (ev_move rfl) ?_
  refine WL_q rfl (ev_len Tryz.underlying24 rfl) ?_
  refine WL_q rfl (ev_neq rfl rfl) ?_
  refine WL_nil ?_
  refine thenE_n ?_
  refine W_cond rfl (fun hg10 => ?_) (fun hg10 => ?_)
  · have hp10 := of_decide_eq_true hg10
    refine W_seq ?_
    refine W_region ?_
    refine WL_q rfl (ev_assign rfl) ?_
    refine WL_nil ?_
    refine thenE_n ?_
    refine W_ret ?_
    refine thenE_r ?_
    refine ret1 rfl rfl ?_
    first | (exact ⟨_, rfl, ffI (fun h => hp10 (congrArg (fun l => (List.length l : Int)) h)), hE⟩) | (refine ⟨_, rfl, ffI (fun h => ?_), hE⟩; subst h; exact hp24 rfl) | (exact ⟨_, rfl, ttI (List.ext_getElem (by omega) fun j h1 h2 => hJ j (by omega) h1 h2), hE⟩)
  · have hp10 := of_decide_eq_false hg10
    refine W_skip ?_
    refine thenE_n ?_
    refine W_seq ?_
    refine W_seq ?_
    refine W_region ?_
    refine WL_q rfl (ev_move rfl) ?_
    refine WL_q rfl (ev_len Tryz.underlying24 rfl) ?_
    refine WL_q rfl (ev_move rfl) ?_
    refine WL_nil ?_
    refine thenE_n ?_
    refine W_block ?_
    refine W_loopC (G := Nat) [(0, _), (1, _), (12, _)] ((Subs.c rfl (Subs.c rfl (Subs.c rfl Subs.n)))) (fun i => [(13, VI (i : Int))]) (fun i w' => Ext w w' ∧ i ≤ xs.length ∧ ∀ j (_h : j < i) (h1 : j < xs.length) (h2 : j < ys.length), xs[j] = ys[j]) (fun i => xs.length - i) 0 ((Subs.c (lkI rfl (by omega)) Subs.n)) (⟨Ext.refl _, ⟨by omega, fun j h => by omega⟩⟩) ?_
    rintro i wL0 ⟨hRL0, hi', hJ⟩
    have hzL0 := hRL0.size
    replace hE := hE.trans hRL0
    replace hx := hx.ext hRL0
    replace hy := hy.ext hRL0
    refine W_seq ?_
    refine W_region ?_
    refine WL_q rfl (ev_lss rfl rfl) ?_
    refine WL_nil ?_
    refine thenE_n ?_
    refine W_seq ?_
    refine W_cond rfl (fun hg14 => ?_) (fun hg14 => ?_)
    · have hp14 := of_decide_eq_true hg14
      refine W_skip ?_
      refine thenE_n ?_
      refine W_seq ?_
      refine W_block ?_
      refine W_seq ?_
      refine W_region ?_
      refine WL_q rfl (ev_move rfl) ?_
      refine WL_q rfl (ev_assign rfl) ?_
      refine WL_nil ?_
      refine thenE_n ?_
      refine W_seq ?_
      refine W_drawE [(0, true), (1, true), (2, true), (3, true), (4, true), (5, true), (6, true), (7, true), (8, true)] mixed (by kernel_rfl) rfl (by kernel_rfl) ?_
      intro wd6 hEd6 hzd6
      replace hE := hE.trans hEd6
      replace hRL0 := hRL0.trans hEd6
      replace hx := hx.ext hEd6
      replace hy := hy.ext hEd6
      have hDd6 := Ext.refl wd6
      refine PW_q rfl rfl (fun wq hq => ev_move rfl) ?_
      refine PW_q rfl rfl (fun wq hq => ev_move rfl) ?_
      refine PW_q rfl rfl (fun wq hq => ev_indexAddr Tryz.underlying24 sz3 rfl rfl (hx.isSome (by omega)) (by omega) (by omega)) ?_
      have hc19 := hx.cell (i := i) (by omega)
      refine PW_q rfl rfl (fun wq hq => ev_load one3 rfl (hq.cell (hc19))) ?_
      refine PW_q rfl rfl (fun wq hq => ev_move rfl) ?_
      refine PW_q rfl rfl (fun wq hq => ev_move rfl) ?_
      refine PW_q rfl rfl (fun wq hq => ev_indexAddr Tryz.underlying24 sz3 rfl rfl (hy.isSome (by omega)) (by omega) (by omega)) ?_
      have hc23 := hy.cell (i := i) (by omega)
      refine PW_q rfl rfl (fun wq hq => ev_load one3 rfl (hq.cell (hc23))) ?_
      refine PW_q rfl rfl (fun wq hq => ev_neq rfl rfl) ?_
      refine PW_nil ?_
      refine thenE_n ?_
      refine W_cond rfl (fun hg24 => ?_) (fun hg24 => ?_)
      · have hp24 := of_decide_eq_true hg24
        refine W_seq ?_
        refine W_region ?_
        refine WL_q rfl (ev_assign rfl) ?_
        refine WL_nil ?_
        refine thenE_n ?_
        refine W_ret ?_
        refine blockE_r ?_
        refine thenE_r ?_
        refine thenE_r ?_
        refine blockE_r ?_
        refine thenE_r ?_
        refine ret1 rfl rfl ?_
        first | (exact ⟨_, rfl, ffI (fun h => hp10 (congrArg (fun l => (List.length l : Int)) h)), hE⟩) | (refine ⟨_, rfl, ffI (fun h => ?_), hE⟩; subst h; exact hp24 rfl) | (exact ⟨_, rfl, ttI (List.ext_getElem (by omega) fun j h1 h2 => hJ j (by omega) h1 h2), hE⟩)
      · have hp24 := of_decide_eq_false hg24
        refine W_skip ?_
        refine blockE_n ?_
        refine thenE_n ?_
        refine W_region ?_
        refine WL_q rfl (ev_add rfl rfl (by omega)) ?_
        refine WL_q rfl (ev_move rfl) ?_
        refine WL_nil ?_
        refine thenE_n ?_
        exact ⟨i + 1, (Subs.c rfl (Subs.c rfl (Subs.c rfl Subs.n))), (Subs.c (lkI rfl (by omega)) Subs.n), ⟨hRL0, ⟨by omega, fun j h1 h2 h3 => by
    by_cases hj : j = i
    · subst hj; omega
    · exact hJ j (by omega) h2 h3⟩⟩, by first | omega | (dsimp only; omega)⟩
    · have hp14 := of_decide_eq_false hg14
      refine W_exit ?_
      refine thenE_x ?_
      refine thenE_x ?_
      refine blockE_hit ?_
      refine thenE_n ?_
      refine W_seq ?_
      refine W_region ?_
      refine WL_q rfl (ev_assign rfl) ?_
      refine WL_nil ?_
      refine thenE_n ?_
      refine W_ret ?_
      refine ret1 rfl rfl ?_
      first | (exact ⟨_, rfl, ffI (fun h => hp10 (congrArg (fun l => (List.length l : Int)) h)), hE⟩) | (refine ⟨_, rfl, ffI (fun h => ?_), hE⟩; subst h; exact hp24 rfl) | (exact ⟨_, rfl, ttI (List.ext_getElem (by omega) fun j h1 h2 => hJ j (by omega) h1 h2), hE⟩)

set_option maxRecDepth 100000 in
theorem maLong_spec (v : Int) (w : World) :
    Fn Tryz.prog 22 #[VI v] w (fun r w' => r = VB (inR v 0 2000) ∧ Ext w w') := by
  have hE := Ext.refl w
  refine Fn_of Tryz.func22 rfl rfl (by kernel_rfl) rfl ?_
  refine W_seq ?_
  refine W_region ?_
  refine WL_q rfl (ev_assign rfl) ?_
  refine WL_nil ?_
  refine thenE_n ?_
  refine W_seq ?_
  refine W_region ?_
  refine WL_q rfl (ev_move rfl) ?_
  refine WL_m rfl (ev_call rfl (l1In_spec _ _ _ _)) ?_
  rintro _ _ ⟨rfl, rfl⟩
  refine WL_q rfl (ev_assign rfl) ?_
  refine WL_nil ?_
  refine thenE_n ?_
  refine W_ret ?_
  refine ret1 rfl rfl ?_
  exact ⟨rfl, hE⟩

end Go.Proofs.YtebjcbgencenbaaGreat
