/- Contracts of ClauseFor, of the program and of the reference, and of what they call; the walk of FnExactClauseFor. -/
import Derived.Test.YtjhgpcbbmhdojaaMachine
namespace Go.Proofs.Ytjhgpcbbmhdojaa
open Go Go.RowKit

/-- A clause fits a state and an inbox. -/
def CFit (c : Cl) (s : Int) (x : List Int) : Prop := c.1 = s ∧ c.2.1.length = x.length ∧ ∀ j (h1 : j < c.2.1.length) (h2 : j < x.length), c.2.1[j] = -1 ∨ c.2.1[j] = x[j]
open Classical in
noncomputable def cfit (s : Int) (x : List Int) (c : Cl) : Bool := decide (CFit c s x)
theorem cfit_true {c : Cl} {s : Int} {x : List Int} : cfit s x c = true ↔ CFit c s x := by simp [cfit]
theorem cfit_yes {c : Cl} {s : Int} {x : List Int} (h : CFit c s x) : true = cfit s x c := (cfit_true.2 h).symm
theorem cfit_no {c : Cl} {s : Int} {x : List Int} (h : ¬ CFit c s x) : false = cfit s x c := by
  cases hb : cfit s x c
  · rfl
  · exact absurd (cfit_true.1 hb) h
/-- What ClauseFor returns. -/
def CFOk (m : Mach) (s : Int) (x : List Int) : Prop := MOk m ∧ (0 ≤ s ∧ s ≤ m.states - 1) ∧ (x.length : Int) ≤ m.deg ∧ allR x 0 (m.msgs - 1) = true
def CFR (m : Mach) (s : Int) (x : List Int) (r : Int) (b : Bool) : Prop :=
  (CFOk m s x ∧ 0 ≤ idxF (cfit s x) m.clauses ∧ r = idxF (cfit s x) m.clauses ∧ b = true) ∨ (¬ (CFOk m s x ∧ 0 ≤ idxF (cfit s x) m.clauses) ∧ r = 0 ∧ b = false)
theorem CFR.det {m : Mach} {s : Int} {x : List Int} {r r' : Int} {b b' : Bool} (h : CFR m s x r b) (k : CFR m s x r' b') : r = r' ∧ b = b' := by
  rcases h with ⟨h1, h2, h3, h4⟩ | ⟨h1, h3, h4⟩ <;> rcases k with ⟨k1, k2, k3, k4⟩ | ⟨k1, k3, k4⟩
  · exact ⟨by omega, by rw [h4, k4]⟩
  · exact absurd ⟨h1, h2⟩ k1
  · exact absurd ⟨k1, k2⟩ h1
  · exact ⟨by omega, by rw [h4, k4]⟩

set_option maxRecDepth 100000 in
theorem clauseFor_1 {lo hi lo2 hi2 : Nat} (a a2 : Option Addr) (c c2 : Nat) (cl : Cl) (s : Int) (x : List Int) (b1 b2 : Nat) (T1 T2 : TypeId) (w : World) (hc : Ints lo hi w a c cl.2.1) (hx : Ints lo2 hi2 w a2 c2 x) (h1 : Blk w b1 T1 [VI s]) (h2 : Blk w b2 T2 [.slice a2 x.length c2]) (hm : (cl.2.1.length : Int) < 9223372036854775807) :
    Fn Try.prog 114 #[.agg #[VI cl.1, .slice a cl.2.1.length c, VI cl.2.2], ptr b1 0, ptr b2 0] w (fun v w' => v = VB (cfit s x cl) ∧ Ext w w') := by
  have hE := Ext.refl w
  refine Fn_of Try.func114 rfl rfl (by kernel_rfl) rfl ?_
  refine W_seq ?_
  refine W_region ?_
  refine WL_m rfl (ev_box rfl) ?_
  rintro _ w3 ⟨rfl, hN3⟩
  have hz3 := hN3.size
  replace hE := hE.trans hN3.ext
  replace hc := hc.ext hN3.ext
  replace hx := hx.ext hN3.ext
  replace h1 := h1.ext hN3.ext
  replace h2 := h2.ext hN3.ext
  have hB3 : Blk w3 _ _ [_, _, _] := hN3.blk
  refine WL_q rfl (ev_assign rfl) ?_
  refine WL_nil ?_
  refine thenE_n ?_
  refine W_seq ?_
  refine W_seq ?_
  refine W_region ?_
  refine WL_q rfl (ev_fieldAddr fo84_0 rfl) ?_
  refine WL_q rfl (ev_load one3 rfl (hB3.cell rfl)) ?_
  refine WL_q rfl (ev_load one3 rfl (h1.cell rfl)) ?_
  refine WL_q rfl (ev_neq rfl rfl) ?_
  refine WL_q rfl (ev_move rfl) ?_
  refine WL_splitv (t := 11) rfl (fun hg10 => ?_) (fun hg10 => ?_)
  · have hp10 := of_decide_eq_true hg10
    refine WL_no rfl rfl hg10 rfl ?_
    refine WL_no rfl rfl hg10 rfl ?_
    refine WL_no rfl rfl hg10 rfl ?_
    refine WL_no rfl rfl hg10 rfl ?_
    refine WL_no rfl rfl hg10 rfl ?_
    refine WL_no rfl rfl hg10 rfl ?_
    refine WL_q rfl (ev_pick_t rfl hg10 rfl) ?_
    refine WL_nil ?_
    refine thenE_n ?_
    refine W_cond_t rfl ?_
    refine W_seq ?_
    refine W_region ?_
    refine WL_q rfl (ev_assign rfl) ?_
    refine WL_nil ?_
    refine thenE_n ?_
    refine W_ret ?_
    refine thenE_r ?_
    refine ret1 rfl rfl ?_
    first | (exact ⟨vb (cfit_no fun h => hp10 h.1), hE⟩) | (exact ⟨vb (cfit_no fun h => hp17 (congrArg (Nat.cast : Nat → Int) h.2.1)), hE⟩) | (refine ⟨vb (cfit_no fun h => ?_), hE⟩; have := h.2.2 i (by omega) (by omega); omega) | (exact ⟨vb (cfit_yes ⟨by omega, by omega, fun j h1 h2 => hJ j (by omega) h1 h2⟩), hE⟩)
  · have hp10 := of_decide_eq_false hg10
    refine WL_qg rfl rfl hg10 rfl (ev_fieldAddr fo84_1 rfl) ?_
    refine WL_qg rfl rfl hg10 rfl (ev_load one33 rfl (hB3.cell rfl)) ?_
    refine WL_qg rfl rfl hg10 rfl (ev_len Try.underlying33 rfl) ?_
    refine WL_qg rfl rfl hg10 rfl (ev_load one33 rfl (h2.cell rfl)) ?_
    refine WL_qg rfl rfl hg10 rfl (ev_len Try.underlying33 rfl) ?_
    refine WL_qg rfl rfl hg10 rfl (ev_neq rfl rfl) ?_
    refine WL_q rfl (ev_pick_f rfl hg10 rfl) ?_
    refine WL_nil ?_
    refine thenE_n ?_
    refine W_cond rfl (fun hg17 => ?_) (fun hg17 => ?_)
    · have hp17 := of_decide_eq_true hg17
      refine W_seq ?_
      refine W_region ?_
      refine WL_q rfl (ev_assign rfl) ?_
      refine WL_nil ?_
      refine thenE_n ?_
      refine W_ret ?_
      refine thenE_r ?_
      refine ret1 rfl rfl ?_
      first | (exact ⟨vb (cfit_no fun h => hp10 h.1), hE⟩) | (exact ⟨vb (cfit_no fun h => hp17 (congrArg (Nat.cast : Nat → Int) h.2.1)), hE⟩) | (refine ⟨vb (cfit_no fun h => ?_), hE⟩; have := h.2.2 i (by omega) (by omega); omega) | (exact ⟨vb (cfit_yes ⟨by omega, by omega, fun j h1 h2 => hJ j (by omega) h1 h2⟩), hE⟩)
    · have hp17 := of_decide_eq_false hg17
      refine W_skip ?_
      refine thenE_n ?_
      refine W_seq ?_
      refine W_seq ?_
      refine W_region ?_
      refine WL_q rfl (ev_fieldAddr fo84_1 rfl) ?_
      refine WL_q rfl (ev_load one33 rfl (hB3.cell rfl)) ?_
      refine WL_q rfl (ev_len Try.underlying33 rfl) ?_
      refine WL_q rfl (ev_move rfl) ?_
      refine WL_nil ?_
      refine thenE_n ?_
      refine W_block ?_
      refine W_loopC (G := Nat) [(2, _), (20, _), (21, _)] ((Subs.c rfl (Subs.c rfl (Subs.c rfl Subs.n)))) (fun i => [(22, VI (i : Int))]) (fun i w' => Ext w3 w' ∧ i ≤ cl.2.1.length ∧ ∀ j (_h : j < i) (h1 : j < cl.2.1.length) (h2 : j < x.length), cl.2.1[j] = -1 ∨ cl.2.1[j] = x[j]) (fun i => cl.2.1.length - i) 0 ((Subs.c (lkI rfl (by omega)) Subs.n)) (⟨Ext.refl _, ⟨by omega, fun j h => by omega⟩⟩) ?_
      rintro i wL0 ⟨hRL0, hi, hJ⟩
      have hzL0 := hRL0.size
      replace hE := hE.trans hRL0
      replace hc := hc.ext hRL0
      replace hx := hx.ext hRL0
      replace h1 := h1.ext hRL0
      replace h2 := h2.ext hRL0
      replace hB3 := hB3.ext hRL0
      refine W_seq ?_
      refine W_region ?_
      refine WL_q rfl (ev_lss rfl rfl) ?_
      refine WL_nil ?_
      refine thenE_n ?_
      refine W_seq ?_
      refine W_cond rfl (fun hg23 => ?_) (fun hg23 => ?_)
      · have hp23 := of_decide_eq_true hg23
        refine W_skip ?_
        refine thenE_n ?_
        refine W_seq ?_
        refine W_block ?_
        refine W_seq ?_
        refine W_region ?_
        refine WL_q rfl (ev_move rfl) ?_
        refine WL_q rfl (ev_indexAddr Try.underlying33 sz3 rfl rfl (hc.isSome (by omega)) (by omega) (by omega)) ?_
        refine WL_q rfl (ev_load one3 rfl (hc.cell (i := i) (by omega))) ?_
        refine WL_q rfl (ev_assign rfl) ?_
        refine WL_q rfl (ev_assign rfl) ?_
        refine WL_nil ?_
        refine thenE_n ?_
        refine W_seq ?_
        refine W_region ?_
        refine WL_q rfl (ev_move rfl) ?_
        refine WL_q rfl (ev_neq rfl rfl) ?_
        refine WL_q rfl (ev_move rfl) ?_
        refine WL_splitv (t := 29) rfl (fun hg28 => ?_) (fun hg28 => ?_)
        · have hp28 := of_decide_eq_true hg28
          refine WL_qg rfl rfl hg28 rfl (ev_move rfl) ?_
          refine WL_qg rfl rfl hg28 rfl (ev_load one33 rfl (h2.cell rfl)) ?_
          refine WL_qg rfl rfl hg28 rfl (ev_move rfl) ?_
          refine WL_qg rfl rfl hg28 rfl (ev_indexAddr Try.underlying33 sz3 rfl rfl (hx.isSome (by omega)) (by omega) (by omega)) ?_
          refine WL_qg rfl rfl hg28 rfl (ev_load one3 rfl (hx.cell (i := i) (by omega))) ?_
          refine WL_qg rfl rfl hg28 rfl (ev_neq rfl rfl) ?_
          refine WL_q rfl (ev_pick_t rfl hg28 rfl) ?_
          refine WL_nil ?_
          refine thenE_n ?_
          refine W_cond rfl (fun hg35 => ?_) (fun hg35 => ?_)
          · have hp35 := of_decide_eq_true hg35
            refine W_seq ?_
            refine W_region ?_
            refine WL_q rfl (ev_assign rfl) ?_
            refine WL_nil ?_
            refine thenE_n ?_
            refine W_ret ?_
            refine blockE_r ?_
            refine thenE_r ?_
            refine thenE_r ?_
            refine blockE_r ?_
            refine thenE_r ?_
            refine ret1 rfl rfl ?_
            first | (exact ⟨vb (cfit_no fun h => hp10 h.1), hE⟩) | (exact ⟨vb (cfit_no fun h => hp17 (congrArg (Nat.cast : Nat → Int) h.2.1)), hE⟩) | (refine ⟨vb (cfit_no fun h => ?_), hE⟩; have := h.2.2 i (by omega) (by omega); omega) | (exact ⟨vb (cfit_yes ⟨by omega, by omega, fun j h1 h2 => hJ j (by omega) h1 h2⟩), hE⟩)
          · have hp35 := of_decide_eq_false hg35
            refine W_skip ?_
            refine blockE_n ?_
            refine thenE_n ?_
            refine W_region ?_
            refine WL_q rfl (ev_add rfl rfl (by omega)) ?_
            refine WL_q rfl (ev_move rfl) ?_
            refine WL_nil ?_
            refine thenE_n ?_
            exact ⟨i + 1, (Subs.c rfl (Subs.c rfl (Subs.c rfl Subs.n))), (Subs.c (lkI rfl (by omega)) Subs.n), ⟨hRL0, ⟨by omega, fun j h1 h2 h3 => by
    by_cases hj : j = i
    · subst hj; omega
    · exact hJ j (by omega) h2 h3⟩⟩, by first | omega | (dsimp only; omega)⟩
        · have hp28 := of_decide_eq_false hg28
          refine WL_no rfl rfl hg28 rfl ?_
          refine WL_no rfl rfl hg28 rfl ?_
          refine WL_no rfl rfl hg28 rfl ?_
          refine WL_no rfl rfl hg28 rfl ?_
          refine WL_no rfl rfl hg28 rfl ?_
          refine WL_no rfl rfl hg28 rfl ?_
          refine WL_q rfl (ev_pick_f rfl hg28 rfl) ?_
          refine WL_nil ?_
          refine thenE_n ?_
          refine W_cond_f rfl ?_
          refine W_skip ?_
          refine blockE_n ?_
          refine thenE_n ?_
          refine W_region ?_
          refine WL_q rfl (ev_add rfl rfl (by omega)) ?_
          refine WL_q rfl (ev_move rfl) ?_
          refine WL_nil ?_
          refine thenE_n ?_
          exact ⟨i + 1, (Subs.c rfl (Subs.c rfl (Subs.c rfl Subs.n))), (Subs.c (lkI rfl (by omega)) Subs.n), ⟨hRL0, ⟨by omega, fun j h1 h2 h3 => by
    by_cases hj : j = i
    · subst hj; omega
    · exact hJ j (by omega) h2 h3⟩⟩, by first | omega | (dsimp only; omega)⟩
      · have hp23 := of_decide_eq_false hg23
        refine W_exit ?_
        refine thenE_x ?_
        refine thenE_x ?_
        refine blockE_hit ?_
        refine thenE_n ?_
        refine W_seq ?_
        refine W_region ?_
        refine WL_q rfl (ev_assign rfl) ?_
        refine WL_nil ?_
        refine thenE_n ?_
        refine W_ret ?_
        refine ret1 rfl rfl ?_
        first | (exact ⟨vb (cfit_no fun h => hp10 h.1), hE⟩) | (exact ⟨vb (cfit_no fun h => hp17 (congrArg (Nat.cast : Nat → Int) h.2.1)), hE⟩) | (refine ⟨vb (cfit_no fun h => ?_), hE⟩; have := h.2.2 i (by omega) (by omega); omega) | (exact ⟨vb (cfit_yes ⟨by omega, by omega, fun j h1 h2 => hJ j (by omega) h1 h2⟩), hE⟩)

set_option maxRecDepth 100000 in
theorem maFits_spec {lo hi lo2 hi2 : Nat} (a a2 : Option Addr) (c c2 : Nat) (cl : Cl) (s : Int) (x : List Int) (w : World) (hc : Ints lo hi w a c cl.2.1) (hx : Ints lo2 hi2 w a2 c2 x) (hm : (cl.2.1.length : Int) < 9223372036854775807) (hp : ∀ y ∈ cl.2.1, -1 ≤ y) :
    Fn Try.prog 112 #[.agg #[VI cl.1, .slice a cl.2.1.length c, VI cl.2.2], VI s, .slice a2 x.length c2] w (fun v w' => v = VB (cfit s x cl) ∧ Ext w w') := by
  have hE := Ext.refl w
  refine Fn_of Try.func112 rfl rfl (by kernel_rfl) rfl ?_
  refine W_seq ?_
  refine W_region ?_
  refine WL_m rfl (ev_box rfl) ?_
  rintro _ w3 ⟨rfl, hN3⟩
  have hz3 := hN3.size
  replace hE := hE.trans hN3.ext
  replace hc := hc.ext hN3.ext
  replace hx := hx.ext hN3.ext
  have hB3 : Blk w3 _ _ [_, _, _] := hN3.blk
  refine WL_q rfl (ev_assign rfl) ?_
  refine WL_nil ?_
  refine thenE_n ?_
  refine W_seq ?_
  refine W_seq ?_
  refine W_region ?_
  refine WL_q rfl (ev_fieldAddr fo84_0 rfl) ?_
  refine WL_q rfl (ev_load one3 rfl (hB3.cell rfl)) ?_
  refine WL_q rfl (ev_move rfl) ?_
  refine WL_q rfl (ev_neq rfl rfl) ?_
  refine WL_q rfl (ev_move rfl) ?_
  refine WL_splitv (t := 13) rfl (fun hg12 => ?_) (fun hg12 => ?_)
  · have hp12 := of_decide_eq_true hg12
    refine WL_no rfl rfl hg12 rfl ?_
    refine WL_no rfl rfl hg12 rfl ?_
    refine WL_no rfl rfl hg12 rfl ?_
    refine WL_no rfl rfl hg12 rfl ?_
    refine WL_no rfl rfl hg12 rfl ?_
    refine WL_no rfl rfl hg12 rfl ?_
    refine WL_q rfl (ev_pick_t rfl hg12 rfl) ?_
    refine WL_nil ?_
    refine thenE_n ?_
    refine W_cond_t rfl ?_
    refine W_seq ?_
    refine W_region ?_
    refine WL_q rfl (ev_assign rfl) ?_
    refine WL_nil ?_
    refine thenE_n ?_
    refine W_ret ?_
    refine thenE_r ?_
    refine ret1 rfl rfl ?_
    first | (exact ⟨vb (cfit_no fun h => hp12 h.1), hE⟩) | (exact ⟨vb (cfit_no fun h => hp19 (congrArg (Nat.cast : Nat → Int) h.2.1)), hE⟩) | (refine ⟨vb (cfit_no fun h => ?_), hE⟩; have := h.2.2 i (by omega) (by omega); omega) | (exact ⟨vb (cfit_yes ⟨by omega, by omega, fun j h1 h2 => hJ j (by omega) h1 h2⟩), hE⟩)
  · have hp12 := of_decide_eq_false hg12
    refine WL_qg rfl rfl hg12 rfl (ev_fieldAddr fo84_1 rfl) ?_
    refine WL_qg rfl rfl hg12 rfl (ev_load one33 rfl (hB3.cell rfl)) ?_
    refine WL_qg rfl rfl hg12 rfl (ev_len Try.underlying33 rfl) ?_
    refine WL_qg rfl rfl hg12 rfl (ev_move rfl) ?_
    refine WL_qg rfl rfl hg12 rfl (ev_len Try.underlying33 rfl) ?_
    refine WL_qg rfl rfl hg12 rfl (ev_neq rfl rfl) ?_
    refine WL_q rfl (ev_pick_f rfl hg12 rfl) ?_
    refine WL_nil ?_
    refine thenE_n ?_
    refine W_cond rfl (fun hg19 => ?_) (fun hg19 => ?_)
    · have hp19 := of_decide_eq_true hg19
      refine W_seq ?_
      refine W_region ?_
      refine WL_q rfl (ev_assign rfl) ?_
      refine WL_nil ?_
      refine thenE_n ?_
      refine W_ret ?_
      refine thenE_r ?_
      refine ret1 rfl rfl ?_
      first | (exact ⟨vb (cfit_no fun h => hp12 h.1), hE⟩) | (exact ⟨vb (cfit_no fun h => hp19 (congrArg (Nat.cast : Nat → Int) h.2.1)), hE⟩) | (refine ⟨vb (cfit_no fun h => ?_), hE⟩; have := h.2.2 i (by omega) (by omega); omega) | (exact ⟨vb (cfit_yes ⟨by omega, by omega, fun j h1 h2 => hJ j (by omega) h1 h2⟩), hE⟩)
    · have hp19 := of_decide_eq_false hg19
      refine W_skip ?_
      refine thenE_n ?_
      refine W_seq ?_
      refine W_seq ?_
      refine W_region ?_
      refine WL_q rfl (ev_fieldAddr fo84_1 rfl) ?_
      refine WL_q rfl (ev_load one33 rfl (hB3.cell rfl)) ?_
      refine WL_q rfl (ev_len Try.underlying33 rfl) ?_
      refine WL_q rfl (ev_move rfl) ?_
      refine WL_nil ?_
      refine thenE_n ?_
      refine W_block ?_
      refine W_loopC (G := Nat) [(2, _), (22, _), (23, _)] ((Subs.c rfl (Subs.c rfl (Subs.c rfl Subs.n)))) (fun i => [(24, VI (i : Int))]) (fun i w' => Ext w3 w' ∧ i ≤ cl.2.1.length ∧ ∀ j (_h : j < i) (h1 : j < cl.2.1.length) (h2 : j < x.length), cl.2.1[j] = -1 ∨ cl.2.1[j] = x[j]) (fun i => cl.2.1.length - i) 0 ((Subs.c (lkI rfl (by omega)) Subs.n)) (⟨Ext.refl _, ⟨by omega, fun j h => by omega⟩⟩) ?_
      rintro i wL0 ⟨hRL0, hi, hJ⟩
      have hzL0 := hRL0.size
      replace hE := hE.trans hRL0
      replace hc := hc.ext hRL0
      replace hx := hx.ext hRL0
      replace hB3 := hB3.ext hRL0
      refine W_seq ?_
      refine W_region ?_
      refine WL_q rfl (ev_lss rfl rfl) ?_
      refine WL_nil ?_
      refine thenE_n ?_
      refine W_seq ?_
      refine W_cond rfl (fun hg25 => ?_) (fun hg25 => ?_)
      · have hp25 := of_decide_eq_true hg25
        refine W_skip ?_
        refine thenE_n ?_
        refine W_seq ?_
        refine W_block ?_
        refine W_seq ?_
        refine W_region ?_
        refine WL_q rfl (ev_move rfl) ?_
        have hpi := hp _ (List.getElem_mem (show i < cl.2.1.length by omega))
        refine WL_q rfl (ev_indexAddr Try.underlying33 sz3 rfl rfl (hc.isSome (by omega)) (by omega) (by omega)) ?_
        refine WL_q rfl (ev_load one3 rfl (hc.cell (i := i) (by omega))) ?_
        refine WL_q rfl (ev_assign rfl) ?_
        refine WL_q rfl (ev_assign rfl) ?_
        refine WL_nil ?_
        refine thenE_n ?_
        refine W_seq ?_
        refine W_region ?_
        refine WL_q rfl (ev_move rfl) ?_
        refine WL_q rfl (ev_geq rfl rfl) ?_
        refine WL_q rfl (ev_move rfl) ?_
        refine WL_splitv (t := 31) rfl (fun hg30 => ?_) (fun hg30 => ?_)
        · have hp30 := of_decide_eq_true hg30
          refine WL_qg rfl rfl hg30 rfl (ev_move rfl) ?_
          refine WL_qg rfl rfl hg30 rfl (ev_move rfl) ?_
          refine WL_qg rfl rfl hg30 rfl (ev_move rfl) ?_
          refine WL_qg rfl rfl hg30 rfl (ev_indexAddr Try.underlying33 sz3 rfl rfl (hx.isSome (by omega)) (by omega) (by omega)) ?_
          refine WL_qg rfl rfl hg30 rfl (ev_load one3 rfl (hx.cell (i := i) (by omega))) ?_
          refine WL_qg rfl rfl hg30 rfl (ev_neq rfl rfl) ?_
          refine WL_q rfl (ev_pick_t rfl hg30 rfl) ?_
          refine WL_nil ?_
          refine thenE_n ?_
          refine W_cond rfl (fun hg37 => ?_) (fun hg37 => ?_)
          · have hp37 := of_decide_eq_true hg37
            refine W_seq ?_
            refine W_region ?_
            refine WL_q rfl (ev_assign rfl) ?_
            refine WL_nil ?_
            refine thenE_n ?_
            refine W_ret ?_
            refine blockE_r ?_
            refine thenE_r ?_
            refine thenE_r ?_
            refine blockE_r ?_
            refine thenE_r ?_
            refine ret1 rfl rfl ?_
            first | (exact ⟨vb (cfit_no fun h => hp12 h.1), hE⟩) | (exact ⟨vb (cfit_no fun h => hp19 (congrArg (Nat.cast : Nat → Int) h.2.1)), hE⟩) | (refine ⟨vb (cfit_no fun h => ?_), hE⟩; have := h.2.2 i (by omega) (by omega); omega) | (exact ⟨vb (cfit_yes ⟨by omega, by omega, fun j h1 h2 => hJ j (by omega) h1 h2⟩), hE⟩)
          · have hp37 := of_decide_eq_false hg37
            refine W_skip ?_
            refine blockE_n ?_
            refine thenE_n ?_
            refine W_region ?_
            refine WL_q rfl (ev_add rfl rfl (by omega)) ?_
            refine WL_q rfl (ev_move rfl) ?_
            refine WL_nil ?_
            refine thenE_n ?_
            exact ⟨i + 1, (Subs.c rfl (Subs.c rfl (Subs.c rfl Subs.n))), (Subs.c (lkI rfl (by omega)) Subs.n), ⟨hRL0, ⟨by omega, fun j h1 h2 h3 => by
    by_cases hj : j = i
    · subst hj; omega
    · exact hJ j (by omega) h2 h3⟩⟩, by first | omega | (dsimp only; omega)⟩
        · have hp30 := of_decide_eq_false hg30
          refine WL_no rfl rfl hg30 rfl ?_
          refine WL_no rfl rfl hg30 rfl ?_
          refine WL_no rfl rfl hg30 rfl ?_
          refine WL_no rfl rfl hg30 rfl ?_
          refine WL_no rfl rfl hg30 rfl ?_
          refine WL_no rfl rfl hg30 rfl ?_
          refine WL_q rfl (ev_pick_f rfl hg30 rfl) ?_
          refine WL_nil ?_
          refine thenE_n ?_
          refine W_cond_f rfl ?_
          refine W_skip ?_
          refine blockE_n ?_
          refine thenE_n ?_
          refine W_region ?_
          refine WL_q rfl (ev_add rfl rfl (by omega)) ?_
          refine WL_q rfl (ev_move rfl) ?_
          refine WL_nil ?_
          refine thenE_n ?_
          exact ⟨i + 1, (Subs.c rfl (Subs.c rfl (Subs.c rfl Subs.n))), (Subs.c (lkI rfl (by omega)) Subs.n), ⟨hRL0, ⟨by omega, fun j h1 h2 h3 => by
    by_cases hj : j = i
    · subst hj; omega
    · exact hJ j (by omega) h2 h3⟩⟩, by first | omega | (dsimp only; omega)⟩
      · have hp25 := of_decide_eq_false hg25
        refine W_exit ?_
        refine thenE_x ?_
        refine thenE_x ?_
        refine blockE_hit ?_
        refine thenE_n ?_
        refine W_seq ?_
        refine W_region ?_
        refine WL_q rfl (ev_assign rfl) ?_
        refine WL_nil ?_
        refine thenE_n ?_
        refine W_ret ?_
        refine ret1 rfl rfl ?_
        first | (exact ⟨vb (cfit_no fun h => hp12 h.1), hE⟩) | (exact ⟨vb (cfit_no fun h => hp19 (congrArg (Nat.cast : Nat → Int) h.2.1)), hE⟩) | (refine ⟨vb (cfit_no fun h => ?_), hE⟩; have := h.2.2 i (by omega) (by omega); omega) | (exact ⟨vb (cfit_yes ⟨by omega, by omega, fun j h1 h2 => hJ j (by omega) h1 h2⟩), hE⟩)

set_option maxRecDepth 100000 in
theorem IndexFunc_cl {lo hi : Nat} (a : Option Addr) (c : Nat) (xs : List Cl) (f : FuncId) (cap : List Value) (p : Cl → Bool) (w : World) (hx : Clauses lo hi w a c xs) (hm : (xs.length : Int) < 9223372036854775807) (hp : ∀ i (h : i < xs.length) (a2 : Option Addr) (c2 : Nat) (w1 : World), Ext w w1 → Ints lo hi w1 a2 c2 xs[i].2.1 → Fn Try.prog f ([] ++ [Value.agg #[VI xs[i].1, .slice a2 xs[i].2.1.length c2, VI xs[i].2.2]] ++ cap).toArray w1 (fun v w2 => v = VB (p xs[i]) ∧ Ext w1 w2)) :
    Fn Try.prog 113 #[.slice a xs.length c, .func (.func f) #[] cap.toArray] w (fun v w' => v = VI (idxF p xs) ∧ Ext w w') := by
  have hE := Ext.refl w
  refine Fn_of Try.func113 rfl rfl (by kernel_rfl) rfl ?_
  refine W_seq ?_
  refine W_region ?_
  refine WL_q rfl (ev_assign rfl) ?_
  refine WL_nil ?_
  refine thenE_n ?_
  refine W_seq ?_
  refine W_seq ?_
  refine W_region ?_
  refine WL_q rfl (ev_move rfl) ?_
  refine WL_q rfl (ev_len Try.underlying38 rfl) ?_
  refine WL_q rfl (ev_move rfl) ?_
  refine WL_nil ?_
  refine thenE_n ?_
  refine W_block ?_
  refine W_loopC (G := Nat) [(0, _), (1, _), (7, _)] ((Subs.c rfl (Subs.c rfl (Subs.c rfl Subs.n)))) (fun i => [(8, VI (i : Int))]) (fun i w' => Ext w w' ∧ i ≤ xs.length ∧ ∀ j (_h : j < i) (h2 : j < xs.length), p xs[j] = false) (fun i => xs.length - i) 0 ((Subs.c (lkI rfl (by omega)) Subs.n)) (⟨Ext.refl _, ⟨by omega, fun j h => by omega⟩⟩) ?_
  rintro i wL0 ⟨hRL0, hi, hJ⟩
  have hzL0 := hRL0.size
  replace hE := hE.trans hRL0
  replace hx := hx.ext hRL0
  refine W_seq ?_
  refine W_region ?_
  refine WL_q rfl (ev_lss rfl rfl) ?_
  refine WL_nil ?_
  refine thenE_n ?_
  refine W_seq ?_
  refine W_cond rfl (fun hg9 => ?_) (fun hg9 => ?_)
  · have hp9 := of_decide_eq_true hg9
    refine W_skip ?_
    refine thenE_n ?_
    refine W_seq ?_
    refine W_block ?_
    refine W_seq ?_
    refine W_region ?_
    refine WL_q rfl (ev_move rfl) ?_
    refine WL_q rfl (ev_assign rfl) ?_
    refine WL_nil ?_
    refine thenE_n ?_
    refine W_seq ?_
    refine W_region ?_
    refine WL_q rfl (ev_move rfl) ?_
    refine WL_q rfl (ev_move rfl) ?_
    refine WL_q rfl (ev_move rfl) ?_
    obtain ⟨a2, c2, hc2, hr2⟩ := hx.cl (i := i) (by omega)
    refine WL_q rfl (ev_indexAddr Try.underlying38 sz84 rfl rfl (hx.isSome (by omega)) (by omega) (by omega)) ?_
    refine WL_q rfl (ev_loads st84 sz84 rfl (hc2) rfl) ?_
    refine WL_m rfl (ev_callv rfl rfl (hp i (by omega) _ _ _ hE hr2)) ?_
    rintro _ w16 ⟨rfl, hE16⟩
    have hz16 := hE16.size
    replace hE := hE.trans hE16
    replace hRL0 := hRL0.trans hE16
    replace hx := hx.ext hE16
    refine WL_nil ?_
    refine thenE_n ?_
    refine W_cond rfl (fun hg16 => ?_) (fun hg16 => ?_)
    · refine W_seq ?_
      refine W_region ?_
      refine WL_q rfl (ev_move rfl) ?_
      refine WL_q rfl (ev_assign rfl) ?_
      refine WL_nil ?_
      refine thenE_n ?_
      refine W_ret ?_
      refine blockE_r ?_
      refine thenE_r ?_
      refine thenE_r ?_
      refine blockE_r ?_
      refine thenE_r ?_
      refine ret1 rfl rfl ?_
      first | exact ⟨vi (idxF_at (by omega) hg16 hJ).symm, hE⟩ | exact ⟨vi (idxF_none fun j h2 => hJ j (by omega) h2).symm, hE⟩
    · refine W_skip ?_
      refine blockE_n ?_
      refine thenE_n ?_
      refine W_region ?_
      refine WL_q rfl (ev_add rfl rfl (by omega)) ?_
      refine WL_q rfl (ev_move rfl) ?_
      refine WL_nil ?_
      refine thenE_n ?_
      exact ⟨i + 1, (Subs.c rfl (Subs.c rfl (Subs.c rfl Subs.n))), (Subs.c (lkI rfl (by omega)) Subs.n), ⟨hRL0, ⟨by omega, fun j h1 h2 => by
    by_cases hj : j = i
    · subst hj; exact hg16
    · exact hJ j (by omega) h2⟩⟩, by first | omega | (dsimp only; omega)⟩
  · have hp9 := of_decide_eq_false hg9
    refine W_exit ?_
    refine thenE_x ?_
    refine thenE_x ?_
    refine blockE_hit ?_
    refine thenE_n ?_
    refine W_seq ?_
    refine W_region ?_
    refine WL_q rfl (ev_assign rfl) ?_
    refine WL_nil ?_
    refine thenE_n ?_
    refine W_ret ?_
    refine ret1 rfl rfl ?_
    first | exact ⟨vi (idxF_at (by omega) hg16 hJ).symm, hE⟩ | exact ⟨vi (idxF_none fun j h2 => hJ j (by omega) h2).symm, hE⟩

set_option maxRecDepth 100000 in
theorem clauseFor_spec {lo hi lo2 hi2 : Nat} (h : MA) (m : Mach) (s : Int) (a2 : Option Addr) (c2 : Nat) (x : List Int) (w : World) (hM : IsMach lo hi w h m) (hx : Ints lo2 hi2 w a2 c2 x) (hm : totC m.clauses ≤ 1048576) :
    Fn Try.prog 71 #[machV h m, VI s, .slice a2 x.length c2] w (fun v w' => v = VI (idxF (cfit s x) m.clauses) ∧ Ext w w') := by
  have hq3 := totC_len m.clauses
  have hE := Ext.refl w
  refine Fn_of Try.func71 rfl rfl (by kernel_rfl) rfl ?_
  refine W_seq ?_
  refine W_region ?_
  refine WL_m rfl (ev_box rfl) ?_
  rintro _ w3 ⟨rfl, hN3⟩
  have hz3 := hN3.size
  replace hE := hE.trans hN3.ext
  replace hM := hM.ext hN3.ext
  replace hx := hx.ext hN3.ext
  have hB3 : Blk w3 _ _ [_, _, _, _, _, _, _] := hN3.blk
  refine WL_m rfl (ev_box rfl) ?_
  rintro _ w4 ⟨rfl, hN4⟩
  have hz4 := hN4.size
  replace hE := hE.trans hN4.ext
  replace hM := hM.ext hN4.ext
  replace hx := hx.ext hN4.ext
  replace hB3 := hB3.ext hN4.ext
  have hB4 : Blk w4 _ _ [_] := hN4.blk
  refine WL_m rfl (ev_box rfl) ?_
  rintro _ w5 ⟨rfl, hN5⟩
  have hz5 := hN5.size
  replace hE := hE.trans hN5.ext
  replace hM := hM.ext hN5.ext
  replace hx := hx.ext hN5.ext
  replace hB3 := hB3.ext hN5.ext
  replace hB4 := hB4.ext hN5.ext
  have hB5 : Blk w5 _ _ [_] := hN5.blk
  refine WL_q rfl (ev_assign rfl) ?_
  refine WL_nil ?_
  refine thenE_n ?_
  refine W_seq ?_
  refine W_region ?_
  refine WL_q rfl (ev_fieldAddr fo40_5 rfl) ?_
  refine WL_q rfl (ev_load one38 rfl (hB3.cell rfl)) ?_
  refine WL_q rfl (ev_makeFunc rfl rfl) ?_
  refine WL_m rfl (ev_call rfl (IndexFunc_cl _ _ m.clauses _ _ (cfit s x) _ hM.clauses (by omega) (fun i h a3 c3 w1 hw hr => clauseFor_1 _ a2 _ c2 _ s x _ _ _ _ w1 hr (hx.ext hw) (hB4.ext hw) (hB5.ext hw) (by have := totC_le h; omega)))) ?_
  rintro _ w10 ⟨rfl, hE10⟩
  have hz10 := hE10.size
  replace hE := hE.trans hE10
  replace hM := hM.ext hE10
  replace hx := hx.ext hE10
  replace hB3 := hB3.ext hE10
  replace hB4 := hB4.ext hE10
  replace hB5 := hB5.ext hE10
  refine WL_q rfl (ev_assign rfl) ?_
  refine WL_nil ?_
  refine thenE_n ?_
  refine W_ret ?_
  refine ret1 rfl rfl ?_
  exact ⟨rfl, hE⟩

set_option maxRecDepth 100000 in
theorem maClause_spec {lo hi lo2 hi2 : Nat} (h : MA) (m : Mach) (s : Int) (a2 : Option Addr) (c2 : Nat) (x : List Int) (w : World) (hM : IsMach lo hi w h m) (hx : Ints lo2 hi2 w a2 c2 x) (hhi : hi ≤ w.heap.size) (hhi2 : hi2 ≤ w.heap.size) (hm : totC m.clauses ≤ 1048576) (hk : MOk m) :
    Fn Try.prog 70 #[machV h m, VI s, .slice a2 x.length c2] w (fun v w' => v = VI (idxF (cfit s x) m.clauses) ∧ Ext w w') := by
  have hq3 := totC_len m.clauses
  have hE := Ext.refl w
  refine Fn_of Try.func70 rfl rfl (by kernel_rfl) rfl ?_
  refine W_seq ?_
  refine W_region ?_
  refine WL_m rfl (ev_box rfl) ?_
  rintro _ w3 ⟨rfl, hN3⟩
  have hz3 := hN3.size
  replace hE := hE.trans hN3.ext
  replace hM := hM.ext hN3.ext
  replace hx := hx.ext hN3.ext
  have hB3 : Blk w3 _ _ [_, _, _, _, _, _, _] := hN3.blk
  refine WL_q rfl (ev_assign rfl) ?_
  refine WL_nil ?_
  refine thenE_n ?_
  refine W_seq ?_
  refine W_seq ?_
  refine W_region ?_
  refine WL_q rfl (ev_fieldAddr fo40_5 rfl) ?_
  refine WL_q rfl (ev_load one38 rfl (hB3.cell rfl)) ?_
  refine WL_q rfl (ev_len Try.underlying38 rfl) ?_
  refine WL_q rfl (ev_move rfl) ?_
  refine WL_nil ?_
  refine thenE_n ?_
  refine W_block ?_
  refine W_loopC (G := Nat) [(1, _), (2, _), (10, _), (11, _)] ((Subs.c rfl (Subs.c rfl (Subs.c rfl (Subs.c rfl Subs.n))))) (fun i => [(12, VI (i : Int))]) (fun i w' => Ext w3 w' ∧ i ≤ m.clauses.length ∧ ∀ j (_h : j < i) (h2 : j < m.clauses.length), cfit s x m.clauses[j] = false) (fun i => m.clauses.length - i) 0 ((Subs.c (lkI rfl (by omega)) Subs.n)) (⟨Ext.refl _, ⟨by omega, fun j h => by omega⟩⟩) ?_
  rintro i wL0 ⟨hRL0, hi', hJ⟩
  have hzL0 := hRL0.size
  replace hE := hE.trans hRL0
  replace hM := hM.ext hRL0
  replace hx := hx.ext hRL0
  replace hB3 := hB3.ext hRL0
  refine W_seq ?_
  refine W_region ?_
  refine WL_q rfl (ev_lss rfl rfl) ?_
  refine WL_nil ?_
  refine thenE_n ?_
  refine W_seq ?_
  refine W_cond rfl (fun hg13 => ?_) (fun hg13 => ?_)
  · have hp13 := of_decide_eq_true hg13
    refine W_skip ?_
    refine thenE_n ?_
    refine W_seq ?_
    refine W_block ?_
    refine W_seq ?_
    refine W_region ?_
    refine WL_q rfl (ev_move rfl) ?_
    obtain ⟨a3, c3, hc3, hr3⟩ := hM.clauses.cl (i := i) (by omega)
    have htc := totC_le (show i < m.clauses.length by omega)
    have hkc := (hk.clauses _ (List.getElem_mem (show i < m.clauses.length by omega))).2.2.2
    refine WL_q rfl (ev_indexAddr Try.underlying38 sz84 rfl rfl (hM.clauses.isSome (by omega)) (by omega) (by omega)) ?_
    refine WL_q rfl (ev_loads st84 sz84 rfl (hc3) rfl) ?_
    refine WL_m rfl (ev_alloc zr84) ?_
    rintro _ w8 ⟨rfl, hN8⟩
    have hz8 := hN8.size
    replace hE := hE.trans hN8.ext
    replace hRL0 := hRL0.trans hN8.ext
    replace hM := hM.ext hN8.ext
    replace hx := hx.ext hN8.ext
    replace hB3 := hB3.ext hN8.ext
    replace hr3 := hr3.ext hN8.ext
    have hB8 : Blk w8 _ _ [_, _, _] := hN8.blk
    refine WL_q rfl (ev_assign rfl) ?_
    refine WL_s (ev_stores sz84 rfl rfl rfl (by simp [Value.oneCell']) hB8 (by simp)) ?_
    rintro _ w3_5 hS3_5
    have hz3_5 := hS3_5.size
    replace hE := hE.sto hS3_5 (by omega)
    replace hRL0 := hRL0.sto hS3_5 (by omega)
    replace hM := hM.sto hS3_5 (by omega)
    replace hx := hx.sto hS3_5 (by omega)
    replace hB3 := hB3.sto hS3_5 (by omega)
    replace hr3 := hr3.sto hS3_5 (by omega)
    replace hB8 : Blk w3_5 _ _ [_, _, _] := hS3_5.blk
    refine WL_nil ?_
    refine thenE_n ?_
    refine W_seq ?_
    refine W_region ?_
    refine WL_q rfl (ev_loads st84 sz84 rfl (cellsB hB8) rfl) ?_
    refine WL_q rfl (ev_move rfl) ?_
    refine WL_q rfl (ev_move rfl) ?_
    refine WL_m rfl (ev_call rfl (maFits_spec _ _ _ _ m.clauses[i] _ x _ hr3 hx (by omega) (fun y hy => (allR_true.1 hkc y hy).1))) ?_
    rintro _ w20 ⟨rfl, hE20⟩
    have hz20 := hE20.size
    replace hE := hE.trans hE20
    replace hRL0 := hRL0.trans hE20
    replace hM := hM.ext hE20
    replace hx := hx.ext hE20
    replace hB3 := hB3.ext hE20
    replace hr3 := hr3.ext hE20
    replace hB8 := hB8.ext hE20
    refine WL_nil ?_
    refine thenE_n ?_
    refine W_cond rfl (fun hg20 => ?_) (fun hg20 => ?_)
    · refine W_seq ?_
      refine W_region ?_
      refine WL_q rfl (ev_move rfl) ?_
      refine WL_q rfl (ev_assign rfl) ?_
      refine WL_nil ?_
      refine thenE_n ?_
      refine W_ret ?_
      refine blockE_r ?_
      refine thenE_r ?_
      refine thenE_r ?_
      refine blockE_r ?_
      refine thenE_r ?_
      refine ret1 rfl rfl ?_
      first | exact ⟨vi (idxF_at (by omega) hg20 hJ).symm, hE⟩ | exact ⟨vi (idxF_none fun j h2 => hJ j (by omega) h2).symm, hE⟩
    · refine W_skip ?_
      refine blockE_n ?_
      refine thenE_n ?_
      refine W_region ?_
      refine WL_q rfl (ev_add rfl rfl (by omega)) ?_
      refine WL_q rfl (ev_move rfl) ?_
      refine WL_nil ?_
      refine thenE_n ?_
      exact ⟨i + 1, (Subs.c rfl (Subs.c rfl (Subs.c rfl (Subs.c rfl Subs.n)))), (Subs.c (lkI rfl (by omega)) Subs.n), ⟨hRL0, ⟨by omega, fun j h1 h2 => by
    by_cases hj : j = i
    · subst hj; exact hg20
    · exact hJ j (by omega) h2⟩⟩, by first | omega | (dsimp only; omega)⟩
  · have hp13 := of_decide_eq_false hg13
    refine W_exit ?_
    refine thenE_x ?_
    refine thenE_x ?_
    refine blockE_hit ?_
    refine thenE_n ?_
    refine W_seq ?_
    refine W_region ?_
    refine WL_q rfl (ev_assign rfl) ?_
    refine WL_nil ?_
    refine thenE_n ?_
    refine W_ret ?_
    refine ret1 rfl rfl ?_
    first | exact ⟨vi (idxF_at (by omega) hg20 hJ).symm, hE⟩ | exact ⟨vi (idxF_none fun j h2 => hJ j (by omega) h2).symm, hE⟩

set_option maxRecDepth 100000 in
theorem ClauseFor_spec {lo hi lo2 hi2 : Nat} (h : MA) (m : Mach) (s : Int) (a2 : Option Addr) (c2 : Nat) (x : List Int) (w : World) (hM : IsMach lo hi w h m) (hx : Ints lo2 hi2 w a2 c2 x) (hhi : hi ≤ w.heap.size) (hhi2 : hi2 ≤ w.heap.size) (hn : totM m ≤ 1048576) (hxl : x.length ≤ 1048576) :
    Fn Try.prog 30 #[machV h m, VI s, .slice a2 x.length c2] w (fun v w' => ∃ r b, v = .tuple #[VI r, VB b] ∧ CFR m s x r b ∧ Ext w w') := by
  have htc : totC m.clauses ≤ 1048576 := by unfold totM at hn; omega
  have hE := Ext.refl w
  refine Fn_of Try.func30 rfl rfl (by kernel_rfl) rfl ?_
  refine W_seq ?_
  refine W_region ?_
  refine WL_m rfl (ev_box rfl) ?_
  rintro _ w3 ⟨rfl, hN3⟩
  have hz3 := hN3.size
  replace hE := hE.trans hN3.ext
  replace hM := hM.ext hN3.ext
  replace hx := hx.ext hN3.ext
  have hB3 : Blk w3 _ _ [_, _, _, _, _, _, _] := hN3.blk
  refine WL_q rfl (ev_assign rfl) ?_
  refine WL_q rfl (ev_assign rfl) ?_
  refine WL_nil ?_
  refine thenE_n ?_
  refine W_seq ?_
  refine W_seq ?_
  refine W_region ?_
  refine WL_q rfl (ev_loads st40 sz40 rfl (cellsB hB3) rfl) ?_
  refine WL_m rfl (ev_call rfl (IsMachine_spec h m _ hM (by omega) (by omega))) ?_
  rintro _ w10 ⟨b10, rfl, hb10, hE10⟩
  have hz10 := hE10.size
  replace hE := hE.trans hE10
  replace hM := hM.ext hE10
  replace hx := hx.ext hE10
  replace hB3 := hB3.ext hE10
  refine WL_q rfl (ev_not rfl) ?_
  refine WL_q rfl (ev_move rfl) ?_
  refine WL_splitv (t := 12) rfl (fun hg11 => ?_) (fun hg11 => ?_)
  · have hg10 := not_true hg11
    have hp10 := ttN hb10 hg10
    refine WL_no rfl rfl hg11 rfl ?_
    refine WL_no rfl rfl hg11 rfl ?_
    refine WL_no rfl rfl hg11 rfl ?_
    refine WL_no rfl rfl hg11 rfl ?_
    refine WL_q rfl (ev_pick_t rfl hg11 rfl) ?_
    refine WL_q rfl (ev_move rfl) ?_
    refine WL_no rfl rfl rfl rfl ?_
    refine WL_no rfl rfl rfl rfl ?_
    refine WL_no rfl rfl rfl rfl ?_
    refine WL_no rfl rfl rfl rfl ?_
    refine WL_no rfl rfl rfl rfl ?_
    refine WL_q rfl (ev_pick_t rfl rfl rfl) ?_
    refine WL_q rfl (ev_move rfl) ?_
    refine WL_no rfl rfl rfl rfl ?_
    refine WL_no rfl rfl rfl rfl ?_
    refine WL_no rfl rfl rfl rfl ?_
    refine WL_no rfl rfl rfl rfl ?_
    refine WL_no rfl rfl rfl rfl ?_
    refine WL_no rfl rfl rfl rfl ?_
    refine WL_q rfl (ev_pick_t rfl rfl rfl) ?_
    refine WL_nil ?_
    refine thenE_n ?_
    refine W_cond_t rfl ?_
    refine W_seq ?_
    refine W_region ?_
    refine WL_q rfl (ev_assign rfl) ?_
    refine WL_q rfl (ev_assign rfl) ?_
    refine WL_nil ?_
    refine thenE_n ?_
    refine W_ret ?_
    refine thenE_r ?_
    refine ret2 rfl rfl rfl ?_
    first | (exact ⟨_, _, rfl, .inr ⟨fun hk => hp10 hk.1.1, rfl, rfl⟩, hE⟩) | (exact ⟨_, _, rfl, .inr ⟨fun hk => hp15 hk.1.2.1, rfl, rfl⟩, hE⟩) | (refine ⟨_, _, rfl, .inr ⟨fun hk => ?_, rfl, rfl⟩, hE⟩; have := hk.1.2.2.1; omega) | (exact ⟨_, _, rfl, .inr ⟨fun hk => tf hg30 hk.1.2.2.2, rfl, rfl⟩, hE⟩) | (refine ⟨_, _, rfl, ?_, hE⟩; by_cases h0 : 0 ≤ idxF (cfit s x) m.clauses; exact .inl ⟨⟨hp10, hp15, by omega, hg30⟩, h0, by omega, by simp [h0]⟩; exact .inr ⟨fun hk => h0 hk.2, by omega, by simp [h0]⟩)
  · have hg10 := not_false hg11
    have hp10 := hb10.1 hg10
    refine WL_qg rfl rfl hg11 rfl (ev_loads st40 sz40 rfl (cellsB hB3) rfl) ?_
    refine WL_qg rfl rfl hg11 rfl (ev_move rfl) ?_
    refine WL_mg rfl rfl hg11 rfl (ev_call rfl (hasState_spec h m _ _ hp10.states)) ?_
    rintro _ w15 ⟨rfl, hE15⟩
    have hz15 := hE15.size
    replace hE := hE.trans hE15
    replace hM := hM.ext hE15
    replace hx := hx.ext hE15
    replace hB3 := hB3.ext hE15
    refine WL_qg rfl rfl hg11 rfl (ev_not rfl) ?_
    refine WL_q rfl (ev_pick_f rfl hg11 rfl) ?_
    refine WL_q rfl (ev_move rfl) ?_
    refine WL_splitv (t := 18) rfl (fun hg16 => ?_) (fun hg16 => ?_)
    · have hg15 := not_true hg16
      have hp15 := inR_false.1 hg15
      refine WL_no rfl rfl hg16 rfl ?_
      refine WL_no rfl rfl hg16 rfl ?_
      refine WL_no rfl rfl hg16 rfl ?_
      refine WL_no rfl rfl hg16 rfl ?_
      refine WL_no rfl rfl hg16 rfl ?_
      refine WL_q rfl (ev_pick_t rfl hg16 rfl) ?_
      refine WL_q rfl (ev_move rfl) ?_
      refine WL_no rfl rfl rfl rfl ?_
      refine WL_no rfl rfl rfl rfl ?_
      refine WL_no rfl rfl rfl rfl ?_
      refine WL_no rfl rfl rfl rfl ?_
      refine WL_no rfl rfl rfl rfl ?_
      refine WL_no rfl rfl rfl rfl ?_
      refine WL_q rfl (ev_pick_t rfl rfl rfl) ?_
      refine WL_nil ?_
      refine thenE_n ?_
      refine W_cond_t rfl ?_
      refine W_seq ?_
      refine W_region ?_
      refine WL_q rfl (ev_assign rfl) ?_
      refine WL_q rfl (ev_assign rfl) ?_
      refine WL_nil ?_
      refine thenE_n ?_
      refine W_ret ?_
      refine thenE_r ?_
      refine ret2 rfl rfl rfl ?_
      first | (exact ⟨_, _, rfl, .inr ⟨fun hk => hp10 hk.1.1, rfl, rfl⟩, hE⟩) | (exact ⟨_, _, rfl, .inr ⟨fun hk => hp15 hk.1.2.1, rfl, rfl⟩, hE⟩) | (refine ⟨_, _, rfl, .inr ⟨fun hk => ?_, rfl, rfl⟩, hE⟩; have := hk.1.2.2.1; omega) | (exact ⟨_, _, rfl, .inr ⟨fun hk => tf hg30 hk.1.2.2.2, rfl, rfl⟩, hE⟩) | (refine ⟨_, _, rfl, ?_, hE⟩; by_cases h0 : 0 ≤ idxF (cfit s x) m.clauses; exact .inl ⟨⟨hp10, hp15, by omega, hg30⟩, h0, by omega, by simp [h0]⟩; exact .inr ⟨fun hk => h0 hk.2, by omega, by simp [h0]⟩)
    · have hg15 := not_false hg16
      have hp15 := inR_true.1 hg15
      refine WL_qg rfl rfl hg16 rfl (ev_move rfl) ?_
      refine WL_qg rfl rfl hg16 rfl (ev_len Try.underlying33 rfl) ?_
      refine WL_qg rfl rfl hg16 rfl (ev_fieldAddr fo40_0 rfl) ?_
      refine WL_qg rfl rfl hg16 rfl (ev_load one3 rfl (hB3.cell rfl)) ?_
      refine WL_qg rfl rfl hg16 rfl (ev_gtr rfl rfl) ?_
      refine WL_q rfl (ev_pick_f rfl hg16 rfl) ?_
      refine WL_q rfl (ev_move rfl) ?_
      refine WL_splitv (t := 25) rfl (fun hg23 => ?_) (fun hg23 => ?_)
      · have hp23 := of_decide_eq_true hg23
        refine WL_no rfl rfl hg23 rfl ?_
        refine WL_no rfl rfl hg23 rfl ?_
        refine WL_no rfl rfl hg23 rfl ?_
        refine WL_no rfl rfl hg23 rfl ?_
        refine WL_no rfl rfl hg23 rfl ?_
        refine WL_no rfl rfl hg23 rfl ?_
        refine WL_q rfl (ev_pick_t rfl hg23 rfl) ?_
        refine WL_nil ?_
        refine thenE_n ?_
        refine W_cond_t rfl ?_
        refine W_seq ?_
        refine W_region ?_
        refine WL_q rfl (ev_assign rfl) ?_
        refine WL_q rfl (ev_assign rfl) ?_
        refine WL_nil ?_
        refine thenE_n ?_
        refine W_ret ?_
        refine thenE_r ?_
        refine ret2 rfl rfl rfl ?_
        first | (exact ⟨_, _, rfl, .inr ⟨fun hk => hp10 hk.1.1, rfl, rfl⟩, hE⟩) | (exact ⟨_, _, rfl, .inr ⟨fun hk => hp15 hk.1.2.1, rfl, rfl⟩, hE⟩) | (refine ⟨_, _, rfl, .inr ⟨fun hk => ?_, rfl, rfl⟩, hE⟩; have := hk.1.2.2.1; omega) | (exact ⟨_, _, rfl, .inr ⟨fun hk => tf hg30 hk.1.2.2.2, rfl, rfl⟩, hE⟩) | (refine ⟨_, _, rfl, ?_, hE⟩; by_cases h0 : 0 ≤ idxF (cfit s x) m.clauses; exact .inl ⟨⟨hp10, hp15, by omega, hg30⟩, h0, by omega, by simp [h0]⟩; exact .inr ⟨fun hk => h0 hk.2, by omega, by simp [h0]⟩)
      · have hp23 := of_decide_eq_false hg23
        refine WL_qg rfl rfl hg23 rfl (ev_move rfl) ?_
        refine WL_qg rfl rfl hg23 rfl (ev_fieldAddr fo40_2 rfl) ?_
        refine WL_qg rfl rfl hg23 rfl (ev_load one3 rfl (hB3.cell rfl)) ?_
        refine WL_qg rfl rfl hg23 rfl (ev_sub rfl rfl (by have := hp10.msgs; omega)) ?_
        refine WL_mg rfl rfl hg23 rfl (ev_call rfl (allWithin_spec _ _ _ _ _ _ (by assumption) (by omega))) ?_
        rintro _ w30 ⟨rfl, hE30⟩
        have hz30 := hE30.size
        replace hE := hE.trans hE30
        replace hM := hM.ext hE30
        replace hx := hx.ext hE30
        replace hB3 := hB3.ext hE30
        refine WL_qg rfl rfl hg23 rfl (ev_not rfl) ?_
        refine WL_q rfl (ev_pick_f rfl hg23 rfl) ?_
        refine WL_nil ?_
        refine thenE_n ?_
        refine W_cond rfl (fun hg31 => ?_) (fun hg31 => ?_)
        · have hg30 := not_true hg31
          refine W_seq ?_
          refine W_region ?_
          refine WL_q rfl (ev_assign rfl) ?_
          refine WL_q rfl (ev_assign rfl) ?_
          refine WL_nil ?_
          refine thenE_n ?_
          refine W_ret ?_
          refine thenE_r ?_
          refine ret2 rfl rfl rfl ?_
          first | (exact ⟨_, _, rfl, .inr ⟨fun hk => hp10 hk.1.1, rfl, rfl⟩, hE⟩) | (exact ⟨_, _, rfl, .inr ⟨fun hk => hp15 hk.1.2.1, rfl, rfl⟩, hE⟩) | (refine ⟨_, _, rfl, .inr ⟨fun hk => ?_, rfl, rfl⟩, hE⟩; have := hk.1.2.2.1; omega) | (exact ⟨_, _, rfl, .inr ⟨fun hk => tf hg30 hk.1.2.2.2, rfl, rfl⟩, hE⟩) | (refine ⟨_, _, rfl, ?_, hE⟩; by_cases h0 : 0 ≤ idxF (cfit s x) m.clauses; exact .inl ⟨⟨hp10, hp15, by omega, hg30⟩, h0, by omega, by simp [h0]⟩; exact .inr ⟨fun hk => h0 hk.2, by omega, by simp [h0]⟩)
        · have hg30 := not_false hg31
          refine W_skip ?_
          refine thenE_n ?_
          refine W_seq ?_
          refine W_region ?_
          refine WL_q rfl (ev_loads st40 sz40 rfl (cellsB hB3) rfl) ?_
          refine WL_q rfl (ev_move rfl) ?_
          refine WL_q rfl (ev_move rfl) ?_
          refine WL_m rfl (ev_call rfl (clauseFor_spec h m _ _ _ _ _ hM (by assumption) (by omega))) ?_
          rintro _ w36 ⟨rfl, hE36⟩
          have hz36 := hE36.size
          replace hE := hE.trans hE36
          replace hM := hM.ext hE36
          replace hx := hx.ext hE36
          replace hB3 := hB3.ext hE36
          have hil := idxF_lt (p := cfit s x) (xs := m.clauses)
          refine WL_q rfl (ev_assign rfl) ?_
          refine WL_nil ?_
          refine thenE_n ?_
          refine W_seq ?_
          refine W_region ?_
          refine WL_q rfl (ev_move rfl) ?_
          refine WL_q rfl (ev_max rfl rfl) ?_
          refine WL_q rfl (ev_move rfl) ?_
          refine WL_q rfl (ev_geq rfl rfl) ?_
          refine WL_q rfl (ev_assign rfl) ?_
          refine WL_q rfl (ev_assign rfl) ?_
          refine WL_nil ?_
          refine thenE_n ?_
          refine W_ret ?_
          refine ret2 rfl rfl rfl ?_
          first | (exact ⟨_, _, rfl, .inr ⟨fun hk => hp10 hk.1.1, rfl, rfl⟩, hE⟩) | (exact ⟨_, _, rfl, .inr ⟨fun hk => hp15 hk.1.2.1, rfl, rfl⟩, hE⟩) | (refine ⟨_, _, rfl, .inr ⟨fun hk => ?_, rfl, rfl⟩, hE⟩; have := hk.1.2.2.1; omega) | (exact ⟨_, _, rfl, .inr ⟨fun hk => tf hg30 hk.1.2.2.2, rfl, rfl⟩, hE⟩) | (refine ⟨_, _, rfl, ?_, hE⟩; by_cases h0 : 0 ≤ idxF (cfit s x) m.clauses; exact .inl ⟨⟨hp10, hp15, by omega, hg30⟩, h0, by omega, by simp [h0]⟩; exact .inr ⟨fun hk => h0 hk.2, by omega, by simp [h0]⟩)

set_option maxRecDepth 100000 in
theorem sClauseFor_spec {lo hi lo2 hi2 : Nat} (h : MA) (m : Mach) (s : Int) (a2 : Option Addr) (c2 : Nat) (x : List Int) (w : World) (hM : IsMach lo hi w h m) (hx : Ints lo2 hi2 w a2 c2 x) (hhi : hi ≤ w.heap.size) (hhi2 : hi2 ≤ w.heap.size) (hn : totM m ≤ 1048576) (hxl : x.length ≤ 1048576) :
    Fn Try.prog 28 #[machV h m, VI s, .slice a2 x.length c2] w (fun v w' => ∃ r b, v = .tuple #[VI r, VB b] ∧ CFR m s x r b ∧ Ext w w') := by
  have htc : totC m.clauses ≤ 1048576 := by unfold totM at hn; omega
  have hE := Ext.refl w
  refine Fn_of Try.func28 rfl rfl (by kernel_rfl) rfl ?_
  refine W_seq ?_
  refine W_region ?_
  refine WL_m rfl (ev_box rfl) ?_
  rintro _ w3 ⟨rfl, hN3⟩
  have hz3 := hN3.size
  replace hE := hE.trans hN3.ext
  replace hM := hM.ext hN3.ext
  replace hx := hx.ext hN3.ext
  have hB3 : Blk w3 _ _ [_, _, _, _, _, _, _] := hN3.blk
  refine WL_q rfl (ev_assign rfl) ?_
  refine WL_q rfl (ev_assign rfl) ?_
  refine WL_nil ?_
  refine thenE_n ?_
  refine W_seq ?_
  refine W_seq ?_
  refine W_region ?_
  refine WL_q rfl (ev_loads st40 sz40 rfl (cellsB hB3) rfl) ?_
  refine WL_m rfl (ev_call rfl (maGood_spec h m _ hM (by omega) (by omega))) ?_
  rintro _ w9 ⟨b9, rfl, hb9, hE9⟩
  have hz9 := hE9.size
  replace hE := hE.trans hE9
  replace hM := hM.ext hE9
  replace hx := hx.ext hE9
  replace hB3 := hB3.ext hE9
  refine WL_q rfl (ev_not rfl) ?_
  refine WL_q rfl (ev_move rfl) ?_
  refine WL_splitv (t := 11) rfl (fun hg10 => ?_) (fun hg10 => ?_)
  · have hg9 := not_true hg10
    have hp9 := ttN hb9 hg9
    refine WL_no rfl rfl hg10 rfl ?_
    refine WL_no rfl rfl hg10 rfl ?_
    refine WL_no rfl rfl hg10 rfl ?_
    refine WL_no rfl rfl hg10 rfl ?_
    refine WL_no rfl rfl hg10 rfl ?_
    refine WL_no rfl rfl hg10 rfl ?_
    refine WL_q rfl (ev_pick_t rfl hg10 rfl) ?_
    refine WL_q rfl (ev_move rfl) ?_
    refine WL_no rfl rfl rfl rfl ?_
    refine WL_no rfl rfl rfl rfl ?_
    refine WL_no rfl rfl rfl rfl ?_
    refine WL_no rfl rfl rfl rfl ?_
    refine WL_no rfl rfl rfl rfl ?_
    refine WL_q rfl (ev_pick_t rfl rfl rfl) ?_
    refine WL_q rfl (ev_move rfl) ?_
    refine WL_no rfl rfl rfl rfl ?_
    refine WL_no rfl rfl rfl rfl ?_
    refine WL_no rfl rfl rfl rfl ?_
    refine WL_no rfl rfl rfl rfl ?_
    refine WL_no rfl rfl rfl rfl ?_
    refine WL_no rfl rfl rfl rfl ?_
    refine WL_q rfl (ev_pick_t rfl rfl rfl) ?_
    refine WL_q rfl (ev_move rfl) ?_
    refine WL_no rfl rfl rfl rfl ?_
    refine WL_no rfl rfl rfl rfl ?_
    refine WL_no rfl rfl rfl rfl ?_
    refine WL_no rfl rfl rfl rfl ?_
    refine WL_no rfl rfl rfl rfl ?_
    refine WL_q rfl (ev_pick_t rfl rfl rfl) ?_
    refine WL_nil ?_
    refine thenE_n ?_
    refine W_cond_t rfl ?_
    refine W_seq ?_
    refine W_region ?_
    refine WL_q rfl (ev_assign rfl) ?_
    refine WL_q rfl (ev_assign rfl) ?_
    refine WL_nil ?_
    refine thenE_n ?_
    refine W_ret ?_
    refine thenE_r ?_
    refine ret2 rfl rfl rfl ?_
    first | (exact ⟨_, _, rfl, .inr ⟨fun hk => hp9 hk.1.1, rfl, rfl⟩, hE⟩) | (exact ⟨_, _, rfl, .inr ⟨fun hk => hp16 hk.1.2.1, rfl, rfl⟩, hE⟩) | (refine ⟨_, _, rfl, .inr ⟨fun hk => ?_, rfl, rfl⟩, hE⟩; have := hk.1.2.2.1; omega) | (exact ⟨_, _, rfl, .inr ⟨fun hk => tf hg31 hk.1.2.2.2, rfl, rfl⟩, hE⟩) | (exact ⟨_, _, rfl, .inr ⟨fun hk => absurd hk.2 (by omega), rfl, rfl⟩, hE⟩) | (exact ⟨_, _, rfl, .inl ⟨⟨hp9, hp16, by omega, hg31⟩, by omega, rfl, rfl⟩, hE⟩)
  · have hg9 := not_false hg10
    have hp9 := hb9.1 hg9
    refine WL_qg rfl rfl hg10 rfl (ev_move rfl) ?_
    refine WL_qg rfl rfl hg10 rfl (ev_fieldAddr fo40_1 rfl) ?_
    refine WL_qg rfl rfl hg10 rfl (ev_load one3 rfl (hB3.cell rfl)) ?_
    refine WL_qg rfl rfl hg10 rfl (ev_sub rfl rfl (by have := hp9.states; omega)) ?_
    refine WL_mg rfl rfl hg10 rfl (ev_call rfl (l1In_spec _ _ _ _)) ?_
    rintro _ _ ⟨rfl, rfl⟩
    refine WL_qg rfl rfl hg10 rfl (ev_not rfl) ?_
    refine WL_q rfl (ev_pick_f rfl hg10 rfl) ?_
    refine WL_q rfl (ev_move rfl) ?_
    refine WL_splitv (t := 19) rfl (fun hg17 => ?_) (fun hg17 => ?_)
    · have hg16 := not_true hg17
      have hp16 := inR_false.1 hg16
      refine WL_no rfl rfl hg17 rfl ?_
      refine WL_no rfl rfl hg17 rfl ?_
      refine WL_no rfl rfl hg17 rfl ?_
      refine WL_no rfl rfl hg17 rfl ?_
      refine WL_no rfl rfl hg17 rfl ?_
      refine WL_q rfl (ev_pick_t rfl hg17 rfl) ?_
      refine WL_q rfl (ev_move rfl) ?_
      refine WL_no rfl rfl rfl rfl ?_
      refine WL_no rfl rfl rfl rfl ?_
      refine WL_no rfl rfl rfl rfl ?_
      refine WL_no rfl rfl rfl rfl ?_
      refine WL_no rfl rfl rfl rfl ?_
      refine WL_no rfl rfl rfl rfl ?_
      refine WL_q rfl (ev_pick_t rfl rfl rfl) ?_
      refine WL_q rfl (ev_move rfl) ?_
      refine WL_no rfl rfl rfl rfl ?_
      refine WL_no rfl rfl rfl rfl ?_
      refine WL_no rfl rfl rfl rfl ?_
      refine WL_no rfl rfl rfl rfl ?_
      refine WL_no rfl rfl rfl rfl ?_
      refine WL_q rfl (ev_pick_t rfl rfl rfl) ?_
      refine WL_nil ?_
      refine thenE_n ?_
      refine W_cond_t rfl ?_
      refine W_seq ?_
      refine W_region ?_
      refine WL_q rfl (ev_assign rfl) ?_
      refine WL_q rfl (ev_assign rfl) ?_
      refine WL_nil ?_
      refine thenE_n ?_
      refine W_ret ?_
      refine thenE_r ?_
      refine ret2 rfl rfl rfl ?_
      first | (exact ⟨_, _, rfl, .inr ⟨fun hk => hp9 hk.1.1, rfl, rfl⟩, hE⟩) | (exact ⟨_, _, rfl, .inr ⟨fun hk => hp16 hk.1.2.1, rfl, rfl⟩, hE⟩) | (refine ⟨_, _, rfl, .inr ⟨fun hk => ?_, rfl, rfl⟩, hE⟩; have := hk.1.2.2.1; omega) | (exact ⟨_, _, rfl, .inr ⟨fun hk => tf hg31 hk.1.2.2.2, rfl, rfl⟩, hE⟩) | (exact ⟨_, _, rfl, .inr ⟨fun hk => absurd hk.2 (by omega), rfl, rfl⟩, hE⟩) | (exact ⟨_, _, rfl, .inl ⟨⟨hp9, hp16, by omega, hg31⟩, by omega, rfl, rfl⟩, hE⟩)
    · have hg16 := not_false hg17
      have hp16 := inR_true.1 hg16
      refine WL_qg rfl rfl hg17 rfl (ev_move rfl) ?_
      refine WL_qg rfl rfl hg17 rfl (ev_len Try.underlying33 rfl) ?_
      refine WL_qg rfl rfl hg17 rfl (ev_fieldAddr fo40_0 rfl) ?_
      refine WL_qg rfl rfl hg17 rfl (ev_load one3 rfl (hB3.cell rfl)) ?_
      refine WL_qg rfl rfl hg17 rfl (ev_gtr rfl rfl) ?_
      refine WL_q rfl (ev_pick_f rfl hg17 rfl) ?_
      refine WL_q rfl (ev_move rfl) ?_
      refine WL_splitv (t := 26) rfl (fun hg24 => ?_) (fun hg24 => ?_)
      · have hp24 := of_decide_eq_true hg24
        refine WL_no rfl rfl hg24 rfl ?_
        refine WL_no rfl rfl hg24 rfl ?_
        refine WL_no rfl rfl hg24 rfl ?_
        refine WL_no rfl rfl hg24 rfl ?_
        refine WL_no rfl rfl hg24 rfl ?_
        refine WL_no rfl rfl hg24 rfl ?_
        refine WL_q rfl (ev_pick_t rfl hg24 rfl) ?_
        refine WL_q rfl (ev_move rfl) ?_
        refine WL_no rfl rfl rfl rfl ?_
        refine WL_no rfl rfl rfl rfl ?_
        refine WL_no rfl rfl rfl rfl ?_
        refine WL_no rfl rfl rfl rfl ?_
        refine WL_no rfl rfl rfl rfl ?_
        refine WL_q rfl (ev_pick_t rfl rfl rfl) ?_
        refine WL_nil ?_
        refine thenE_n ?_
        refine W_cond_t rfl ?_
        refine W_seq ?_
        refine W_region ?_
        refine WL_q rfl (ev_assign rfl) ?_
        refine WL_q rfl (ev_assign rfl) ?_
        refine WL_nil ?_
        refine thenE_n ?_
        refine W_ret ?_
        refine thenE_r ?_
        refine ret2 rfl rfl rfl ?_
        first | (exact ⟨_, _, rfl, .inr ⟨fun hk => hp9 hk.1.1, rfl, rfl⟩, hE⟩) | (exact ⟨_, _, rfl, .inr ⟨fun hk => hp16 hk.1.2.1, rfl, rfl⟩, hE⟩) | (refine ⟨_, _, rfl, .inr ⟨fun hk => ?_, rfl, rfl⟩, hE⟩; have := hk.1.2.2.1; omega) | (exact ⟨_, _, rfl, .inr ⟨fun hk => tf hg31 hk.1.2.2.2, rfl, rfl⟩, hE⟩) | (exact ⟨_, _, rfl, .inr ⟨fun hk => absurd hk.2 (by omega), rfl, rfl⟩, hE⟩) | (exact ⟨_, _, rfl, .inl ⟨⟨hp9, hp16, by omega, hg31⟩, by omega, rfl, rfl⟩, hE⟩)
      · have hp24 := of_decide_eq_false hg24
        refine WL_qg rfl rfl hg24 rfl (ev_move rfl) ?_
        refine WL_qg rfl rfl hg24 rfl (ev_fieldAddr fo40_2 rfl) ?_
        refine WL_qg rfl rfl hg24 rfl (ev_load one3 rfl (hB3.cell rfl)) ?_
        refine WL_qg rfl rfl hg24 rfl (ev_sub rfl rfl (by have := hp9.msgs; omega)) ?_
        refine WL_mg rfl rfl hg24 rfl (ev_call rfl (l1All_spec _ _ _ _ _ _ (by assumption) (by omega))) ?_
        rintro _ w31 ⟨rfl, hE31⟩
        have hz31 := hE31.size
        replace hE := hE.trans hE31
        replace hM := hM.ext hE31
        replace hx := hx.ext hE31
        replace hB3 := hB3.ext hE31
        refine WL_qg rfl rfl hg24 rfl (ev_not rfl) ?_
        refine WL_q rfl (ev_pick_f rfl hg24 rfl) ?_
        refine WL_q rfl (ev_move rfl) ?_
        refine WL_splitv (t := 34) rfl (fun hg32 => ?_) (fun hg32 => ?_)
        · have hg31 := not_true hg32
          refine WL_no rfl rfl hg32 rfl ?_
          refine WL_no rfl rfl hg32 rfl ?_
          refine WL_no rfl rfl hg32 rfl ?_
          refine WL_no rfl rfl hg32 rfl ?_
          refine WL_no rfl rfl hg32 rfl ?_
          refine WL_q rfl (ev_pick_t rfl hg32 rfl) ?_
          refine WL_nil ?_
          refine thenE_n ?_
          refine W_cond_t rfl ?_
          refine W_seq ?_
          refine W_region ?_
          refine WL_q rfl (ev_assign rfl) ?_
          refine WL_q rfl (ev_assign rfl) ?_
          refine WL_nil ?_
          refine thenE_n ?_
          refine W_ret ?_
          refine thenE_r ?_
          refine ret2 rfl rfl rfl ?_
          first | (exact ⟨_, _, rfl, .inr ⟨fun hk => hp9 hk.1.1, rfl, rfl⟩, hE⟩) | (exact ⟨_, _, rfl, .inr ⟨fun hk => hp16 hk.1.2.1, rfl, rfl⟩, hE⟩) | (refine ⟨_, _, rfl, .inr ⟨fun hk => ?_, rfl, rfl⟩, hE⟩; have := hk.1.2.2.1; omega) | (exact ⟨_, _, rfl, .inr ⟨fun hk => tf hg31 hk.1.2.2.2, rfl, rfl⟩, hE⟩) | (exact ⟨_, _, rfl, .inr ⟨fun hk => absurd hk.2 (by omega), rfl, rfl⟩, hE⟩) | (exact ⟨_, _, rfl, .inl ⟨⟨hp9, hp16, by omega, hg31⟩, by omega, rfl, rfl⟩, hE⟩)
        · have hg31 := not_false hg32
          refine WL_qg rfl rfl hg32 rfl (ev_loads st40 sz40 rfl (cellsB hB3) rfl) ?_
          refine WL_qg rfl rfl hg32 rfl (ev_move rfl) ?_
          refine WL_qg rfl rfl hg32 rfl (ev_move rfl) ?_
          refine WL_mg rfl rfl hg32 rfl (ev_call rfl (maClause_spec h m _ _ _ _ _ hM (by assumption) (by omega) (by omega) (by omega) (by assumption))) ?_
          rintro _ w38 ⟨rfl, hE38⟩
          have hz38 := hE38.size
          replace hE := hE.trans hE38
          replace hM := hM.ext hE38
          replace hx := hx.ext hE38
          replace hB3 := hB3.ext hE38
          refine WL_qg rfl rfl hg32 rfl (ev_lss rfl rfl) ?_
          refine WL_q rfl (ev_pick_f rfl hg32 rfl) ?_
          refine WL_nil ?_
          refine thenE_n ?_
          refine W_cond rfl (fun hg39 => ?_) (fun hg39 => ?_)
          · have hp39 := of_decide_eq_true hg39
            refine W_seq ?_
            refine W_region ?_
            refine WL_q rfl (ev_assign rfl) ?_
            refine WL_q rfl (ev_assign rfl) ?_
            refine WL_nil ?_
            refine thenE_n ?_
            refine W_ret ?_
            refine thenE_r ?_
            refine ret2 rfl rfl rfl ?_
            first | (exact ⟨_, _, rfl, .inr ⟨fun hk => hp9 hk.1.1, rfl, rfl⟩, hE⟩) | (exact ⟨_, _, rfl, .inr ⟨fun hk => hp16 hk.1.2.1, rfl, rfl⟩, hE⟩) | (refine ⟨_, _, rfl, .inr ⟨fun hk => ?_, rfl, rfl⟩, hE⟩; have := hk.1.2.2.1; omega) | (exact ⟨_, _, rfl, .inr ⟨fun hk => tf hg31 hk.1.2.2.2, rfl, rfl⟩, hE⟩) | (exact ⟨_, _, rfl, .inr ⟨fun hk => absurd hk.2 (by omega), rfl, rfl⟩, hE⟩) | (exact ⟨_, _, rfl, .inl ⟨⟨hp9, hp16, by omega, hg31⟩, by omega, rfl, rfl⟩, hE⟩)
          · have hp39 := of_decide_eq_false hg39
            refine W_skip ?_
            refine thenE_n ?_
            refine W_seq ?_
            refine W_region ?_
            refine WL_q rfl (ev_loads st40 sz40 rfl (cellsB hB3) rfl) ?_
            refine WL_q rfl (ev_move rfl) ?_
            refine WL_q rfl (ev_move rfl) ?_
            refine WL_m rfl (ev_call rfl (maClause_spec h m _ _ _ _ _ hM (by assumption) (by omega) (by omega) (by omega) (by assumption))) ?_
            rintro _ w44 ⟨rfl, hE44⟩
            have hz44 := hE44.size
            replace hE := hE.trans hE44
            replace hM := hM.ext hE44
            replace hx := hx.ext hE44
            replace hB3 := hB3.ext hE44
            refine WL_q rfl (ev_assign rfl) ?_
            refine WL_q rfl (ev_assign rfl) ?_
            refine WL_nil ?_
            refine thenE_n ?_
            refine W_ret ?_
            refine ret2 rfl rfl rfl ?_
            first | (exact ⟨_, _, rfl, .inr ⟨fun hk => hp9 hk.1.1, rfl, rfl⟩, hE⟩) | (exact ⟨_, _, rfl, .inr ⟨fun hk => hp16 hk.1.2.1, rfl, rfl⟩, hE⟩) | (refine ⟨_, _, rfl, .inr ⟨fun hk => ?_, rfl, rfl⟩, hE⟩; have := hk.1.2.2.1; omega) | (exact ⟨_, _, rfl, .inr ⟨fun hk => tf hg31 hk.1.2.2.2, rfl, rfl⟩, hE⟩) | (exact ⟨_, _, rfl, .inr ⟨fun hk => absurd hk.2 (by omega), rfl, rfl⟩, hE⟩) | (exact ⟨_, _, rfl, .inl ⟨⟨hp9, hp16, by omega, hg31⟩, by omega, rfl, rfl⟩, hE⟩)

set_option maxRecDepth 100000 in
theorem law_ClauseFor (h : MA) (m : Mach) (s : Int) (a2 : Option Addr) (c2 : Nat) (x : List Int) (w : World) (hM : IsMach 0 w.heap.size w h m) (hs : SmM m) (hx : Ints 0 w.heap.size w a2 c2 x) :
    Fn Try.prog 7 #[machV h m, VI s, .slice a2 x.length c2] w (fun v w' => v = VB true ∧ Ext w w') := by
  have hE := Ext.refl w
  refine Fn_of Try.func7 rfl rfl (by kernel_rfl) rfl ?_
  refine W_seq ?_
  refine W_region ?_
  refine WL_m rfl (ev_box rfl) ?_
  rintro _ w3 ⟨rfl, hN3⟩
  have hz3 := hN3.size
  replace hE := hE.trans hN3.ext
  replace hM := hM.ext hN3.ext
  replace hx := hx.ext hN3.ext
  have hB3 : Blk w3 _ _ [_, _, _, _, _, _, _] := hN3.blk
  refine WL_q rfl (ev_assign rfl) ?_
  refine WL_nil ?_
  refine thenE_n ?_
  refine W_seq ?_
  refine W_seq ?_
  refine W_region ?_
  refine WL_q rfl (ev_move rfl) ?_
  refine WL_q rfl (ev_len Try.underlying33 rfl) ?_
  refine WL_q rfl (ev_gtr rfl rfl) ?_
  refine WL_nil ?_
  refine thenE_n ?_
  refine W_cond rfl (fun hg16 => ?_) (fun hg16 => ?_)
  · have hp16 := of_decide_eq_true hg16
    refine W_seq ?_
    refine W_region ?_
    refine WL_q rfl (ev_assign rfl) ?_
    refine WL_nil ?_
    refine thenE_n ?_
    refine W_ret ?_
    refine thenE_r ?_
    refine ret1 rfl rfl ?_
    first | (exact ⟨rfl, hE⟩) | (exact absurd hdet.1 hp44) | (exact (bneE hg48 hdet.2).elim) | (exact (decF hg58).elim) | (exact (by simp at hg53))
  · have hp16 := of_decide_eq_false hg16
    refine W_skip ?_
    refine thenE_n ?_
    refine W_seq ?_
    refine W_region ?_
    refine WL_q rfl (ev_assign rfl) ?_
    refine WL_nil ?_
    refine thenE_n ?_
    refine W_seq ?_
    refine W_region ?_
    refine WL_q rfl (ev_loads st35 sz35 rfl (cellsB hB3) rfl) ?_
    refine WL_q rfl (ev_move rfl) ?_
    refine WL_m rfl (ev_call rfl (szMachine_spec h m _ _ hM (by omega) hs)) ?_
    rintro _ w19 ⟨r19, rfl, hE19, hr19⟩
    have hz19 := hE19.size
    replace hE := hE.trans hE19
    replace hM := hM.ext hE19
    replace hx := hx.ext hE19
    replace hB3 := hB3.ext hE19
    refine WL_q rfl (ev_assign rfl) ?_
    refine WL_nil ?_
    refine thenE_n ?_
    refine W_seq ?_
    refine W_seq ?_
    refine W_region ?_
    refine WL_q rfl (ev_move rfl) ?_
    refine WL_q rfl (ev_lss rfl rfl) ?_
    refine WL_nil ?_
    refine thenE_n ?_
    refine W_cond rfl (fun hg21 => ?_) (fun hg21 => ?_)
    · have hp21 := of_decide_eq_true hg21
      refine W_seq ?_
      refine W_region ?_
      refine WL_q rfl (ev_assign rfl) ?_
      refine WL_nil ?_
      refine thenE_n ?_
      refine W_ret ?_
      refine thenE_r ?_
      refine ret1 rfl rfl ?_
      first | (exact ⟨rfl, hE⟩) | (exact absurd hdet.1 hp44) | (exact (bneE hg48 hdet.2).elim) | (exact (decF hg58).elim) | (exact (by simp at hg53))
    · have hp21 := of_decide_eq_false hg21
      refine W_skip ?_
      refine thenE_n ?_
      refine W_seq ?_
      refine W_region ?_
      refine WL_q rfl (ev_loads st35 sz35 rfl (cellsB hB3) rfl) ?_
      refine WL_m rfl (ev_call rfl (toMachine_spec h m _ hM (by omega) (by omega))) ?_
      rintro _ w24 ⟨h24, rfl, hF24, hE24⟩
      have hz24 := hE24.size
      replace hE := hE.trans hE24
      replace hM := hM.ext hE24
      replace hx := hx.ext hE24
      replace hB3 := hB3.ext hE24
      have hM24 := hF24.is
      refine WL_q rfl (ev_move rfl) ?_
      refine WL_q rfl (ev_move rfl) ?_
      refine WL_m rfl (ev_call rfl (toIntS_spec _ _ _ _ (by assumption) (by omega) (by omega))) ?_
      rintro _ w27 ⟨a27, rfl, hF27, hE27⟩
      have hz27 := hE27.size
      replace hE := hE.trans hE27
      replace hM := hM.ext hE27
      replace hx := hx.ext hE27
      replace hB3 := hB3.ext hE27
      replace hF24 := hF24.ext hE27
      replace hM24 := hM24.ext hE27
      have hx27 := hF27.is
      refine WL_m rfl (ev_call rfl (sClauseFor_spec h24 m s _ _ x _ hM24 hx27 (by omega) (by omega) (by omega) (by omega))) ?_
      rintro _ w28 ⟨r28, q28, rfl, hr28, hE28⟩
      have hz28 := hE28.size
      replace hE := hE.trans hE28
      replace hM := hM.ext hE28
      replace hx := hx.ext hE28
      replace hB3 := hB3.ext hE28
      replace hF24 := hF24.ext hE28
      replace hM24 := hM24.ext hE28
      replace hF27 := hF27.ext hE28
      replace hx27 := hx27.ext hE28
      refine WL_q rfl (ev_move rfl) ?_
      refine WL_q rfl (ev_extract rfl rfl) ?_
      refine WL_q rfl (ev_extract rfl rfl) ?_
      refine WL_q rfl (ev_assign rfl) ?_
      refine WL_q rfl (ev_assign rfl) ?_
      refine WL_nil ?_
      refine thenE_n ?_
      refine W_seq ?_
      refine W_region ?_
      refine WL_q rfl (ev_loads st35 sz35 rfl (cellsB hB3) rfl) ?_
      refine WL_m rfl (ev_call rfl (toMachine_spec h m _ hM (by omega) (by omega))) ?_
      rintro _ w32 ⟨h32, rfl, hF32, hE32⟩
      have hz32 := hE32.size
      replace hE := hE.trans hE32
      replace hM := hM.ext hE32
      replace hx := hx.ext hE32
      replace hB3 := hB3.ext hE32
      replace hF24 := hF24.ext hE32
      replace hM24 := hM24.ext hE32
      replace hF27 := hF27.ext hE32
      replace hx27 := hx27.ext hE32
      have hM32 := hF32.is
      refine WL_m rfl (ev_alloc zr40) ?_
      rintro _ w10 ⟨rfl, hN10⟩
      have hz10 := hN10.size
      replace hE := hE.trans hN10.ext
      replace hM := hM.ext hN10.ext
      replace hx := hx.ext hN10.ext
      replace hB3 := hB3.ext hN10.ext
      replace hF24 := hF24.ext hN10.ext
      replace hM24 := hM24.ext hN10.ext
      replace hF27 := hF27.ext hN10.ext
      replace hx27 := hx27.ext hN10.ext
      replace hF32 := hF32.ext hN10.ext
      replace hM32 := hM32.ext hN10.ext
      have hB10 : Blk w10 _ _ [_, _, _, _, _, _, _] := hN10.blk
      refine WL_s (ev_stores sz40 rfl rfl rfl (by simp [Value.oneCell']) hB10 (by simp)) ?_
      rintro _ w8_3 hS8_3
      have hz8_3 := hS8_3.size
      replace hE := hE.sto hS8_3 (by omega)
      replace hM := hM.sto hS8_3 (by omega)
      replace hx := hx.sto hS8_3 (by omega)
      replace hB3 := hB3.sto hS8_3 (by omega)
      replace hF24 := hF24.sto hS8_3 (by omega)
      replace hM24 := hM24.sto hS8_3 (by omega)
      replace hF27 := hF27.sto hS8_3 (by omega)
      replace hx27 := hx27.sto hS8_3 (by omega)
      replace hF32 := hF32.sto hS8_3 (by omega)
      replace hM32 := hM32.sto hS8_3 (by omega)
      replace hB10 : Blk w8_3 _ _ [_, _, _, _, _, _, _] := hS8_3.blk
      refine WL_nil ?_
      refine thenE_n ?_
      refine W_seq ?_
      refine W_region ?_
      refine WL_q rfl (ev_move rfl) ?_
      refine WL_m rfl (ev_call rfl (toIntS_spec _ _ x _ hx (by omega) (by omega))) ?_
      rintro _ w34 ⟨a34, rfl, hF34, hE34⟩
      have hz34 := hE34.size
      replace hE := hE.trans hE34
      replace hM := hM.ext hE34
      replace hx := hx.ext hE34
      replace hB3 := hB3.ext hE34
      replace hF24 := hF24.ext hE34
      replace hM24 := hM24.ext hE34
      replace hF27 := hF27.ext hE34
      replace hx27 := hx27.ext hE34
      replace hF32 := hF32.ext hE34
      replace hM32 := hM32.ext hE34
      replace hB10 := hB10.ext hE34
      have hx34 := hF34.is
      refine WL_q rfl (ev_assign rfl) ?_
      refine WL_nil ?_
      refine thenE_n ?_
      refine W_seq ?_
      refine W_region ?_
      refine WL_q rfl (ev_loads st40 sz40 rfl (cellsB hB10) rfl) ?_
      refine WL_q rfl (ev_move rfl) ?_
      refine WL_q rfl (ev_move rfl) ?_
      refine WL_m rfl (ev_call rfl (ClauseFor_spec h32 m s _ _ x _ hM32 hx34 (by omega) (by omega) (by omega) (by omega))) ?_
      rintro _ w39 ⟨r39, q39, rfl, hr39, hE39⟩
      have hz39 := hE39.size
      replace hE := hE.trans hE39
      replace hM := hM.ext hE39
      replace hx := hx.ext hE39
      replace hB3 := hB3.ext hE39
      replace hF24 := hF24.ext hE39
      replace hM24 := hM24.ext hE39
      replace hF27 := hF27.ext hE39
      replace hx27 := hx27.ext hE39
      replace hF32 := hF32.ext hE39
      replace hM32 := hM32.ext hE39
      replace hB10 := hB10.ext hE39
      replace hF34 := hF34.ext hE39
      replace hx34 := hx34.ext hE39
      have hdet := hr39.det hr28
      refine WL_q rfl (ev_move rfl) ?_
      refine WL_q rfl (ev_extract rfl rfl) ?_
      refine WL_q rfl (ev_extract rfl rfl) ?_
      refine WL_q rfl (ev_assign rfl) ?_
      refine WL_q rfl (ev_assign rfl) ?_
      refine WL_nil ?_
      refine thenE_n ?_
      refine W_seq ?_
      refine W_seq ?_
      refine W_region ?_
      refine WL_q rfl (ev_move rfl) ?_
      refine WL_q rfl (ev_move rfl) ?_
      refine WL_q rfl (ev_neq rfl rfl) ?_
      refine WL_q rfl (ev_move rfl) ?_
      refine WL_splitv (t := 45) rfl (fun hg44 => ?_) (fun hg44 => ?_)
      · have hp44 := of_decide_eq_true hg44
        refine WL_no rfl rfl hg44 rfl ?_
        refine WL_no rfl rfl hg44 rfl ?_
        refine WL_no rfl rfl hg44 rfl ?_
        refine WL_q rfl (ev_pick_t rfl hg44 rfl) ?_
        refine WL_nil ?_
        refine thenE_n ?_
        refine W_cond_t rfl ?_
        refine W_seq ?_
        refine W_region ?_
        refine WL_q rfl (ev_assign rfl) ?_
        refine WL_nil ?_
        refine thenE_n ?_
        refine W_ret ?_
        refine thenE_r ?_
        refine ret1 rfl rfl ?_
        first | (exact ⟨rfl, hE⟩) | (exact absurd hdet.1 hp44) | (exact (bneE hg48 hdet.2).elim) | (exact (decF hg58).elim) | (exact (by simp at hg53))
      · have hp44 := of_decide_eq_false hg44
        refine WL_qg rfl rfl hg44 rfl (ev_move rfl) ?_
        refine WL_qg rfl rfl hg44 rfl (ev_move rfl) ?_
        refine WL_qg rfl rfl hg44 rfl (ev_neq_b Try.underlying4 rfl rfl) ?_
        refine WL_q rfl (ev_pick_f rfl hg44 rfl) ?_
        refine WL_nil ?_
        refine thenE_n ?_
        refine W_cond rfl (fun hg48 => ?_) (fun hg48 => ?_)
        · refine W_seq ?_
          refine W_region ?_
          refine WL_q rfl (ev_assign rfl) ?_
          refine WL_nil ?_
          refine thenE_n ?_
          refine W_ret ?_
          refine thenE_r ?_
          refine ret1 rfl rfl ?_
          first | (exact ⟨rfl, hE⟩) | (exact absurd hdet.1 hp44) | (exact (bneE hg48 hdet.2).elim) | (exact (decF hg58).elim) | (exact (by simp at hg53))
        · refine W_skip ?_
          refine thenE_n ?_
          refine W_seq ?_
          refine W_seq ?_
          refine W_drawE [(0, true), (1, true), (2, false), (3, false), (4, true)] mixed (by kernel_rfl) rfl (by kernel_rfl) ?_
          intro wd13 hEd13 hzd13
          replace hE := hE.trans hEd13
          replace hM := hM.ext hEd13
          replace hx := hx.ext hEd13
          replace hB3 := hB3.ext hEd13
          replace hF24 := hF24.ext hEd13
          replace hM24 := hM24.ext hEd13
          replace hF27 := hF27.ext hEd13
          replace hx27 := hx27.ext hEd13
          replace hF32 := hF32.ext hEd13
          replace hM32 := hM32.ext hEd13
          replace hB10 := hB10.ext hEd13
          replace hF34 := hF34.ext hEd13
          replace hx34 := hx34.ext hEd13
          have hDd13 := Ext.refl wd13
          refine PW_q rfl rfl (fun wq hq => ev_loads st40 sz40 rfl (cellsB (hq.blk hB10)) rfl) ?_
          refine PW_q rfl rfl (fun wq hq => ev_loads st35 sz35 rfl (cellsB (hq.blk hB3)) rfl) ?_
          refine PW_m rfl rfl (ev_call rfl (toMachine_spec h m _ (by assumption) (by omega) (by omega))) ?_
          rintro _ w52 ⟨h52, rfl, hF52, hE52⟩
          have hz52 := hE52.size
          replace hE := hE.trans hE52
          replace hDd13 := hDd13.trans hE52
          have hM52 := hF52.is
          refine ⟨hDd13, ?_⟩
          have hM_3 := hM.ext hDd13
          have hx_3 := hx.ext hDd13
          have hB3_3 := hB3.ext hDd13
          have hF24_3 := hF24.ext hDd13
          have hM24_3 := hM24.ext hDd13
          have hF27_3 := hF27.ext hDd13
          have hx27_3 := hx27.ext hDd13
          have hF32_3 := hF32.ext hDd13
          have hM32_3 := hM32.ext hDd13
          have hB10_3 := hB10.ext hDd13
          have hF34_3 := hF34.ext hDd13
          have hx34_3 := hx34.ext hDd13
          refine PW_m rfl rfl (ev_call rfl (eqMachine_spec h32 h52 m _ (by assumption) (by assumption) (by omega))) ?_
          rintro _ w53 ⟨rfl, hE53⟩
          have hz53 := hE53.size
          replace hE := hE.trans hE53
          replace hDd13 := hDd13.trans hE53
          replace hF52 := hF52.ext hE53
          refine ⟨hDd13, ?_⟩
          refine PW_q rfl rfl (fun wq hq => ev_not rfl) ?_
          replace hM := hM.ext hDd13
          replace hx := hx.ext hDd13
          replace hB3 := hB3.ext hDd13
          replace hF24 := hF24.ext hDd13
          replace hM24 := hM24.ext hDd13
          replace hF27 := hF27.ext hDd13
          replace hx27 := hx27.ext hDd13
          replace hF32 := hF32.ext hDd13
          replace hM32 := hM32.ext hDd13
          replace hB10 := hB10.ext hDd13
          replace hF34 := hF34.ext hDd13
          replace hx34 := hx34.ext hDd13
          refine PW_nil ?_
          refine thenE_n ?_
          refine W_cond rfl (fun hg54 => ?_) (fun hg54 => ?_)
          · have hg53 := not_true hg54
            refine W_seq ?_
            refine W_region ?_
            refine WL_q rfl (ev_assign rfl) ?_
            refine WL_nil ?_
            refine thenE_n ?_
            refine W_ret ?_
            refine thenE_r ?_
            refine ret1 rfl rfl ?_
            first | (exact ⟨rfl, hE⟩) | (exact absurd hdet.1 hp44) | (exact (bneE hg48 hdet.2).elim) | (exact (decF hg58).elim) | (exact (by simp at hg53))
          · have hg53 := not_false hg54
            refine W_skip ?_
            refine thenE_n ?_
            refine W_seq ?_
            refine W_seq ?_
            refine W_region ?_
            refine WL_q rfl (ev_move rfl) ?_
            refine WL_q rfl (ev_move rfl) ?_
            refine WL_m rfl (ev_call rfl (toIntS_spec _ _ x _ hx (by omega) (by omega))) ?_
            rintro _ w57 ⟨a57, rfl, hF57, hE57⟩
            have hz57 := hE57.size
            replace hE := hE.trans hE57
            replace hM := hM.ext hE57
            replace hx := hx.ext hE57
            replace hB3 := hB3.ext hE57
            replace hF24 := hF24.ext hE57
            replace hM24 := hM24.ext hE57
            replace hF27 := hF27.ext hE57
            replace hx27 := hx27.ext hE57
            replace hF32 := hF32.ext hE57
            replace hM32 := hM32.ext hE57
            replace hB10 := hB10.ext hE57
            replace hF34 := hF34.ext hE57
            replace hx34 := hx34.ext hE57
            replace hF52 := hF52.ext hE57
            have hx57 := hF57.is
            refine WL_m rfl (ev_call rfl (eqIntS_spec _ _ _ _ x x _ hx34 hx57 (by omega))) ?_
            rintro _ w58 ⟨rfl, hE58⟩
            have hz58 := hE58.size
            replace hE := hE.trans hE58
            replace hM := hM.ext hE58
            replace hx := hx.ext hE58
            replace hB3 := hB3.ext hE58
            replace hF24 := hF24.ext hE58
            replace hM24 := hM24.ext hE58
            replace hF27 := hF27.ext hE58
            replace hx27 := hx27.ext hE58
            replace hF32 := hF32.ext hE58
            replace hM32 := hM32.ext hE58
            replace hB10 := hB10.ext hE58
            replace hF34 := hF34.ext hE58
            replace hx34 := hx34.ext hE58
            replace hF52 := hF52.ext hE58
            replace hF57 := hF57.ext hE58
            refine WL_q rfl (ev_not rfl) ?_
            refine WL_nil ?_
            refine thenE_n ?_
            refine W_cond rfl (fun hg59 => ?_) (fun hg59 => ?_)
            · have hg58 := not_true hg59
              refine W_seq ?_
              refine W_region ?_
              refine WL_q rfl (ev_assign rfl) ?_
              refine WL_nil ?_
              refine thenE_n ?_
              refine W_ret ?_
              refine thenE_r ?_
              refine ret1 rfl rfl ?_
              first | (exact ⟨rfl, hE⟩) | (exact absurd hdet.1 hp44) | (exact (bneE hg48 hdet.2).elim) | (exact (decF hg58).elim) | (exact (by simp at hg53))
            · have hg58 := not_false hg59
              refine W_skip ?_
              refine thenE_n ?_
              refine W_seq ?_
              refine W_region ?_
              refine WL_q rfl (ev_assign rfl) ?_
              refine WL_nil ?_
              refine thenE_n ?_
              refine W_ret ?_
              refine ret1 rfl rfl ?_
              first | (exact ⟨rfl, hE⟩) | (exact absurd hdet.1 hp44) | (exact (bneE hg48 hdet.2).elim) | (exact (decF hg58).elim) | (exact (by simp at hg53))

theorem dummyClauseFor : True := trivial

end Go.Proofs.Ytjhgpcbbmhdojaa
