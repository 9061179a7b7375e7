/- Contracts of ClauseFor, of the program and of the reference, and of what they call; the walk of FnExactClauseFor. -/
import Derived.Test.YtebjcbgencenbaaGreatMachine
namespace Go.Proofs.YtebjcbgencenbaaGreat
open Go Go.RowKit

/-- A clause fits a state and an inbox. -/
def CFit (c : Cl) (s : Int) (x : List Int) : Prop := c.1 = s ∧ c.2.1.length = x.length ∧ ∀ j (h1 : j < c.2.1.length) (h2 : j < x.length), c.2.1[j] = -1 ∨ c.2.1[j] = x[j]
open Classical in
noncomputable def cfit (s : Int) (x : List Int) (c : Cl) : Bool := decide (CFit c s x)
theorem cfit_true {c : Cl} {s : Int} {x : List Int} : cfit s x c = true ↔ CFit c s x := by simp [cfit]
theorem cfit_yes {c : Cl} {s : Int} {x : List Int} (h : CFit c s x) : true = cfit s x c := (cfit_true.2 h).symm
theorem cfit_no {c : Cl} {s : Int} {x : List Int} (h : ¬ CFit c s x) : false = cfit s x c := by
  cases hb : cfit s x c
  · rfl
  · exact absurd (cfit_true.1 hb) h
/-- What ClauseFor returns. -/
def CFOk (m : Mach) (s : Int) (x : List Int) : Prop := MOk m ∧ (0 ≤ s ∧ s ≤ m.states - 1) ∧ (x.length : Int) ≤ m.deg ∧ allR x 0 (m.msgs - 1) = true
def CFR (m : Mach) (s : Int) (x : List Int) (r : Int) (b : Bool) : Prop :=
  (CFOk m s x ∧ 0 ≤ idxF (cfit s x) m.clauses ∧ r = idxF (cfit s x) m.clauses ∧ b = true) ∨ (¬ (CFOk m s x ∧ 0 ≤ idxF (cfit s x) m.clauses) ∧ r = 0 ∧ b = false)
theorem CFR.det {m : Mach} {s : Int} {x : List Int} {r r' : Int} {b b' : Bool} (h : CFR m s x r b) (k : CFR m s x r' b') : r = r' ∧ b = b' := by
  rcases h with ⟨h1, h2, h3, h4⟩ | ⟨h1, h3, h4⟩ <;> rcases k with ⟨k1, k2, k3, k4⟩ | ⟨k1, k3, k4⟩
  · exact ⟨by omega, by rw [h4, k4]⟩
  · exact absurd ⟨h1, h2⟩ k1
  · exact absurd ⟨k1, k2⟩ h1
  · exact ⟨by omega, by rw [h4, k4]⟩

set_option maxRecDepth 100000 in
theorem clauseFor_1 {lo hi lo2 hi2 : Nat} (a a2 : Option Addr) (c c2 : Nat) (cl : Cl) (s : Int) (x : List Int) (b1 b2 : Nat) (T1 T2 : TypeId) (w : World) (hc : Ints lo hi w a c cl.2.1) (hx : Ints lo2 hi2 w a2 c2 x) (h1 : Blk w b1 T1 [VI s]) (h2 : Blk w b2 T2 [.slice a2 x.length c2]) (hm : (cl.2.1.length : Int) < 9223372036854775807) :
    Fn Tryz.prog 80 #[.agg #[VI cl.1, .slice a cl.2.1.length c, VI cl.2.2], ptr b1 0, ptr b2 0] w (fun v w' => v = VB (cfit s x cl) ∧ Ext w w') := by
  have hE := Ext.refl w
  refine Fn_of Tryz.func80 rfl rfl (by kernel_rfl) rfl ?_
  refine W_seq ?_
  refine W_region ?_
  refine WL_m rfl (ev_box rfl) ?_
  rintro _ w3 ⟨rfl, hN3⟩
  have hz3 := hN3.size
  replace hE := hE.trans hN3.ext
  replace hc := hc.ext hN3.ext
  replace hx := hx.ext hN3.ext
  replace h1 := h1.ext hN3.ext
  replace h2 := h2.ext hN3.ext
  have hB3 : Blk w3 _ _ [_, _, _] := hN3.blk
  refine WL_q rfl (ev_assign rfl) ?_
  refine WL_nil ?_
  refine thenE_n ?_
  refine W_seq ?_
  refine W_seq ?_
  refine W_region ?_
  refine WL_q rfl (ev_fieldAddr fo78_0 rfl) ?_
  refine WL_q rfl (ev_load one3 rfl (hB3.cell rfl)) ?_
  refine WL_q rfl (ev_load one3 rfl (h1.cell rfl)) ?_
  refine WL_q rfl (ev_neq rfl rfl) ?_
  refine WL_q rfl (ev_move rfl) ?_
  refine WL_splitv (t := 11) rfl (fun hg10 => ?_) (fun hg10 => ?_)
  · have hp10 := of_decide_eq_true hg10
    refine WL_no rfl rfl hg10 rfl ?_
    refine WL_no rfl rfl hg10 rfl ?_
    refine WL_no rfl rfl hg10 rfl ?_
    refine WL_no rfl rfl hg10 rfl ?_
    refine WL_no rfl rfl hg10 rfl ?_
    refine WL_no rfl rfl hg10 rfl ?_
    refine WL_q rfl (ev_pick_t rfl hg10 rfl) ?_
    refine WL_nil ?_
    refine thenE_n ?_
    refine W_cond_t rfl ?_
    refine W_seq ?_
    refine W_region ?_
    refine WL_q rfl (ev_assign rfl) ?_
    refine WL_nil ?_
    refine thenE_n ?_
    refine W_ret ?_
    refine thenE_r ?_
    refine ret1 rfl rfl ?_
    first | (exact ⟨vb (cfit_no fun h => hp10 h.1), hE⟩) | (exact ⟨vb (cfit_no fun h => hp17 (congrArg (Nat.cast : Nat → Int) h.2.1)), hE⟩) | (refine ⟨vb (cfit_no fun h => ?_), hE⟩; have := h.2.2 i (by omega) (by omega); omega) | (exact ⟨vb (cfit_yes ⟨by omega, by omega, fun j h1 h2 => hJ j (by omega) h1 h2⟩), hE⟩)
  · have hp10 := of_decide_eq_false hg10
    refine WL_qg rfl rfl hg10 rfl (ev_fieldAddr fo78_1 rfl) ?_
    refine WL_qg rfl rfl hg10 rfl (ev_load one24 rfl (hB3.cell rfl)) ?_
    refine WL_qg rfl rfl hg10 rfl (ev_len Tryz.underlying24 rfl) ?_
    refine WL_qg rfl rfl hg10 rfl (ev_load one24 rfl (h2.cell rfl)) ?_
    refine WL_qg rfl rfl hg10 rfl (ev_len Tryz.underlying24 rfl) ?_
    refine WL_qg rfl rfl hg10 rfl (ev_neq rfl rfl) ?_
    refine WL_q rfl (ev_pick_f rfl hg10 rfl) ?_
    refine WL_nil ?_
    refine thenE_n ?_
    refine W_cond rfl (fun hg17 => ?_) (fun hg17 => ?_)
    · have hp17 := of_decide_eq_true hg17
      refine W_seq ?_
      refine W_region ?_
      refine WL_q rfl (ev_assign rfl) ?_
      refine WL_nil ?_
      refine thenE_n ?_
      refine W_ret ?_
      refine thenE_r ?_
      refine ret1 rfl rfl ?_
      first | (exact ⟨vb (cfit_no fun h => hp10 h.1), hE⟩) | (exact ⟨vb (cfit_no fun h => hp17 (congrArg (Nat.cast : Nat → Int) h.2.1)), hE⟩) | (refine ⟨vb (cfit_no fun h => ?_), hE⟩; have := h.2.2 i (by omega) (by omega); omega) | (exact ⟨vb (cfit_yes ⟨by omega, by omega, fun j h1 h2 => hJ j (by omega) h1 h2⟩), hE⟩)
    · have hp17 := of_decide_eq_false hg17
      refine W_skip ?_
      refine thenE_n ?_
      refine W_seq ?_
      refine W_seq ?_
      refine W_region ?_
      refine WL_q rfl (ev_fieldAddr fo78_1 rfl) ?_
      refine WL_q rfl (ev_load one24 rfl (hB3.cell rfl)) ?_
      refine WL_q rfl (ev_len Tryz.underlying24 rfl) ?_
      refine WL_q rfl (ev_move rfl) ?_
      refine WL_nil ?_
      refine thenE_n ?_
      refine W_block ?_
      refine W_loopC (G := Nat) [(2, _), (20, _), (21, _)] ((Subs.c rfl (Subs.c rfl (Subs.c rfl Subs.n)))) (fun i => [(22, VI (i : Int))]) (fun i w' => Ext w3 w' ∧ i ≤ cl.2.1.length ∧ ∀ j (_h : j < i) (h1 : j < cl.2.1.length) (h2 : j < x.length), cl.2.1[j] = -1 ∨ cl.2.1[j] = x[j]) (fun i => cl.2.1.length - i) 0 ((Subs.c (lkI rfl (by omega)) Subs.n)) (⟨Ext.refl _, ⟨by omega, fun j h => by omega⟩⟩) ?_
      rintro i wL0 ⟨hRL0, hi, hJ⟩
      have hzL0 := hRL0.size
      replace hE := hE.trans hRL0
      replace hc := hc.ext hRL0
      replace hx := hx.ext hRL0
      replace h1 := h1.ext hRL0
      replace h2 := h2.ext hRL0
      replace hB3 := hB3.ext hRL0
      refine W_seq ?_
      refine W_region ?_
      refine WL_q rfl (ev_lss rfl rfl) ?_
      refine WL_nil ?_
      refine thenE_n ?_
      refine W_seq ?_
      refine W_cond rfl (fun hg23 => ?_) (fun hg23 => ?_)
      · have hp23 := of_decide_eq_true hg23
        refine W_skip ?_
        refine thenE_n ?_
        refine W_seq ?_
        refine W_block ?_
        refine W_seq ?_
        refine W_region ?_
        refine WL_q rfl (ev_move rfl) ?_
        refine WL_q rfl (ev_indexAddr Tryz.underlying24 sz3 rfl rfl (hc.isSome (by omega)) (by omega) (by omega)) ?_
        refine WL_q rfl (ev_load one3 rfl (hc.cell (i := i) (by omega))) ?_
        refine WL_q rfl (ev_assign rfl) ?_
        refine WL_q rfl (ev_assign rfl) ?_
        refine WL_nil ?_
        refine thenE_n ?_
        refine W_seq ?_
        refine W_region ?_
        refine WL_q rfl (ev_move rfl) ?_
        refine WL_q rfl (ev_neq rfl rfl) ?_
        refine WL_q rfl (ev_move rfl) ?_
        refine WL_splitv (t := 29) rfl (fun hg28 => ?_) (fun hg28 => ?_)
        · have hp28 := of_decide_eq_true hg28
          refine WL_qg rfl rfl hg28 rfl (ev_move rfl) ?_
          refine WL_qg rfl rfl hg28 rfl (ev_load one24 rfl (h2.cell rfl)) ?_
          refine WL_qg rfl rfl hg28 rfl (ev_move rfl) ?_
          refine WL_qg rfl rfl hg28 rfl (ev_indexAddr Tryz.underlying24 sz3 rfl rfl (hx.isSome (by omega)) (by omega) (by omega)) ?_
          refine WL_qg rfl rfl hg28 rfl (ev_load one3 rfl (hx.cell (i := i) (by omega))) ?_
          refine WL_qg rfl rfl hg28 rfl (ev_neq rfl rfl) ?_
          refine WL_q rfl (ev_pick_t rfl hg28 rfl) ?_
          refine WL_nil ?_
          refine thenE_n ?_
          refine W_cond rfl (fun hg35 => ?_) (fun hg35 => ?_)
          · have hp35 := of_decide_eq_true hg35
            refine W_seq ?_
            refine W_region ?_
            refine WL_q rfl (ev_assign rfl) ?_
            refine WL_nil ?_
            refine thenE_n ?_
            refine W_ret ?_
            refine blockE_r ?_
            refine thenE_r ?_
            refine thenE_r ?_
            refine blockE_r ?_
            refine thenE_r ?_
            refine ret1 rfl rfl ?_
            first | (exact ⟨vb (cfit_no fun h => hp10 h.1), hE⟩) | (exact ⟨vb (cfit_no fun h => hp17 (congrArg (Nat.cast : Nat → Int) h.2.1)), hE⟩) | (refine ⟨vb (cfit_no fun h => ?_), hE⟩; have := h.2.2 i (by omega) (by omega); omega) | (exact ⟨vb (cfit_yes ⟨by omega, by omega, fun j h1 h2 => hJ j (by omega) h1 h2⟩), hE⟩)
          · have hp35 := of_decide_eq_false hg35
            refine W_skip ?_
            refine blockE_n ?_
            refine thenE_n ?_
            refine W_region ?_
            refine WL_q rfl (ev_add rfl rfl (by omega)) ?_
            refine WL_q rfl (ev_move rfl) ?_
            refine WL_nil ?_
            refine thenE_n ?_
            exact ⟨i + 1, (Subs.c rfl (Subs.c rfl (Subs.c rfl Subs.n))), (Subs.c (lkI rfl (by omega)) Subs.n), ⟨hRL0, ⟨by omega, fun j h1 h2 h3 => by
    by_cases hj : j = i
    · subst hj; omega
    · exact hJ j (by omega) h2 h3⟩⟩, by first | omega | (dsimp only; omega)⟩
        · have hp28 := of_decide_eq_false hg28
          refine WL_no rfl rfl hg28 rfl ?_
          refine WL_no rfl rfl hg28 rfl ?_
          refine WL_no rfl rfl hg28 rfl ?_
          refine WL_no rfl rfl hg28 rfl ?_
          refine WL_no rfl rfl hg28 rfl ?_
          refine WL_no rfl rfl hg28 rfl ?_
          refine WL_q rfl (ev_pick_f rfl hg28 rfl) ?_
          refine WL_nil ?_
          refine thenE_n ?_
          refine W_cond_f rfl ?_
          refine W_skip ?_
          refine blockE_n ?_
          refine thenE_n ?_
          refine W_region ?_
          refine WL_q rfl (ev_add rfl rfl (by omega)) ?_
          refine WL_q rfl (ev_move rfl) ?_
          refine WL_nil ?_
          refine thenE_n ?_
          exact ⟨i + 1, (Subs.c rfl (Subs.c rfl (Subs.c rfl Subs.n))), (Subs.c (lkI rfl (by omega)) Subs.n), ⟨hRL0, ⟨by omega, fun j h1 h2 h3 => by
    by_cases hj : j = i
    · subst hj; omega
    · exact hJ j (by omega) h2 h3⟩⟩, by first | omega | (dsimp only; omega)⟩
      · have hp23 := of_decide_eq_false hg23
        refine W_exit ?_
        refine thenE_x ?_
        refine thenE_x ?_
        refine blockE_hit ?_
        refine thenE_n ?_
        refine W_seq ?_
        refine W_region ?_
        refine WL_q rfl (ev_assign rfl) ?_
        refine WL_nil ?_
        refine thenE_n ?_
        refine W_ret ?_
        refine ret1 rfl rfl ?_
        first | (exact ⟨vb (cfit_no fun h => hp10 h.1), hE⟩) | (exact ⟨vb (cfit_no fun h => hp17 (congrArg (Nat.cast : Nat → Int) h.2.1)), hE⟩) | (refine ⟨vb (cfit_no fun h => ?_), hE⟩; have := h.2.2 i (by omega) (by omega); omega) | (exact ⟨vb (cfit_yes ⟨by omega, by omega, fun j h1 h2 => hJ j (by omega) h1 h2⟩), hE⟩)

set_option maxRecDepth 100000 in
theorem maFits_spec {lo hi lo2 hi2 : Nat} (a a2 : Option Addr) (c c2 : Nat) (cl : Cl) (s : Int) (x : List Int) (w : World) (hc : Ints lo hi w a c cl.2.1) (hx : Ints lo2 hi2 w a2 c2 x) (hm : (cl.2.1.length : Int) < 9223372036854775807) (hp : ∀ y ∈ cl.2.1, -1 ≤ y) :
    Fn Tryz.prog 73 #[.agg #[VI cl.1, .slice a cl.2.1.length c, VI cl.2.2], VI s, .slice a2 x.length c2] w (fun v w' => v = VB (cfit s x cl) ∧ Ext w w') := by
  have hE := Ext.refl w
  refine Fn_of Tryz.func73 rfl rfl (by kernel_rfl) rfl ?_
  refine W_seq ?_
  refine W_region ?_
  refine WL_m rfl (ev_box rfl) ?_
  rintro _ w3 ⟨rfl, hN3⟩
  have hz3 := hN3.size
  replace hE := hE.trans hN3.ext
  replace hc := hc.ext hN3.ext
  replace hx := hx.ext hN3.ext
  have hB3 : Blk w3 _ _ [_, _, _] := hN3.blk
  refine WL_q rfl (ev_assign rfl) ?_
  refine WL_nil ?_
  refine thenE_n ?_
  refine W_seq ?_
  refine W_seq ?_
  refine W_region ?_
  refine WL_q rfl (ev_fieldAddr fo78_0 rfl) ?_
  refine WL_q rfl (ev_load one3 rfl (hB3.cell rfl)) ?_
  refine WL_q rfl (ev_move rfl) ?_
  refine WL_q rfl (ev_neq rfl rfl) ?_
  refine WL_q rfl (ev_move rfl) ?_
  refine WL_splitv (t := 13) rfl (fun hg12 => ?_) (fun hg12 => ?_)
  · have hp12 := of_decide_eq_true hg12
    refine WL_no rfl rfl hg12 rfl ?_
    refine WL_no rfl rfl hg12 rfl ?_
    refine WL_no rfl rfl hg12 rfl ?_
    refine WL_no rfl rfl hg12 rfl ?_
    refine WL_no rfl rfl hg12 rfl ?_
    refine WL_no rfl rfl hg12 rfl ?_
    refine WL_q rfl (ev_pick_t rfl hg12 rfl) ?_
    refine WL_nil ?_
    refine thenE_n ?_
    refine W_cond_t rfl ?_
    refine W_seq ?_
    refine W_region ?_
    refine WL_q rfl (ev_assign rfl) ?_
    refine WL_nil ?_
    refine thenE_n ?_
    refine W_ret ?_
    refine thenE_r ?_
    refine ret1 rfl rfl ?_
    first | (exact ⟨vb (cfit_no fun h => hp12 h.1), hE⟩) | (exact ⟨vb (cfit_no fun h => hp19 (congrArg (Nat.cast : Nat → Int) h.2.1)), hE⟩) | (refine ⟨vb (cfit_no fun h => ?_), hE⟩; have := h.2.2 i (by omega) (by omega); omega) | (exact ⟨vb (cfit_yes ⟨by omega, by omega, fun j h1 h2 => hJ j (by omega) h1 h2⟩), hE⟩)
  · have hp12 := of_decide_eq_false hg12
    refine WL_qg rfl rfl hg12 rfl (ev_fieldAddr fo78_1 rfl) ?_
    refine WL_qg rfl rfl hg12 rfl (ev_load one24 rfl (hB3.cell rfl)) ?_
    refine WL_qg rfl rfl hg12 rfl (ev_len Tryz.underlying24 rfl) ?_
    refine WL_qg rfl rfl hg12 rfl (ev_move rfl) ?_
    refine WL_qg rfl rfl hg12 rfl (ev_len Tryz.underlying24 rfl) ?_
    refine WL_qg rfl rfl hg12 rfl (ev_neq rfl rfl) ?_
    refine WL_q rfl (ev_pick_f rfl hg12 rfl) ?_
    refine WL_nil ?_
    refine thenE_n ?_
    refine W_cond rfl (fun hg19 => ?_) (fun hg19 => ?_)
    · have hp19 := of_decide_eq_true hg19
      refine W_seq ?_
      refine W_region ?_
      refine WL_q rfl (ev_assign rfl) ?_
      refine WL_nil ?_
      refine thenE_n ?_
      refine W_ret ?_
      refine thenE_r ?_
      refine ret1 rfl rfl ?_
      first | (exact ⟨vb (cfit_no fun h => hp12 h.1), hE⟩) | (exact ⟨vb (cfit_no fun h => hp19 (congrArg (Nat.cast : Nat → Int) h.2.1)), hE⟩) | (refine ⟨vb (cfit_no fun h => ?_), hE⟩; have := h.2.2 i (by omega) (by omega); omega) | (exact ⟨vb (cfit_yes ⟨by omega, by omega, fun j h1 h2 => hJ j (by omega) h1 h2⟩), hE⟩)
    · have hp19 := of_decide_eq_false hg19
      refine W_skip ?_
      refine thenE_n ?_
      refine W_seq ?_
      refine W_seq ?_
      refine W_region ?_
      refine WL_q rfl (ev_fieldAddr fo78_1 rfl) ?_
      refine WL_q rfl (ev_load one24 rfl (hB3.cell rfl)) ?_
      refine WL_q rfl (ev_len Tryz.underlying24 rfl) ?_
      refine WL_q rfl (ev_move rfl) ?_
      refine WL_nil ?_
      refine thenE_n ?_
      refine W_block ?_
      refine W_loopC (G := Nat) [(2, _), (22, _), (23, _)] ((Subs.c rfl (Subs.c rfl (Subs.c rfl Subs.n)))) (fun i => [(24, VI (i : Int))]) (fun i w' => Ext w3 w' ∧ i ≤ cl.2.1.length ∧ ∀ j (_h : j < i) (h1 : j < cl.2.1.length) (h2 : j < x.length), cl.2.1[j] = -1 ∨ cl.2.1[j] = x[j]) (fun i => cl.2.1.length - i) 0 ((Subs.c (lkI rfl (by omega)) Subs.n)) (⟨Ext.refl _, ⟨by omega, fun j h => by omega⟩⟩) ?_
      rintro i wL0 ⟨hRL0, hi, hJ⟩
      have hzL0 := hRL0.size
      replace hE := hE.trans hRL0
      replace hc := hc.ext hRL0
      replace hx := hx.ext hRL0
      replace hB3 := hB3.ext hRL0
      refine W_seq ?_
      refine W_region ?_
      refine WL_q rfl (ev_lss rfl rfl) ?_
      refine WL_nil ?_
      refine thenE_n ?_
      refine W_seq ?_
      refine W_cond rfl (fun hg25 => ?_) (fun hg25 => ?_)
      · have hp25 := of_decide_eq_true hg25
        refine W_skip ?_
        refine thenE_n ?_
        refine W_seq ?_
        refine W_block ?_
        refine W_seq ?_
        refine W_region ?_
        refine WL_q rfl (ev_move rfl) ?_
        have hpi := hp _ (List.getElem_mem (show i < cl.2.1.length by omega))
        refine WL_q rfl (ev_indexAddr Tryz.underlying24 sz3 rfl rfl (hc.isSome (by omega)) (by omega) (by omega)) ?_
        refine WL_q rfl (ev_load one3 rfl (hc.cell (i := i) (by omega))) ?_
        refine WL_q rfl (ev_assign rfl) ?_
        refine WL_q rfl (ev_assign rfl) ?_
        refine WL_nil ?_
        refine thenE_n ?_
        refine W_seq ?_
        refine W_region ?_
        refine WL_q rfl (ev_move rfl) ?_
        refine WL_q rfl (ev_geq rfl rfl) ?_
        refine WL_q rfl (ev_move rfl) ?_
        refine WL_splitv (t := 31) rfl (fun hg30 => ?_) (fun hg30 => ?_)
        · have hp30 := of_decide_eq_true hg30
          refine WL_qg rfl rfl hg30 rfl (ev_move rfl) ?_
          refine WL_qg rfl rfl hg30 rfl (ev_move rfl) ?_
          refine WL_qg rfl rfl hg30 rfl (ev_move rfl) ?_
          refine WL_qg rfl rfl hg30 rfl (ev_indexAddr Tryz.underlying24 sz3 rfl rfl (hx.isSome (by omega)) (by omega) (by omega)) ?_
          refine WL_qg rfl rfl hg30 rfl (ev_load one3 rfl (hx.cell (i := i) (by omega))) ?_
          refine WL_qg rfl rfl hg30 rfl (ev_neq rfl rfl) ?_
          refine WL_q rfl (ev_pick_t rfl hg30 rfl) ?_
          refine WL_nil ?_
          refine thenE_n ?_
          refine W_cond rfl (fun hg37 => ?_) (fun hg37 => ?_)
          · have hp37 := of_decide_eq_true hg37
            refine W_seq ?_
            refine W_region ?_
            refine WL_q rfl (ev_assign rfl) ?_
            refine WL_nil ?_
            refine thenE_n ?_
            refine W_ret ?_
            refine blockE_r ?_
            refine thenE_r ?_
            refine thenE_r ?_
            refine blockE_r ?_
            refine thenE_r ?_
            refine ret1 rfl rfl ?_
            first | (exact ⟨vb (cfit_no fun h => hp12 h.1), hE⟩) | (exact ⟨vb (cfit_no fun h => hp19 (congrArg (Nat.cast : Nat → Int) h.2.1)), hE⟩) | (refine ⟨vb (cfit_no fun h => ?_), hE⟩; have := h.2.2 i (by omega) (by omega); omega) | (exact ⟨vb (cfit_yes ⟨by omega, by omega, fun j h1 h2 => hJ j (by omega) h1 h2⟩), hE⟩)
          · have hp37 := of_decide_eq_false hg37
            refine W_skip ?_
            refine blockE_n ?_
            refine thenE_n ?_
            refine W_region ?_
            refine WL_q rfl (ev_add rfl rfl (by omega)) ?_
            refine WL_q rfl (ev_move rfl) ?_
            refine WL_nil ?_
            refine thenE_n ?_
            exact ⟨i + 1, (Subs.c rfl (Subs.c rfl (Subs.c rfl Subs.n))), (Subs.c (lkI rfl (by omega)) Subs.n), ⟨hRL0, ⟨by omega, fun j h1 h2 h3 => by
    by_cases hj : j = i
    · subst hj; omega
    · exact hJ j (by omega) h2 h3⟩⟩, by first | omega | (dsimp only; omega)⟩
        · have hp30 := of_decide_eq_false hg30
          refine WL_no rfl rfl hg30 rfl ?_
          refine WL_no rfl rfl hg30 rfl ?_
          refine WL_no rfl rfl hg30 rfl ?_
          refine WL_no rfl rfl hg30 rfl ?_
          refine WL_no rfl rfl hg30 rfl ?_
          refine WL_no rfl rfl hg30 rfl ?_
          refine WL_q rfl (ev_pick_f rfl hg30 rfl) ?_
          refine WL_nil ?_
          refine thenE_n ?_
          refine W_cond_f rfl ?_
          refine W_skip ?_
          refine blockE_n ?_
          refine thenE_n ?_
          refine W_region ?_
          refine WL_q rfl (ev_add rfl rfl (by omega)) ?_
          refine WL_q rfl (ev_move rfl) ?_
          refine WL_nil ?_
          refine thenE_n ?_
          exact ⟨i + 1, (Subs.c rfl (Subs.c rfl (Subs.c rfl Subs.n))), (Subs.c (lkI rfl (by omega)) Subs.n), ⟨hRL0, ⟨by omega, fun j h1 h2 h3 => by
    by_cases hj : j = i
    · subst hj; omega
    · exact hJ j (by omega) h2 h3⟩⟩, by first | omega | (dsimp only; omega)⟩
      · have hp25 := of_decide_eq_false hg25
        refine W_exit ?_
        refine thenE_x ?_
        refine thenE_x ?_
        refine blockE_hit ?_
        refine thenE_n ?_
        refine W_seq ?_
        refine W_region ?_
        refine WL_q rfl (ev_assign rfl) ?_
        refine WL_nil ?_
        refine thenE_n ?_
        refine W_ret ?_
        refine ret1 rfl rfl ?_
        first | (exact ⟨vb (cfit_no fun h => hp12 h.1), hE⟩) | (exact ⟨vb (cfit_no fun h => hp19 (congrArg (Nat.cast : Nat → Int) h.2.1)), hE⟩) | (refine ⟨vb (cfit_no fun h => ?_), hE⟩; have := h.2.2 i (by omega) (by omega); omega) | (exact ⟨vb (cfit_yes ⟨by omega, by omega, fun j h1 h2 => hJ j (by omega) h1 h2⟩), hE⟩)

set_option maxRecDepth 100000 in
theorem IndexFunc_cl {lo hi : Nat} (a : Option Addr) (c : Nat) (xs : List Cl) (f : FuncId) (cap : List Value) (p : Cl → Bool) (w : World) (hx : Clauses lo hi w a c xs) (hm : (xs.length : Int) < 9223372036854775807) (hp : ∀ i (h : i < xs.length) (a2 : Option Addr) (c2 : Nat) (w1 : World), Ext w w1 → Ints lo hi w1 a2 c2 xs[i].2.1 → Fn Tryz.prog f ([] ++ [Value.agg #[VI xs[i].1, .slice a2 xs[i].2.1.length c2, VI xs[i].2.2]] ++ cap).toArray w1 (fun v w2 => v = VB (p xs[i]) ∧ Ext w1 w2)) :
    Fn Tryz.prog 79 #[.slice a xs.length c, .func (.func f) #[] cap.toArray] w (fun v w' => v = VI (idxF p xs) ∧ Ext w w') := by
  have hE := Ext.refl w
  refine Fn_of Tryz.func79 rfl rfl (by kernel_rfl) rfl ?_
  refine W_seq ?_
  refine W_region ?_
  refine WL_q rfl (ev_assign rfl) ?_
  refine WL_nil ?_
  refine thenE_n ?_
  refine W_seq ?_
  refine W_seq ?_
  refine W_region ?_
  refine WL_q rfl (ev_move rfl) ?_
  refine WL_q rfl (ev_len Tryz.underlying34 rfl) ?_
  refine WL_q rfl (ev_move rfl) ?_
  refine WL_nil ?_
  refine thenE_n ?_
  refine W_block ?_
  refine W_loopC (G := Nat) [(0, _), (1, _), (7, _)] ((Subs.c rfl (Subs.c rfl (Subs.c rfl Subs.n)))) (fun i => [(8, VI (i : Int))]) (fun i w' => Ext w w' ∧ i ≤ xs.length ∧ ∀ j (_h : j < i) (h2 : j < xs.length), p xs[j] = false) (fun i => xs.length - i) 0 ((Subs.c (lkI rfl (by omega)) Subs.n)) (⟨Ext.refl _, ⟨by omega, fun j h => by omega⟩⟩) ?_
  rintro i wL0 ⟨hRL0, hi, hJ⟩
  have hzL0 := hRL0.size
  replace hE := hE.trans hRL0
  replace hx := hx.ext hRL0
  refine W_seq ?_
  refine W_region ?_
  refine WL_q rfl (ev_lss rfl rfl) ?_
  refine WL_nil ?_
  refine thenE_n ?_
  refine W_seq ?_
  refine W_cond rfl (fun hg9 => ?_) (fun hg9 => ?_)
  · have hp9 := of_decide_eq_true hg9
    refine W_skip ?_
    refine thenE_n ?_
    refine W_seq ?_
    refine W_block ?_
    refine W_seq ?_
    refine W_region ?_
    refine WL_q rfl (ev_move rfl) ?_
    refine WL_q rfl (ev_assign rfl) ?_
    refine WL_nil ?_
    refine thenE_n ?_
    refine W_seq ?_
    refine W_region ?_
    refine WL_q rfl (ev_move rfl) ?_
    refine WL_q rfl (ev_move rfl) ?_
    refine WL_q rfl (ev_move rfl) ?_
    obtain ⟨a2, c2, hc2, hr2⟩ := hx.cl (i := i) (by omega)
    refine WL_q rfl (ev_indexAddr Tryz.underlying34 sz78 rfl rfl (hx.isSome (by omega)) (by omega) (by omega)) ?_
    refine WL_q rfl (ev_loads st78 sz78 rfl (hc2) rfl) ?_
    refine WL_m rfl (ev_callv rfl rfl (hp i (by omega) _ _ _ hE hr2)) ?_
    rintro _ w16 ⟨rfl, hE16⟩
    have hz16 := hE16.size
    replace hE := hE.trans hE16
    replace hRL0 := hRL0.trans hE16
    replace hx := hx.ext hE16
    refine WL_nil ?_
    refine thenE_n ?_
    refine W_cond rfl (fun hg16 => ?_) (fun hg16 => ?_)
    · refine W_seq ?_
      refine W_region ?_
      refine WL_q rfl (ev_move rfl) ?_
      refine WL_q rfl (ev_assign rfl) ?_
      refine WL_nil ?_
      refine thenE_n ?_
      refine W_ret ?_
      refine blockE_r ?_
      refine thenE_r ?_
      refine thenE_r ?_
      refine blockE_r ?_
      refine thenE_r ?_
      refine ret1 rfl rfl ?_
      first | exact ⟨vi (idxF_at (by omega) hg16 hJ).symm, hE⟩ | exact ⟨vi (idxF_none fun j h2 => hJ j (by omega) h2).symm, hE⟩
    · refine W_skip ?_
      refine blockE_n ?_
      refine thenE_n ?_
      refine W_region ?_
      refine WL_q rfl (ev_add rfl rfl (by omega)) ?_
      refine WL_q rfl (ev_move rfl) ?_
      refine WL_nil ?_
      refine thenE_n ?_
      exact ⟨i + 1, (Subs.c rfl (Subs.c rfl (Subs.c rfl Subs.n))), (Subs.c (lkI rfl (by omega)) Subs.n), ⟨hRL0, ⟨by omega, fun j h1 h2 => by
    by_cases hj : j = i
    · subst hj; exact hg16
    · exact hJ j (by omega) h2⟩⟩, by first | omega | (dsimp only; omega)⟩
  · have hp9 := of_decide_eq_false hg9
    refine W_exit ?_
    refine thenE_x ?_
    refine thenE_x ?_
    refine blockE_hit ?_
    refine thenE_n ?_
    refine W_seq ?_
    refine W_region ?_
    refine WL_q rfl (ev_assign rfl) ?_
    refine WL_nil ?_
    refine thenE_n ?_
    refine W_ret ?_
    refine ret1 rfl rfl ?_
    first | exact ⟨vi (idxF_at (by omega) hg16 hJ).symm, hE⟩ | exact ⟨vi (idxF_none fun j h2 => hJ j (by omega) h2).symm, hE⟩

set_option maxRecDepth 100000 in
theorem clauseFor_spec {lo hi lo2 hi2 : Nat} (h : MA) (m : Mach) (s : Int) (a2 : Option Addr) (c2 : Nat) (x : List Int) (w : World) (hM : IsMach lo hi w h m) (hx : Ints lo2 hi2 w a2 c2 x) (hm : totC m.clauses ≤ 1048576) :
    Fn Tryz.prog 70 #[machV h m, VI s, .slice a2 x.length c2] w (fun v w' => v = VI (idxF (cfit s x) m.clauses) ∧ Ext w w') := by
  have hq3 := totC_len m.clauses
  have hE := Ext.refl w
  refine Fn_of Tryz.func70 rfl rfl (by kernel_rfl) rfl ?_
  refine W_seq ?_
  refine W_region ?_
  refine WL_m rfl (ev_box rfl) ?_
  rintro _ w3 ⟨rfl, hN3⟩
  have hz3 := hN3.size
  replace hE := hE.trans hN3.ext
  replace hM := hM.ext hN3.ext
  replace hx := hx.ext hN3.ext
  have hB3 : Blk w3 _ _ [_, _, _, _, _, _, _] := hN3.blk
  refine WL_m rfl (ev_box rfl) ?_
  rintro _ w4 ⟨rfl, hN4⟩
  have hz4 := hN4.size
  replace hE := hE.trans hN4.ext
  replace hM := hM.ext hN4.ext
  replace hx := hx.ext hN4.ext
  replace hB3 := hB3.ext hN4.ext
  have hB4 : Blk w4 _ _ [_] := hN4.blk
  refine WL_m rfl (ev_box rfl) ?_
  rintro _ w5 ⟨rfl, hN5⟩
  have hz5 := hN5.size
  replace hE := hE.trans hN5.ext
  replace hM := hM.ext hN5.ext
  replace hx := hx.ext hN5.ext
  replace hB3 := hB3.ext hN5.ext
  replace hB4 := hB4.ext hN5.ext
  have hB5 : Blk w5 _ _ [_] := hN5.blk
  refine WL_q rfl (ev_assign rfl) ?_
  refine WL_nil ?_
  refine thenE_n ?_
  refine W_seq ?_
  refine W_region ?_
  refine WL_q rfl (ev_fieldAddr fo36_5 rfl) ?_
  refine WL_q rfl (ev_load one34 rfl (hB3.cell rfl)) ?_
  refine WL_q rfl (ev_makeFunc rfl rfl) ?_
  refine WL_m rfl (ev_call rfl (IndexFunc_cl _ _ m.clauses _ _ (cfit s x) _ hM.clauses (by omega) (fun i h a3 c3 w1 hw hr => clauseFor_1 _ a2 _ c2 _ s x _ _ _ _ w1 hr (hx.ext hw) (hB4.ext hw) (hB5.ext hw) (by have := totC_le h; omega)))) ?_
  rintro _ w10 ⟨rfl, hE10⟩
  have hz10 := hE10.size
  replace hE := hE.trans hE10
  replace hM := hM.ext hE10
  replace hx := hx.ext hE10
  replace hB3 := hB3.ext hE10
  replace hB4 := hB4.ext hE10
  replace hB5 := hB5.ext hE10
  refine WL_q rfl (ev_assign rfl) ?_
  refine WL_nil ?_
  refine thenE_n ?_
  refine W_ret ?_
  refine ret1 rfl rfl ?_
  exact ⟨rfl, hE⟩

set_option maxRecDepth 100000 in
theorem maClause_spec {lo hi lo2 hi2 : Nat} (h : MA) (m : Mach) (s : Int) (a2 : Option Addr) (c2 : Nat) (x : List Int) (w : World) (hM : IsMach lo hi w h m) (hx : Ints lo2 hi2 w a2 c2 x) (hhi : hi ≤ w.heap.size) (hhi2 : hi2 ≤ w.heap.size) (hm : totC m.clauses ≤ 1048576) (hk : MOk m) :
    Fn Tryz.prog 61 #[machV h m, VI s, .slice a2 x.length c2] w (fun v w' => v = VI (idxF (cfit s x) m.clauses) ∧ Ext w w') := by
  have hq3 := totC_len m.clauses
  have hE := Ext.refl w
  refine Fn_of Tryz.func61 rfl rfl (by kernel_rfl) rfl ?_
  refine W_seq ?_
  refine W_region ?_
  refine WL_m rfl (ev_box rfl) ?_
  rintro _ w3 ⟨rfl, hN3⟩
  have hz3 := hN3.size
  replace hE := hE.trans hN3.ext
  replace hM := hM.ext hN3.ext
  replace hx := hx.ext hN3.ext
  have hB3 : Blk w3 _ _ [_, _, _, _, _, _, _] := hN3.blk
  refine WL_q rfl (ev_assign rfl) ?_
  refine WL_nil ?_
  refine thenE_n ?_
  refine W_seq ?_
  refine W_seq ?_
  refine W_region ?_
  refine WL_q rfl (ev_fieldAddr fo36_5 rfl) ?_
  refine WL_q rfl (ev_load one34 rfl (hB3.cell rfl)) ?_
  refine WL_q rfl (ev_len Tryz.underlying34 rfl) ?_
  refine WL_q rfl (ev_move rfl) ?_
  refine WL_nil ?_
  refine thenE_n ?_
  refine W_block ?_
  refine W_loopC (G := Nat) [(1, _), (2, _), (10, _), (11, _)] ((Subs.c rfl (Subs.c rfl (Subs.c rfl (Subs.c rfl Subs.n))))) (fun i => [(12, VI (i : Int))]) (fun i w' => Ext w3 w' ∧ i ≤ m.clauses.length ∧ ∀ j (_h : j < i) (h2 : j < m.clauses.length), cfit s x m.clauses[j] = false) (fun i => m.clauses.length - i) 0 ((Subs.c (lkI rfl (by omega)) Subs.n)) (⟨Ext.refl _, ⟨by omega, fun j h => by omega⟩⟩) ?_
  rintro i wL0 ⟨hRL0, hi', hJ⟩
  have hzL0 := hRL0.size
  replace hE := hE.trans hRL0
  replace hM := hM.ext hRL0
  replace hx := hx.ext hRL0
  replace hB3 := hB3.ext hRL0
  refine W_seq ?_
  refine W_region ?_
  refine WL_q rfl (ev_lss rfl rfl) ?_
  refine WL_nil ?_
  refine thenE_n ?_
  refine W_seq ?_
  refine W_cond rfl (fun hg13 => ?_) (fun hg13 => ?_)
  · have hp13 := of_decide_eq_true hg13
    refine W_skip ?_
    refine thenE_n ?_
    refine W_seq ?_
    refine W_block ?_
    refine W_seq ?_
    refine W_region ?_
    refine WL_q rfl (ev_move rfl) ?_
    obtain ⟨a3, c3, hc3, hr3⟩ := hM.clauses.cl (i := i) (by omega)
    have htc := totC_le (show i < m.clauses.length by omega)
    have hkc := (hk.clauses _ (List.getElem_mem (show i < m.clauses.length by omega))).2.2.2
    refine WL_q rfl (ev_indexAddr Tryz.underlying34 sz78 rfl rfl (hM.clauses.isSome (by omega)) (by omega) (by omega)) ?_
    refine WL_q rfl (ev_loads st78 sz78 rfl (hc3) rfl) ?_
    refine WL_m rfl (ev_alloc zr78) ?_
    rintro _ w8 ⟨rfl, hN8⟩
    have hz8 := hN8.size
    replace hE := hE.trans hN8.ext
    replace hRL0 := hRL0.trans hN8.ext
    replace hM := hM.ext hN8.ext
    replace hx := hx.ext hN8.ext
    replace hB3 := hB3.ext hN8.ext
    replace hr3 := hr3.ext hN8.ext
    have hB8 : Blk w8 _ _ [_, _, _] := hN8.blk
    refine WL_q rfl (ev_assign rfl) ?_
    refine WL_s (ev_stores sz78 rfl rfl rfl (by simp [Value.oneCell']) hB8 (by simp)) ?_
    rintro _ w3_5 hS3_5
    have hz3_5 := hS3_5.size
    replace hE := hE.sto hS3_5 (by omega)
    replace hRL0 := hRL0.sto hS3_5 (by omega)
    replace hM := hM.sto hS3_5 (by omega)
    replace hx := hx.sto hS3_5 (by omega)
    replace hB3 := hB3.sto hS3_5 (by omega)
    replace hr3 := hr3.sto hS3_5 (by omega)
    replace hB8 : Blk w3_5 _ _ [_, _, _] := hS3_5.blk
    refine WL_nil ?_
    refine thenE_n ?_
    refine W_seq ?_
    refine W_region ?_
    refine WL_q rfl (ev_loads st78 sz78 rfl (cellsB hB8) rfl) ?_
    refine WL_q rfl (ev_move rfl) ?_
    refine WL_q rfl (ev_move rfl) ?_
    refine WL_m rfl (ev_call rfl (maFits_spec _ _ _ _ m.clauses[i] _ x _ hr3 hx (by omega) (fun y hy => (allR_true.1 hkc y hy).1))) ?_
    rintro _ w20 ⟨rfl, hE20⟩
    have hz20 := hE20.size
    replace hE := hE.trans hE20
    replace hRL0 := hRL0.trans hE20
    replace hM := hM.ext hE20
    replace hx := hx.ext hE20
    replace hB3 := hB3.ext hE20
    replace hr3 := hr3.ext hE20
    replace hB8 := hB8.ext hE20
    refine WL_nil ?_
    refine thenE_n ?_
    refine W_cond rfl (fun hg20 => ?_) (fun hg20 => ?_)
    · refine W_seq ?_
      refine W_region ?_
      refine WL_q rfl (ev_move rfl) ?_
      refine WL_q rfl (ev_assign rfl) ?_
      refine WL_nil ?_
      refine thenE_n ?_
      refine W_ret ?_
      refine blockE_r ?_
      refine thenE_r ?_
      refine thenE_r ?_
      refine blockE_r ?_
      refine thenE_r ?_
      refine ret1 rfl rfl ?_
      first | exact ⟨vi (idxF_at (by omega) hg20 hJ).symm, hE⟩ | exact ⟨vi (idxF_none fun j h2 => hJ j (by omega) h2).symm, hE⟩
    · refine W_skip ?_
      refine blockE_n ?_
      refine thenE_n ?_
      refine W_region ?_
      refine WL_q rfl (ev_add rfl rfl (by omega)) ?_
      refine WL_q rfl (ev_move rfl) ?_
      refine WL_nil ?_
      refine thenE_n ?_
      exact ⟨i + 1, (Subs.c rfl (Subs.c rfl (Subs.c rfl (Subs.c rfl Subs.n)))), (Subs.c (lkI rfl (by omega)) Subs.n), ⟨hRL0, ⟨by omega, fun j h1 h2 => by
    by_cases hj : j = i
    · subst hj; exact hg20
    · exact hJ j (by omega) h2⟩⟩, by first | omega | (dsimp only; omega)⟩
  · have hp13 := of_decide_eq_false hg13
    refine W_exit ?_
    refine thenE_x ?_
    refine thenE_x ?_
    refine blockE_hit ?_
    refine thenE_n ?_
    refine W_seq ?_
    refine W_region ?_
    refine WL_q rfl (ev_assign rfl) ?_
    refine WL_nil ?_
    refine thenE_n ?_
    refine W_ret ?_
    refine ret1 rfl rfl ?_
    first | exact ⟨vi (idxF_at (by omega) hg20 hJ).symm, hE⟩ | exact ⟨vi (idxF_none fun j h2 => hJ j (by omega) h2).symm, hE⟩

theorem dummyClauseFor : True := trivial

end Go.Proofs.YtebjcbgencenbaaGreat
