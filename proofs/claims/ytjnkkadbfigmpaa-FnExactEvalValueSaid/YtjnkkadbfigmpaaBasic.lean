/- Contracts of within, l1In and the small functions on value programs. -/
import Derived.Test.YtjnkkadbfigmpaaTypes
namespace Go.Proofs.Ytjnkkadbfigmpaa
open Go Go.RowKit

/-- n lies from lo to hi. -/
def inR (n lo hi : Int) : Bool := decide (lo ≤ n) && decide (n ≤ hi)
theorem inR_true {n lo hi : Int} : inR n lo hi = true ↔ lo ≤ n ∧ n ≤ hi := by simp [inR]
theorem inR_false {n lo hi : Int} : inR n lo hi = false ↔ ¬ (lo ≤ n ∧ n ≤ hi) := by rw [← inR_true]; simp

theorem bneF {b : Bool} (h : (b != b) = true) : False := by simp at h
theorem bneE {a b : Bool} (h : (a != b) = true) (e : a = b) : False := by subst e; simp at h
theorem decF {α : Type} [DecidableEq α] {a : α} (h : decide (a = a) = false) : False := by simp at h

set_option maxRecDepth 100000 in
theorem within_spec (n lo hi : Int) (w : World) :
    Fn Try.prog 78 #[VI n, VI lo, VI hi] w (fun v w' => v = VB (inR n lo hi) ∧ w = w') := by
  refine Fn_of Try.func78 rfl rfl (by kernel_rfl) rfl ?_
  refine W_seq ?_
  refine W_region ?_
  refine WL_q rfl (ev_assign rfl) ?_
  refine WL_nil ?_
  refine thenE_n ?_
  refine W_seq ?_
  refine W_region ?_
  refine WL_q rfl (ev_move rfl) ?_
  refine WL_q rfl (ev_move rfl) ?_
  refine WL_q rfl (ev_leq rfl rfl) ?_
  refine WL_q rfl (ev_move rfl) ?_
  refine WL_splitv (t := 10) rfl (fun hg9 => ?_) (fun hg9 => ?_)
  · have hp9 := of_decide_eq_true hg9
    refine WL_qg rfl rfl hg9 rfl (ev_move rfl) ?_
    refine WL_qg rfl rfl hg9 rfl (ev_move rfl) ?_
    refine WL_qg rfl rfl hg9 rfl (ev_leq rfl rfl) ?_
    refine WL_q rfl (ev_pick_t rfl hg9 rfl) ?_
    refine WL_q rfl (ev_assign rfl) ?_
    refine WL_nil ?_
    refine thenE_n ?_
    refine W_ret ?_
    refine ret1 rfl rfl ?_
    exact ⟨by simp [inR, *], rfl⟩
  · have hp9 := of_decide_eq_false hg9
    refine WL_no rfl rfl hg9 rfl ?_
    refine WL_no rfl rfl hg9 rfl ?_
    refine WL_no rfl rfl hg9 rfl ?_
    refine WL_q rfl (ev_pick_f rfl hg9 rfl) ?_
    refine WL_q rfl (ev_assign rfl) ?_
    refine WL_nil ?_
    refine thenE_n ?_
    refine W_ret ?_
    refine ret1 rfl rfl ?_
    exact ⟨by simp [inR, *], rfl⟩

set_option maxRecDepth 100000 in
theorem l1In_spec (n lo hi : Int) (w : World) :
    Fn Try.prog 73 #[VI n, VI lo, VI hi] w (fun v w' => v = VB (inR n lo hi) ∧ w = w') := by
  refine Fn_of Try.func73 rfl rfl (by kernel_rfl) rfl ?_
  refine W_seq ?_
  refine W_region ?_
  refine WL_q rfl (ev_assign rfl) ?_
  refine WL_nil ?_
  refine thenE_n ?_
  refine W_seq ?_
  refine W_region ?_
  refine WL_q rfl (ev_move rfl) ?_
  refine WL_q rfl (ev_move rfl) ?_
  refine WL_q rfl (ev_geq rfl rfl) ?_
  refine WL_q rfl (ev_move rfl) ?_
  refine WL_splitv (t := 10) rfl (fun hg9 => ?_) (fun hg9 => ?_)
  · have hp9 := of_decide_eq_true hg9
    refine WL_qg rfl rfl hg9 rfl (ev_move rfl) ?_
    refine WL_qg rfl rfl hg9 rfl (ev_move rfl) ?_
    refine WL_qg rfl rfl hg9 rfl (ev_leq rfl rfl) ?_
    refine WL_q rfl (ev_pick_t rfl hg9 rfl) ?_
    refine WL_q rfl (ev_assign rfl) ?_
    refine WL_nil ?_
    refine thenE_n ?_
    refine W_ret ?_
    refine ret1 rfl rfl ?_
    exact ⟨by simp [inR, *], rfl⟩
  · have hp9 := of_decide_eq_false hg9
    refine WL_no rfl rfl hg9 rfl ?_
    refine WL_no rfl rfl hg9 rfl ?_
    refine WL_no rfl rfl hg9 rfl ?_
    refine WL_q rfl (ev_pick_f rfl hg9 rfl) ?_
    refine WL_q rfl (ev_assign rfl) ?_
    refine WL_nil ?_
    refine thenE_n ?_
    refine W_ret ?_
    refine ret1 rfl rfl ?_
    exact ⟨by simp [inR, *], rfl⟩

/-- How many values an operation of this kind takes. -/
def needs (k : Int) : Int := if k ≤ 10 then 0 else if k ≤ 12 then 1 else if k ≤ 18 then 2 else 3

set_option maxRecDepth 100000 in
theorem needs_spec (k x : Int) (w : World) :
    Fn Try.prog 108 #[.agg #[VI k, VI x]] w (fun v w' => v = VI (needs k) ∧ Ext w w') := by
  have hE := Ext.refl w
  refine Fn_of Try.func108 rfl rfl (by kernel_rfl) rfl ?_
  refine W_seq ?_
  refine W_region ?_
  refine WL_m rfl (ev_box rfl) ?_
  rintro _ w1 ⟨rfl, hN1⟩
  have hz1 := hN1.size
  replace hE := hE.trans hN1.ext
  have hB1 : Blk w1 _ _ [_, _] := hN1.blk
  refine WL_q rfl (ev_assign rfl) ?_
  refine WL_nil ?_
  refine thenE_n ?_
  refine W_seq ?_
  refine W_block ?_
  refine W_seq ?_
  refine W_region ?_
  refine WL_q rfl (ev_fieldAddr fo92_0 rfl) ?_
  refine WL_q rfl (ev_load one3 rfl (hB1.cell rfl)) ?_
  refine WL_q rfl (ev_leq rfl rfl) ?_
  refine WL_q rfl (ev_assign rfl) ?_
  refine WL_nil ?_
  refine thenE_n ?_
  refine W_cond rfl (fun hg6 => ?_) (fun hg6 => ?_)
  · have hp6 := of_decide_eq_true hg6
    refine W_seq ?_
    refine W_region ?_
    refine WL_q rfl (ev_assign rfl) ?_
    refine WL_nil ?_
    refine thenE_n ?_
    refine W_ret ?_
    refine blockE_r ?_
    refine thenE_r ?_
    refine ret1 rfl rfl ?_
    exact ⟨by simp [needs, *], hE⟩
  · have hp6 := of_decide_eq_false hg6
    refine W_seq ?_
    refine W_region ?_
    refine WL_q rfl (ev_fieldAddr fo92_0 rfl) ?_
    refine WL_q rfl (ev_load one3 rfl (hB1.cell rfl)) ?_
    refine WL_q rfl (ev_leq rfl rfl) ?_
    refine WL_q rfl (ev_assign rfl) ?_
    refine WL_nil ?_
    refine thenE_n ?_
    refine W_cond rfl (fun hg10 => ?_) (fun hg10 => ?_)
    · have hp10 := of_decide_eq_true hg10
      refine W_seq ?_
      refine W_region ?_
      refine WL_q rfl (ev_assign rfl) ?_
      refine WL_nil ?_
      refine thenE_n ?_
      refine W_ret ?_
      refine blockE_r ?_
      refine thenE_r ?_
      refine ret1 rfl rfl ?_
      exact ⟨by simp [needs, *], hE⟩
    · have hp10 := of_decide_eq_false hg10
      refine W_seq ?_
      refine W_region ?_
      refine WL_q rfl (ev_fieldAddr fo92_0 rfl) ?_
      refine WL_q rfl (ev_load one3 rfl (hB1.cell rfl)) ?_
      refine WL_q rfl (ev_leq rfl rfl) ?_
      refine WL_q rfl (ev_assign rfl) ?_
      refine WL_nil ?_
      refine thenE_n ?_
      refine W_cond rfl (fun hg14 => ?_) (fun hg14 => ?_)
      · have hp14 := of_decide_eq_true hg14
        refine W_seq ?_
        refine W_region ?_
        refine WL_q rfl (ev_assign rfl) ?_
        refine WL_nil ?_
        refine thenE_n ?_
        refine W_ret ?_
        refine blockE_r ?_
        refine thenE_r ?_
        refine ret1 rfl rfl ?_
        exact ⟨by simp [needs, *], hE⟩
      · have hp14 := of_decide_eq_false hg14
        refine W_skip ?_
        refine blockE_n ?_
        refine thenE_n ?_
        refine W_seq ?_
        refine W_region ?_
        refine WL_q rfl (ev_assign rfl) ?_
        refine WL_nil ?_
        refine thenE_n ?_
        refine W_ret ?_
        refine ret1 rfl rfl ?_
        exact ⟨by simp [needs, *], hE⟩

def vaNeeds (k : Int) : Int := if k = 19 then 3 else if 13 ≤ k then 2 else if 11 ≤ k then 1 else 0

set_option maxRecDepth 100000 in
theorem vaNeeds_spec (k : Int) (w : World) :
    Fn Try.prog 103 #[VI k] w (fun v w' => v = VI (vaNeeds k) ∧ w = w') := by
  refine Fn_of Try.func103 rfl rfl (by kernel_rfl) rfl ?_
  refine W_seq ?_
  refine W_region ?_
  refine WL_q rfl (ev_assign rfl) ?_
  refine WL_nil ?_
  refine thenE_n ?_
  refine W_seq ?_
  refine W_block ?_
  refine W_seq ?_
  refine W_region ?_
  refine WL_q rfl (ev_move rfl) ?_
  refine WL_q rfl (ev_eql rfl rfl) ?_
  refine WL_q rfl (ev_assign rfl) ?_
  refine WL_nil ?_
  refine thenE_n ?_
  refine W_cond rfl (fun hg5 => ?_) (fun hg5 => ?_)
  · have hp5 := of_decide_eq_true hg5
    refine W_seq ?_
    refine W_region ?_
    refine WL_q rfl (ev_assign rfl) ?_
    refine WL_nil ?_
    refine thenE_n ?_
    refine W_ret ?_
    refine blockE_r ?_
    refine thenE_r ?_
    refine ret1 rfl rfl ?_
    exact ⟨by simp [vaNeeds, *], rfl⟩
  · have hp5 := of_decide_eq_false hg5
    refine W_seq ?_
    refine W_region ?_
    refine WL_q rfl (ev_move rfl) ?_
    refine WL_q rfl (ev_geq rfl rfl) ?_
    refine WL_q rfl (ev_assign rfl) ?_
    refine WL_nil ?_
    refine thenE_n ?_
    refine W_cond rfl (fun hg8 => ?_) (fun hg8 => ?_)
    · have hp8 := of_decide_eq_true hg8
      refine W_seq ?_
      refine W_region ?_
      refine WL_q rfl (ev_assign rfl) ?_
      refine WL_nil ?_
      refine thenE_n ?_
      refine W_ret ?_
      refine blockE_r ?_
      refine thenE_r ?_
      refine ret1 rfl rfl ?_
      exact ⟨by simp [vaNeeds, *], rfl⟩
    · have hp8 := of_decide_eq_false hg8
      refine W_seq ?_
      refine W_region ?_
      refine WL_q rfl (ev_move rfl) ?_
      refine WL_q rfl (ev_geq rfl rfl) ?_
      refine WL_q rfl (ev_assign rfl) ?_
      refine WL_nil ?_
      refine thenE_n ?_
      refine W_cond rfl (fun hg11 => ?_) (fun hg11 => ?_)
      · have hp11 := of_decide_eq_true hg11
        refine W_seq ?_
        refine W_region ?_
        refine WL_q rfl (ev_assign rfl) ?_
        refine WL_nil ?_
        refine thenE_n ?_
        refine W_ret ?_
        refine blockE_r ?_
        refine thenE_r ?_
        refine ret1 rfl rfl ?_
        exact ⟨by simp [vaNeeds, *], rfl⟩
      · have hp11 := of_decide_eq_false hg11
        refine W_skip ?_
        refine blockE_n ?_
        refine thenE_n ?_
        refine W_seq ?_
        refine W_region ?_
        refine WL_q rfl (ev_assign rfl) ?_
        refine WL_nil ?_
        refine thenE_n ?_
        refine W_ret ?_
        refine ret1 rfl rfl ?_
        exact ⟨by simp [vaNeeds, *], rfl⟩

end Go.Proofs.Ytjnkkadbfigmpaa
