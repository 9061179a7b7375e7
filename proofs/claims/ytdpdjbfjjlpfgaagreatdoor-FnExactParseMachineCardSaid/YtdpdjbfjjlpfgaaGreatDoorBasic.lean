/- Contracts of within, l1In and the small functions on value programs. -/
import Derived.Test.YtdpdjbfjjlpfgaaGreatDoorTypes
namespace Go.Proofs.YtdpdjbfjjlpfgaaGreatDoor
open Go Go.RowKit

/-- n lies from lo to hi. -/
def inR (n lo hi : Int) : Bool := decide (lo ≤ n) && decide (n ≤ hi)
theorem inR_true {n lo hi : Int} : inR n lo hi = true ↔ lo ≤ n ∧ n ≤ hi := by simp [inR]
theorem inR_false {n lo hi : Int} : inR n lo hi = false ↔ ¬ (lo ≤ n ∧ n ≤ hi) := by rw [← inR_true]; simp

theorem bneF {b : Bool} (h : (b != b) = true) : False := by simp at h
theorem bneE {a b : Bool} (h : (a != b) = true) (e : a = b) : False := by subst e; simp at h
theorem decF {α : Type} [DecidableEq α] {a : α} (h : decide (a = a) = false) : False := by simp at h

set_option maxRecDepth 100000 in
theorem within_spec (n lo hi : Int) (w : World) :
    Fn Tryz.prog 37 #[VI n, VI lo, VI hi] w (fun v w' => v = VB (inR n lo hi) ∧ w = w') := by
  refine Fn_of Tryz.func37 rfl rfl (by kernel_rfl) rfl ?_
  refine W_seq ?_
  refine W_region ?_
  refine WL_q rfl (ev_assign rfl) ?_
  refine WL_nil ?_
  refine thenE_n ?_
  refine W_seq ?_
  refine W_region ?_
  refine WL_q rfl (ev_move rfl) ?_
  refine WL_q rfl (ev_move rfl) ?_
  refine WL_q rfl (ev_leq rfl rfl) ?_
  refine WL_q rfl (ev_move rfl) ?_
  refine WL_splitv (t := 10) rfl (fun hg9 => ?_) (fun hg9 => ?_)
  · have hp9 := of_decide_eq_true hg9
    refine WL_qg rfl rfl hg9 rfl (ev_move rfl) ?_
    refine WL_qg rfl rfl hg9 rfl (ev_move rfl) ?_
    refine WL_qg rfl rfl hg9 rfl (ev_leq rfl rfl) ?_
    refine WL_q rfl (ev_pick_t rfl hg9 rfl) ?_
    refine WL_q rfl (ev_assign rfl) ?_
    refine WL_nil ?_
    refine thenE_n ?_
    refine W_ret ?_
    refine ret1 rfl rfl ?_
    exact ⟨by simp [inR, *], rfl⟩
  · have hp9 := of_decide_eq_false hg9
    refine WL_no rfl rfl hg9 rfl ?_
    refine WL_no rfl rfl hg9 rfl ?_
    refine WL_no rfl rfl hg9 rfl ?_
    refine WL_q rfl (ev_pick_f rfl hg9 rfl) ?_
    refine WL_q rfl (ev_assign rfl) ?_
    refine WL_nil ?_
    refine thenE_n ?_
    refine W_ret ?_
    refine ret1 rfl rfl ?_
    exact ⟨by simp [inR, *], rfl⟩

set_option maxRecDepth 100000 in
theorem l1In_spec (n lo hi : Int) (w : World) :
    Fn Tryz.prog 12 #[VI n, VI lo, VI hi] w (fun v w' => v = VB (inR n lo hi) ∧ w = w') := by
  refine Fn_of Tryz.func12 rfl rfl (by kernel_rfl) rfl ?_
  refine W_seq ?_
  refine W_region ?_
  refine WL_q rfl (ev_assign rfl) ?_
  refine WL_nil ?_
  refine thenE_n ?_
  refine W_seq ?_
  refine W_region ?_
  refine WL_q rfl (ev_move rfl) ?_
  refine WL_q rfl (ev_move rfl) ?_
  refine WL_q rfl (ev_geq rfl rfl) ?_
  refine WL_q rfl (ev_move rfl) ?_
  refine WL_splitv (t := 10) rfl (fun hg9 => ?_) (fun hg9 => ?_)
  · have hp9 := of_decide_eq_true hg9
    refine WL_qg rfl rfl hg9 rfl (ev_move rfl) ?_
    refine WL_qg rfl rfl hg9 rfl (ev_move rfl) ?_
    refine WL_qg rfl rfl hg9 rfl (ev_leq rfl rfl) ?_
    refine WL_q rfl (ev_pick_t rfl hg9 rfl) ?_
    refine WL_q rfl (ev_assign rfl) ?_
    refine WL_nil ?_
    refine thenE_n ?_
    refine W_ret ?_
    refine ret1 rfl rfl ?_
    exact ⟨by simp [inR, *], rfl⟩
  · have hp9 := of_decide_eq_false hg9
    refine WL_no rfl rfl hg9 rfl ?_
    refine WL_no rfl rfl hg9 rfl ?_
    refine WL_no rfl rfl hg9 rfl ?_
    refine WL_q rfl (ev_pick_f rfl hg9 rfl) ?_
    refine WL_q rfl (ev_assign rfl) ?_
    refine WL_nil ?_
    refine thenE_n ?_
    refine W_ret ?_
    refine ret1 rfl rfl ?_
    exact ⟨by simp [inR, *], rfl⟩

/-- How many values an operation of this kind takes. -/
def needs (k : Int) : Int := if k ≤ 10 then 0 else if k ≤ 12 then 1 else if k ≤ 18 then 2 else 3

def vaNeeds (k : Int) : Int := if k = 19 then 3 else if 13 ≤ k then 2 else if 11 ≤ k then 1 else 0

end Go.Proofs.YtdpdjbfjjlpfgaaGreatDoor
