/- The walk of FnExactIsValueProgram. -/
import Derived.Test.YtjhgpcbbmhdojaaValue
namespace Go.Proofs.Ytjhgpcbbmhdojaa
open Go Go.RowKit

theorem bneF {b : Bool} (h : (b != b) = true) : False := by simp at h
theorem decF {α : Type} [DecidableEq α] {a : α} (h : decide (a = a) = false) : False := by simp at h

set_option maxRecDepth 100000 in
theorem law_IsValueProgram (a : Option Addr) (c : Nat) (xs : List (Int × Int)) (w : World) (hx : Pairs 0 w.heap.size w a c xs) (hn : (xs.length : Int) ≤ 9223372036854775807) :
    Fn Try.prog 3 #[.slice a xs.length c] w (fun v w' => v = VB true ∧ Ext w w') := by
  have hE := Ext.refl w
  refine Fn_of Try.func3 rfl rfl (by kernel_rfl) rfl ?_
  refine W_seq ?_
  refine W_region ?_
  refine WL_q rfl (ev_assign rfl) ?_
  refine WL_nil ?_
  refine thenE_n ?_
  refine W_seq ?_
  refine W_region ?_
  refine WL_q rfl (ev_assign rfl) ?_
  refine WL_nil ?_
  refine thenE_n ?_
  refine W_seq ?_
  refine W_region ?_
  refine WL_q rfl (ev_move rfl) ?_
  refine WL_q rfl (ev_move rfl) ?_
  refine WL_m rfl (ev_call rfl (szValueOpS_spec _ _ _ _ _ (by omega) (by omega))) ?_
  rintro _ _ ⟨rfl, rfl⟩
  refine WL_q rfl (ev_assign rfl) ?_
  refine WL_nil ?_
  refine thenE_n ?_
  refine W_seq ?_
  refine W_seq ?_
  refine W_region ?_
  refine WL_q rfl (ev_move rfl) ?_
  refine WL_q rfl (ev_lss rfl rfl) ?_
  refine WL_nil ?_
  refine thenE_n ?_
  refine W_cond rfl (fun hg11 => ?_) (fun hg11 => ?_)
  · have hp11 := of_decide_eq_true hg11
    refine W_seq ?_
    refine W_region ?_
    refine WL_q rfl (ev_assign rfl) ?_
    refine WL_nil ?_
    refine thenE_n ?_
    refine W_ret ?_
    refine thenE_r ?_
    refine ret1 rfl rfl ?_
    first | exact ⟨rfl, hE⟩ | exact (bneF hg21).elim | exact (decF hg25).elim
  · have hp11 := of_decide_eq_false hg11
    have hn2 := sz_le hp11
    refine W_skip ?_
    refine thenE_n ?_
    refine W_seq ?_
    refine W_region ?_
    refine WL_q rfl (ev_move rfl) ?_
    refine WL_m rfl (ev_call rfl (toValueOpS_spec _ _ _ _ (by assumption) (by omega) (by omega))) ?_
    rintro _ w13 ⟨b13, rfl, hb13, hb13B, hE13⟩
    have hz13 := hE13.size
    replace hE := hE.trans hE13
    replace hx := hx.ext hE13
    have hlt13 := hb13B.lt
    have hP13 := hb13B.pairs (Nat.le_refl _)
    refine WL_m rfl (ev_call rfl (sIsValueProgram_spec _ _ _ _ (by assumption) (by omega))) ?_
    rintro _ w14 ⟨rfl, hE14⟩
    have hz14 := hE14.size
    replace hE := hE.trans hE14
    replace hx := hx.ext hE14
    replace hb13B := hb13B.ext hE14
    replace hP13 := hP13.ext hE14
    refine WL_q rfl (ev_assign rfl) ?_
    refine WL_nil ?_
    refine thenE_n ?_
    refine W_seq ?_
    refine W_region ?_
    refine WL_q rfl (ev_move rfl) ?_
    refine WL_m rfl (ev_call rfl (toValueOpS_spec _ _ _ _ (by assumption) (by omega) (by omega))) ?_
    rintro _ w16 ⟨b16, rfl, hb16, hb16B, hE16⟩
    have hz16 := hE16.size
    replace hE := hE.trans hE16
    replace hx := hx.ext hE16
    replace hb13B := hb13B.ext hE16
    replace hP13 := hP13.ext hE16
    have hlt16 := hb16B.lt
    have hP16 := hb16B.pairs (Nat.le_refl _)
    refine WL_q rfl (ev_assign rfl) ?_
    refine WL_nil ?_
    refine thenE_n ?_
    refine W_seq ?_
    refine W_region ?_
    refine WL_q rfl (ev_move rfl) ?_
    refine WL_m rfl (ev_call rfl (IsValueProgram_spec _ _ _ _ (by assumption) (by omega))) ?_
    rintro _ w18 ⟨rfl, hE18⟩
    have hz18 := hE18.size
    replace hE := hE.trans hE18
    replace hx := hx.ext hE18
    replace hb13B := hb13B.ext hE18
    replace hP13 := hP13.ext hE18
    replace hb16B := hb16B.ext hE18
    replace hP16 := hP16.ext hE18
    refine WL_q rfl (ev_assign rfl) ?_
    refine WL_nil ?_
    refine thenE_n ?_
    refine W_seq ?_
    refine W_seq ?_
    refine W_region ?_
    refine WL_q rfl (ev_move rfl) ?_
    refine WL_q rfl (ev_move rfl) ?_
    refine WL_q rfl (ev_neq_b Try.underlying4 rfl rfl) ?_
    refine WL_nil ?_
    refine thenE_n ?_
    refine W_cond rfl (fun hg21 => ?_) (fun hg21 => ?_)
    · refine W_seq ?_
      refine W_region ?_
      refine WL_q rfl (ev_assign rfl) ?_
      refine WL_nil ?_
      refine thenE_n ?_
      refine W_ret ?_
      refine thenE_r ?_
      refine ret1 rfl rfl ?_
      first | exact ⟨rfl, hE⟩ | exact (bneF hg21).elim | exact (decF hg25).elim
    · refine W_skip ?_
      refine thenE_n ?_
      refine W_seq ?_
      refine W_seq ?_
      refine W_region ?_
      refine WL_q rfl (ev_move rfl) ?_
      refine WL_q rfl (ev_move rfl) ?_
      refine WL_m rfl (ev_call rfl (toValueOpS_spec _ _ _ _ (by assumption) (by omega) (by omega))) ?_
      rintro _ w24 ⟨b24, rfl, hb24, hb24B, hE24⟩
      have hz24 := hE24.size
      replace hE := hE.trans hE24
      replace hx := hx.ext hE24
      replace hb13B := hb13B.ext hE24
      replace hP13 := hP13.ext hE24
      replace hb16B := hb16B.ext hE24
      replace hP16 := hP16.ext hE24
      have hlt24 := hb24B.lt
      have hP24 := hb24B.pairs (Nat.le_refl _)
      refine WL_m rfl (ev_call rfl (eqValueOpS_spec _ _ _ _ _ _ _ (by assumption) (by assumption) (by omega))) ?_
      rintro _ w25 ⟨rfl, hE25⟩
      have hz25 := hE25.size
      replace hE := hE.trans hE25
      replace hx := hx.ext hE25
      replace hb13B := hb13B.ext hE25
      replace hP13 := hP13.ext hE25
      replace hb16B := hb16B.ext hE25
      replace hP16 := hP16.ext hE25
      replace hb24B := hb24B.ext hE25
      replace hP24 := hP24.ext hE25
      refine WL_q rfl (ev_not rfl) ?_
      refine WL_nil ?_
      refine thenE_n ?_
      refine W_cond rfl (fun hg26 => ?_) (fun hg26 => ?_)
      · have hg25 := not_true hg26
        refine W_seq ?_
        refine W_region ?_
        refine WL_q rfl (ev_assign rfl) ?_
        refine WL_nil ?_
        refine thenE_n ?_
        refine W_ret ?_
        refine thenE_r ?_
        refine ret1 rfl rfl ?_
        first | exact ⟨rfl, hE⟩ | exact (bneF hg21).elim | exact (decF hg25).elim
      · have hg25 := not_false hg26
        refine W_skip ?_
        refine thenE_n ?_
        refine W_seq ?_
        refine W_region ?_
        refine WL_q rfl (ev_assign rfl) ?_
        refine WL_nil ?_
        refine thenE_n ?_
        refine W_ret ?_
        refine ret1 rfl rfl ?_
        first | exact ⟨rfl, hE⟩ | exact (bneF hg21).elim | exact (decF hg25).elim

end Go.Proofs.Ytjhgpcbbmhdojaa
