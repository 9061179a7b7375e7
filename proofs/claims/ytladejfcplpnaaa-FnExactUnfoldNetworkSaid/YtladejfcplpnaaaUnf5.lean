/- The walk of FnExactUnfoldNetwork. -/
import Derived.Test.YtladejfcplpnaaaUnf4
namespace Go.Proofs.Ytladejfcplpnaaa
open Go Go.RowKit

set_option maxHeartbeats 4000000 in
set_option maxRecDepth 100000 in
theorem law_UnfoldNetwork (nA : NA) (A : Net) (v : Int) (d : Int) (w : World) (hA : IsNet 0 w.heap.size w nA A) (hsA : SmN A) (hiv : I64 v) (hid : I64 d) :
    Fn Try.prog 5 #[netV nA A, VI v, VI d] w (fun v w' => v = VB true ∧ Ext w w') := by
  have hE := Ext.refl w
  refine Fn_of Try.func5 rfl rfl (by kernel_rfl) rfl ?_
  refine W_seq ?_
  refine W_region ?_
  refine WL_m rfl (ev_box rfl) ?_
  rintro _ w3 ⟨rfl, hN3⟩
  have hz3 := hN3.size
  replace hE := hE.trans hN3.ext
  replace hA := hA.ext hN3.ext
  have hB3 : Blk w3 _ _ [_, _, _] := hN3.blk
  refine WL_q rfl (ev_assign rfl) ?_
  refine WL_nil ?_
  refine thenE_n ?_
  refine W_seq ?_
  refine W_region ?_
  refine WL_q rfl (ev_assign rfl) ?_
  refine WL_nil ?_
  refine thenE_n ?_
  refine W_seq ?_
  refine W_region ?_
  refine WL_q rfl (ev_loads st25 sz25 rfl (cellsB hB3) rfl) ?_
  refine WL_q rfl (ev_move rfl) ?_
  refine WL_m rfl (ev_call rfl (szNetwork_spec _ A _ _ hA (by omega) hsA)) ?_
  rintro _ w20 ⟨r20, rfl, hE20, hr20⟩
  have hz20 := hE20.size
  replace hE := hE.trans hE20
  replace hA := hA.ext hE20
  replace hB3 := hB3.ext hE20
  refine WL_q rfl (ev_assign rfl) ?_
  refine WL_nil ?_
  refine thenE_n ?_
  refine W_seq ?_
  refine W_seq ?_
  refine W_region ?_
  refine WL_q rfl (ev_move rfl) ?_
  refine WL_q rfl (ev_lss rfl rfl) ?_
  refine WL_nil ?_
  refine thenE_n ?_
  refine W_cond rfl (fun hg22 => ?_) (fun hg22 => ?_)
  · have hp22 := of_decide_eq_true hg22
    refine W_seq ?_
    refine W_region ?_
    refine WL_q rfl (ev_assign rfl) ?_
    refine WL_nil ?_
    refine thenE_n ?_
    refine W_ret ?_
    refine thenE_r ?_
    refine ret1 rfl rfl ?_
    first | (exact ⟨rfl, hE⟩) | (exact (tfX hg22).elim) | (exact (decF hg22).elim) | (exfalso; omega)
  · have hp22 := of_decide_eq_false hg22
    refine W_skip ?_
    refine thenE_n ?_
    refine W_seq ?_
    refine W_region ?_
    refine WL_q rfl (ev_loads st25 sz25 rfl (cellsB hB3) rfl) ?_
    refine WL_m rfl (ev_call rfl (toNetwork_spec _ A _ hA (by omega) (by omega))) ?_
    rintro _ w25 ⟨h25, rfl, hF25, hE25⟩
    have hz25 := hE25.size
    replace hE := hE.trans hE25
    replace hA := hA.ext hE25
    replace hB3 := hB3.ext hE25
    have hN25 := hF25.is
    refine WL_q rfl (ev_move rfl) ?_
    refine WL_q rfl (ev_move rfl) ?_
    refine WL_m rfl (ev_call rfl (sUnfoldNetwork_spec _ A _ _ _ hN25 (by omega) (by omega))) ?_
    rintro _ w28 ⟨h28, U28, q28, rfl, hr28, hN28, hl28, hE28⟩
    have hz28 := hE28.size
    replace hE := hE.trans hE28
    replace hA := hA.ext hE28
    replace hB3 := hB3.ext hE28
    replace hF25 := hF25.ext hE28
    replace hN25 := hN25.ext hE28
    refine WL_q rfl (ev_move rfl) ?_
    refine WL_q rfl (ev_extract rfl rfl) ?_
    refine WL_q rfl (ev_extract rfl rfl) ?_
    refine WL_m rfl (ev_alloc zr31) ?_
    rintro _ w8 ⟨rfl, hN8⟩
    have hz8 := hN8.size
    replace hE := hE.trans hN8.ext
    replace hA := hA.ext hN8.ext
    replace hB3 := hB3.ext hN8.ext
    replace hF25 := hF25.ext hN8.ext
    replace hN25 := hN25.ext hN8.ext
    replace hN28 := hN28.ext hN8.ext
    have hB8 : Blk w8 _ _ [_, _, _] := hN8.blk
    refine WL_s (ev_stores sz31 rfl rfl rfl (by simp [Value.oneCell']) hB8 (by simp)) ?_
    rintro _ w5_9 hS5_9
    have hz5_9 := hS5_9.size
    replace hE := hE.sto hS5_9 (by omega)
    replace hA := hA.sto hS5_9 (by omega)
    replace hB3 := hB3.sto hS5_9 (by omega)
    replace hF25 := hF25.sto hS5_9 (by omega)
    replace hN25 := hN25.sto hS5_9 (by omega)
    replace hN28 := hN28.sto hS5_9 (by omega)
    replace hB8 : Blk w5_9 _ _ [_, _, _] := hS5_9.blk
    refine WL_q rfl (ev_assign rfl) ?_
    refine WL_nil ?_
    refine thenE_n ?_
    refine W_seq ?_
    refine W_region ?_
    refine WL_q rfl (ev_loads st25 sz25 rfl (cellsB hB3) rfl) ?_
    refine WL_m rfl (ev_call rfl (toNetwork_spec _ A _ hA (by omega) (by omega))) ?_
    rintro _ w32 ⟨h32, rfl, hF32, hE32⟩
    have hz32 := hE32.size
    replace hE := hE.trans hE32
    replace hA := hA.ext hE32
    replace hB3 := hB3.ext hE32
    replace hF25 := hF25.ext hE32
    replace hN25 := hN25.ext hE32
    replace hN28 := hN28.ext hE32
    replace hB8 := hB8.ext hE32
    have hN32 := hF32.is
    refine WL_m rfl (ev_alloc zr31) ?_
    rintro _ w10 ⟨rfl, hN10⟩
    have hz10 := hN10.size
    replace hE := hE.trans hN10.ext
    replace hA := hA.ext hN10.ext
    replace hB3 := hB3.ext hN10.ext
    replace hF25 := hF25.ext hN10.ext
    replace hN25 := hN25.ext hN10.ext
    replace hN28 := hN28.ext hN10.ext
    replace hB8 := hB8.ext hN10.ext
    replace hF32 := hF32.ext hN10.ext
    replace hN32 := hN32.ext hN10.ext
    have hB10 : Blk w10 _ _ [_, _, _] := hN10.blk
    refine WL_s (ev_stores sz31 rfl rfl rfl (by simp [Value.oneCell']) hB10 (by simp)) ?_
    rintro _ w6_3 hS6_3
    have hz6_3 := hS6_3.size
    replace hE := hE.sto hS6_3 (by omega)
    replace hA := hA.sto hS6_3 (by omega)
    replace hB3 := hB3.sto hS6_3 (by omega)
    replace hF25 := hF25.sto hS6_3 (by omega)
    replace hN25 := hN25.sto hS6_3 (by omega)
    replace hN28 := hN28.sto hS6_3 (by omega)
    replace hB8 := hB8.sto hS6_3 (by omega)
    replace hF32 := hF32.sto hS6_3 (by omega)
    replace hN32 := hN32.sto hS6_3 (by omega)
    replace hB10 : Blk w6_3 _ _ [_, _, _] := hS6_3.blk
    refine WL_nil ?_
    refine thenE_n ?_
    refine W_seq ?_
    refine W_region ?_
    refine WL_q rfl (ev_loads st31 sz31 rfl (cellsB hB10) rfl) ?_
    refine WL_q rfl (ev_move rfl) ?_
    refine WL_q rfl (ev_move rfl) ?_
    refine WL_m rfl (ev_call rfl (UnfoldNetwork_spec _ A _ _ _ hN32 (by omega) (by omega))) ?_
    rintro _ w37 ⟨h37, U37, q37, rfl, hr37, hO37, hl37, hE37⟩
    have hz37 := hE37.size
    replace hE := hE.trans hE37
    replace hA := hA.ext hE37
    replace hB3 := hB3.ext hE37
    replace hF25 := hF25.ext hE37
    replace hN25 := hN25.ext hE37
    replace hN28 := hN28.ext hE37
    replace hB8 := hB8.ext hE37
    replace hF32 := hF32.ext hE37
    replace hN32 := hN32.ext hE37
    replace hB10 := hB10.ext hE37
    refine WL_q rfl (ev_move rfl) ?_
    refine WL_q rfl (ev_extract rfl rfl) ?_
    refine WL_q rfl (ev_extract rfl rfl) ?_
    refine WL_m rfl (ev_alloc zr31) ?_
    rintro _ w11 ⟨rfl, hN11⟩
    have hz11 := hN11.size
    replace hE := hE.trans hN11.ext
    replace hA := hA.ext hN11.ext
    replace hB3 := hB3.ext hN11.ext
    replace hF25 := hF25.ext hN11.ext
    replace hN25 := hN25.ext hN11.ext
    replace hN28 := hN28.ext hN11.ext
    replace hB8 := hB8.ext hN11.ext
    replace hF32 := hF32.ext hN11.ext
    replace hN32 := hN32.ext hN11.ext
    replace hB10 := hB10.ext hN11.ext
    replace hO37 := hO37.ext hN11.ext
    have hB11 : Blk w11 _ _ [_, _, _] := hN11.blk
    refine WL_s (ev_stores sz31 rfl rfl rfl (by simp [Value.oneCell']) hB11 (by simp)) ?_
    rintro _ w7_8 hS7_8
    have hz7_8 := hS7_8.size
    replace hE := hE.sto hS7_8 (by omega)
    replace hA := hA.sto hS7_8 (by omega)
    replace hB3 := hB3.sto hS7_8 (by omega)
    replace hF25 := hF25.sto hS7_8 (by omega)
    replace hN25 := hN25.sto hS7_8 (by omega)
    replace hN28 := hN28.sto hS7_8 (by omega)
    replace hB8 := hB8.sto hS7_8 (by omega)
    replace hF32 := hF32.sto hS7_8 (by omega)
    replace hN32 := hN32.sto hS7_8 (by omega)
    replace hB10 := hB10.sto hS7_8 (by omega)
    replace hO37 := hO37.sto hS7_8 (by omega)
    replace hB11 : Blk w7_8 _ _ [_, _, _] := hS7_8.blk
    refine WL_q rfl (ev_assign rfl) ?_
    refine WL_nil ?_
    refine thenE_n ?_
    refine W_seq ?_
    refine W_seq ?_
    refine W_region ?_
    refine WL_q rfl (ev_loads st31 sz31 rfl (cellsB hB11) rfl) ?_
    refine WL_q rfl (ev_loads st31 sz31 rfl (cellsB hB8) rfl) ?_
    have eU42 := hr28.det1 hr37
    subst eU42
    refine WL_m rfl (ev_call rfl (eqNetwork_spec _ _ U28 _ hO37.is hN28 (by omega))) ?_
    rintro _ w42 ⟨rfl, hE42⟩
    have hz42 := hE42.size
    replace hE := hE.trans hE42
    replace hA := hA.ext hE42
    replace hB3 := hB3.ext hE42
    replace hF25 := hF25.ext hE42
    replace hN25 := hN25.ext hE42
    replace hN28 := hN28.ext hE42
    replace hB8 := hB8.ext hE42
    replace hF32 := hF32.ext hE42
    replace hN32 := hN32.ext hE42
    replace hB10 := hB10.ext hE42
    replace hO37 := hO37.ext hE42
    replace hB11 := hB11.ext hE42
    refine WL_q rfl (ev_not rfl) ?_
    refine WL_q rfl (ev_move rfl) ?_
    refine WL_splitv (t := 44) rfl (fun hg43 => ?_) (fun hg43 => ?_)
    · have hg42 := not_true hg43
      refine WL_no rfl rfl hg43 rfl ?_
      refine WL_no rfl rfl hg43 rfl ?_
      refine WL_no rfl rfl hg43 rfl ?_
      refine WL_q rfl (ev_pick_t rfl hg43 rfl) ?_
      refine WL_nil ?_
      refine thenE_n ?_
      refine W_cond_t rfl ?_
      refine W_seq ?_
      refine W_region ?_
      refine WL_q rfl (ev_assign rfl) ?_
      refine WL_nil ?_
      refine thenE_n ?_
      refine W_ret ?_
      refine thenE_r ?_
      refine ret1 rfl rfl ?_
      first | (exact ⟨rfl, hE⟩) | (exact (bneE hg42 (hr37.det1 hr28)).elim) | (exact absurd (hr37.det1 hr28) hp42) | (exact absurd (hr37.det1 hr28) (of_decide_eq_false hg42)) | (exact (bneE hg42 (hr37.det2 hr28)).elim) | (exact absurd (hr37.det2 hr28) hp42) | (exact absurd (hr37.det2 hr28) (of_decide_eq_false hg42)) | (exact (bneE hg42 (hr37.det3 hr28)).elim) | (exact absurd (hr37.det3 hr28) hp42) | (exact absurd (hr37.det3 hr28) (of_decide_eq_false hg42)) | (exact (tfX hg42).elim) | (exact (decF hg42).elim) | (exfalso; omega)
    · have hg42 := not_false hg43
      refine WL_qg rfl rfl hg43 rfl (ev_move rfl) ?_
      refine WL_qg rfl rfl hg43 rfl (ev_move rfl) ?_
      refine WL_qg rfl rfl hg43 rfl (ev_neq_b Try.underlying4 rfl rfl) ?_
      refine WL_q rfl (ev_pick_f rfl hg43 rfl) ?_
      refine WL_nil ?_
      refine thenE_n ?_
      refine W_cond rfl (fun hg47 => ?_) (fun hg47 => ?_)
      · refine W_seq ?_
        refine W_region ?_
        refine WL_q rfl (ev_assign rfl) ?_
        refine WL_nil ?_
        refine thenE_n ?_
        refine W_ret ?_
        refine thenE_r ?_
        refine ret1 rfl rfl ?_
        first | (exact ⟨rfl, hE⟩) | (exact (bneE hg47 (hr37.det1 hr28)).elim) | (exact absurd (hr37.det1 hr28) hp47) | (exact absurd (hr37.det1 hr28) (of_decide_eq_false hg47)) | (exact (bneE hg47 (hr37.det2 hr28)).elim) | (exact absurd (hr37.det2 hr28) hp47) | (exact absurd (hr37.det2 hr28) (of_decide_eq_false hg47)) | (exact (bneE hg47 (hr37.det3 hr28)).elim) | (exact absurd (hr37.det3 hr28) hp47) | (exact absurd (hr37.det3 hr28) (of_decide_eq_false hg47)) | (exact (tfX hg47).elim) | (exact (decF hg47).elim) | (exfalso; omega)
      · refine W_skip ?_
        refine thenE_n ?_
        refine W_seq ?_
        refine W_seq ?_
        refine W_drawE [(0, true), (1, true), (2, false), (3, false), (4, true)] mixed (by kernel_rfl) rfl (by kernel_rfl) ?_
        intro wd10 hEd10 hzd10
        replace hE := hE.trans hEd10
        replace hA := hA.ext hEd10
        replace hB3 := hB3.ext hEd10
        replace hF25 := hF25.ext hEd10
        replace hN25 := hN25.ext hEd10
        replace hN28 := hN28.ext hEd10
        replace hB8 := hB8.ext hEd10
        replace hF32 := hF32.ext hEd10
        replace hN32 := hN32.ext hEd10
        replace hB10 := hB10.ext hEd10
        replace hO37 := hO37.ext hEd10
        replace hB11 := hB11.ext hEd10
        have hDd10 := Ext.refl wd10
        refine PW_q rfl rfl (fun wq hq => ev_loads st31 sz31 rfl (cellsB (hq.blk hB10)) rfl) ?_
        refine PW_q rfl rfl (fun wq hq => ev_loads st25 sz25 rfl (cellsB (hq.blk hB3)) rfl) ?_
        refine PW_m rfl rfl (ev_call rfl (toNetwork_spec _ A _ hA (by omega) (by omega))) ?_
        rintro _ w51 ⟨h51, rfl, hF51, hE51⟩
        have hz51 := hE51.size
        replace hE := hE.trans hE51
        replace hDd10 := hDd10.trans hE51
        have hN51 := hF51.is
        refine ⟨hDd10, ?_⟩
        have hA_3 := hA.ext hDd10
        have hB3_3 := hB3.ext hDd10
        have hF25_3 := hF25.ext hDd10
        have hN25_3 := hN25.ext hDd10
        have hN28_3 := hN28.ext hDd10
        have hB8_3 := hB8.ext hDd10
        have hF32_3 := hF32.ext hDd10
        have hN32_3 := hN32.ext hDd10
        have hB10_3 := hB10.ext hDd10
        have hO37_3 := hO37.ext hDd10
        have hB11_3 := hB11.ext hDd10
        refine PW_m rfl rfl (ev_call rfl (eqNetwork_spec _ _ A _ hN32_3 hN51 (by omega))) ?_
        rintro _ w52 ⟨rfl, hE52⟩
        have hz52 := hE52.size
        replace hE := hE.trans hE52
        replace hDd10 := hDd10.trans hE52
        replace hF51 := hF51.ext hE52
        replace hN51 := hN51.ext hE52
        refine ⟨hDd10, ?_⟩
        refine PW_q rfl rfl (fun wq hq => ev_not rfl) ?_
        replace hA := hA.ext hDd10
        replace hB3 := hB3.ext hDd10
        replace hF25 := hF25.ext hDd10
        replace hN25 := hN25.ext hDd10
        replace hN28 := hN28.ext hDd10
        replace hB8 := hB8.ext hDd10
        replace hF32 := hF32.ext hDd10
        replace hN32 := hN32.ext hDd10
        replace hB10 := hB10.ext hDd10
        replace hO37 := hO37.ext hDd10
        replace hB11 := hB11.ext hDd10
        refine PW_nil ?_
        refine thenE_n ?_
        refine W_cond rfl (fun hg53 => ?_) (fun hg53 => ?_)
        · have hg52 := not_true hg53
          refine W_seq ?_
          refine W_region ?_
          refine WL_q rfl (ev_assign rfl) ?_
          refine WL_nil ?_
          refine thenE_n ?_
          refine W_ret ?_
          refine thenE_r ?_
          refine ret1 rfl rfl ?_
          first | (exact ⟨rfl, hE⟩) | (exact (bneE hg52 (hr37.det1 hr28)).elim) | (exact absurd (hr37.det1 hr28) hp52) | (exact absurd (hr37.det1 hr28) (of_decide_eq_false hg52)) | (exact (bneE hg52 (hr37.det2 hr28)).elim) | (exact absurd (hr37.det2 hr28) hp52) | (exact absurd (hr37.det2 hr28) (of_decide_eq_false hg52)) | (exact (bneE hg52 (hr37.det3 hr28)).elim) | (exact absurd (hr37.det3 hr28) hp52) | (exact absurd (hr37.det3 hr28) (of_decide_eq_false hg52)) | (exact (tfX hg52).elim) | (exact (decF hg52).elim) | (exfalso; omega)
        · have hg52 := not_false hg53
          refine W_skip ?_
          refine thenE_n ?_
          refine W_seq ?_
          refine W_region ?_
          refine WL_q rfl (ev_assign rfl) ?_
          refine WL_nil ?_
          refine thenE_n ?_
          refine W_seq ?_
          refine W_region ?_
          refine WL_q rfl (ev_loads st31 sz31 rfl (cellsB hB10) rfl) ?_
          refine WL_q rfl (ev_move rfl) ?_
          refine WL_m rfl (ev_call rfl (markNetwork_spec _ A _ _ hF32 (by omega) (by omega) (by omega))) ?_
          rintro _ w56 ⟨r56, rfl, hr56, hK56⟩
          have hz56 := hK56.size
          replace hE := hE.mrk hK56 (by omega)
          replace hA := hA.mrk hK56 (by omega)
          replace hB3 := hB3.mrk hK56 (by omega)
          replace hF25 := hF25.mrk hK56 (by omega)
          replace hN25 := hN25.mrk hK56 (by omega)
          replace hN28 := hN28.mrk hK56 (by omega)
          replace hB8 := hB8.mrk hK56 (by omega)
          replace hB10 := hB10.mrk hK56 (by omega)
          replace hO37 := hO37.mrk hK56 (by omega)
          replace hB11 := hB11.mrk hK56 (by omega)
          replace hF51 := hF51.mrk hK56 (by omega)
          replace hN51 := hN51.mrk hK56 (by omega)
          refine WL_q rfl (ev_assign rfl) ?_
          refine WL_nil ?_
          refine thenE_n ?_
          refine W_seq ?_
          refine W_seq ?_
          refine W_region ?_
          refine WL_q rfl (ev_move rfl) ?_
          refine WL_q rfl (ev_lss rfl rfl) ?_
          refine WL_q rfl (ev_move rfl) ?_
          refine WL_splitv (t := 59) rfl (fun hg58 => ?_) (fun hg58 => ?_)
          · have hp58 := of_decide_eq_true hg58
            refine WL_no rfl rfl hg58 rfl ?_
            refine WL_no rfl rfl hg58 rfl ?_
            refine WL_no rfl rfl hg58 rfl ?_
            refine WL_no rfl rfl hg58 rfl ?_
            refine WL_q rfl (ev_pick_t rfl hg58 rfl) ?_
            refine WL_q rfl (ev_move rfl) ?_
            refine WL_no rfl rfl rfl rfl ?_
            refine WL_no rfl rfl rfl rfl ?_
            refine WL_no rfl rfl rfl rfl ?_
            refine WL_q rfl (ev_pick_t rfl rfl rfl) ?_
            refine WL_nil ?_
            refine thenE_n ?_
            refine W_cond_t rfl ?_
            refine W_seq ?_
            refine W_region ?_
            refine WL_q rfl (ev_assign rfl) ?_
            refine WL_nil ?_
            refine thenE_n ?_
            refine W_ret ?_
            refine thenE_r ?_
            refine ret1 rfl rfl ?_
            first | (exact ⟨rfl, hE⟩) | (exact (bneE hg58 (hr37.det1 hr28)).elim) | (exact absurd (hr37.det1 hr28) hp58) | (exact absurd (hr37.det1 hr28) (of_decide_eq_false hg58)) | (exact (bneE hg58 (hr37.det2 hr28)).elim) | (exact absurd (hr37.det2 hr28) hp58) | (exact absurd (hr37.det2 hr28) (of_decide_eq_false hg58)) | (exact (bneE hg58 (hr37.det3 hr28)).elim) | (exact absurd (hr37.det3 hr28) hp58) | (exact absurd (hr37.det3 hr28) (of_decide_eq_false hg58)) | (exact (tfX hg58).elim) | (exact (decF hg58).elim) | (exfalso; omega)
          · have hp58 := of_decide_eq_false hg58
            refine WL_qg rfl rfl hg58 rfl (ev_loads st31 sz31 rfl (cellsB hB11) rfl) ?_
            refine WL_qg rfl rfl hg58 rfl (ev_loads st31 sz31 rfl (cellsB hB8) rfl) ?_
            refine WL_mg rfl rfl hg58 rfl (ev_call rfl (eqNetwork_spec _ _ U28 _ hO37.is hN28 (by omega))) ?_
            rintro _ w62 ⟨rfl, hE62⟩
            have hz62 := hE62.size
            replace hE := hE.trans hE62
            replace hA := hA.ext hE62
            replace hB3 := hB3.ext hE62
            replace hF25 := hF25.ext hE62
            replace hN25 := hN25.ext hE62
            replace hN28 := hN28.ext hE62
            replace hB8 := hB8.ext hE62
            replace hB10 := hB10.ext hE62
            replace hO37 := hO37.ext hE62
            replace hB11 := hB11.ext hE62
            replace hF51 := hF51.ext hE62
            replace hN51 := hN51.ext hE62
            refine WL_qg rfl rfl hg58 rfl (ev_not rfl) ?_
            refine WL_q rfl (ev_pick_f rfl hg58 rfl) ?_
            refine WL_q rfl (ev_move rfl) ?_
            refine WL_splitv (t := 65) rfl (fun hg63 => ?_) (fun hg63 => ?_)
            · have hg62 := not_true hg63
              refine WL_no rfl rfl hg63 rfl ?_
              refine WL_no rfl rfl hg63 rfl ?_
              refine WL_no rfl rfl hg63 rfl ?_
              refine WL_q rfl (ev_pick_t rfl hg63 rfl) ?_
              refine WL_nil ?_
              refine thenE_n ?_
              refine W_cond_t rfl ?_
              refine W_seq ?_
              refine W_region ?_
              refine WL_q rfl (ev_assign rfl) ?_
              refine WL_nil ?_
              refine thenE_n ?_
              refine W_ret ?_
              refine thenE_r ?_
              refine ret1 rfl rfl ?_
              first | (exact ⟨rfl, hE⟩) | (exact (bneE hg62 (hr37.det1 hr28)).elim) | (exact absurd (hr37.det1 hr28) hp62) | (exact absurd (hr37.det1 hr28) (of_decide_eq_false hg62)) | (exact (bneE hg62 (hr37.det2 hr28)).elim) | (exact absurd (hr37.det2 hr28) hp62) | (exact absurd (hr37.det2 hr28) (of_decide_eq_false hg62)) | (exact (bneE hg62 (hr37.det3 hr28)).elim) | (exact absurd (hr37.det3 hr28) hp62) | (exact absurd (hr37.det3 hr28) (of_decide_eq_false hg62)) | (exact (tfX hg62).elim) | (exact (decF hg62).elim) | (exfalso; omega)
            · have hg62 := not_false hg63
              refine WL_qg rfl rfl hg63 rfl (ev_move rfl) ?_
              refine WL_qg rfl rfl hg63 rfl (ev_move rfl) ?_
              refine WL_qg rfl rfl hg63 rfl (ev_neq_b Try.underlying4 rfl rfl) ?_
              refine WL_q rfl (ev_pick_f rfl hg63 rfl) ?_
              refine WL_nil ?_
              refine thenE_n ?_
              refine W_cond rfl (fun hg68 => ?_) (fun hg68 => ?_)
              · refine W_seq ?_
                refine W_region ?_
                refine WL_q rfl (ev_assign rfl) ?_
                refine WL_nil ?_
                refine thenE_n ?_
                refine W_ret ?_
                refine thenE_r ?_
                refine ret1 rfl rfl ?_
                first | (exact ⟨rfl, hE⟩) | (exact (bneE hg68 (hr37.det1 hr28)).elim) | (exact absurd (hr37.det1 hr28) hp68) | (exact absurd (hr37.det1 hr28) (of_decide_eq_false hg68)) | (exact (bneE hg68 (hr37.det2 hr28)).elim) | (exact absurd (hr37.det2 hr28) hp68) | (exact absurd (hr37.det2 hr28) (of_decide_eq_false hg68)) | (exact (bneE hg68 (hr37.det3 hr28)).elim) | (exact absurd (hr37.det3 hr28) hp68) | (exact absurd (hr37.det3 hr28) (of_decide_eq_false hg68)) | (exact (tfX hg68).elim) | (exact (decF hg68).elim) | (exfalso; omega)
              · refine W_skip ?_
                refine thenE_n ?_
                refine W_seq ?_
                refine W_region ?_
                refine WL_q rfl (ev_assign rfl) ?_
                refine WL_nil ?_
                refine thenE_n ?_
                refine W_seq ?_
                refine W_region ?_
                refine WL_q rfl (ev_loads st31 sz31 rfl (cellsB hB11) rfl) ?_
                refine WL_q rfl (ev_move rfl) ?_
                refine WL_m rfl (ev_call rfl (markNetwork_net _ U28 _ _ hO37 (by omega) (by omega) (by omega))) ?_
                rintro _ w72 ⟨rfl, hO72, hK72⟩
                have hz72 := hK72.size
                have hR72 := hK72
                replace hE := hE.rg hR72 (by omega)
                replace hA := hA.rg hR72 (by omega)
                replace hB3 := hB3.rg hR72 (by omega)
                replace hF25 := hF25.rg hR72 (by omega)
                replace hN25 := hN25.rg hR72 (by omega)
                replace hN28 := hN28.rg hR72 (by omega)
                replace hB8 := hB8.rg hR72 (by omega)
                replace hB10 := hB10.rg hR72 (by omega)
                replace hB11 := hB11.rg hR72 (by omega)
                replace hF51 := hF51.rg hR72 (by omega)
                replace hN51 := hN51.rg hR72 (by omega)
                replace hO37 := hO72
                have hmk : 1 ≤ mkT 1 U28 := by unfold mkT; omega
                refine WL_q rfl (ev_assign rfl) ?_
                refine WL_nil ?_
                refine thenE_n ?_
                refine W_seq ?_
                refine W_region ?_
                refine WL_q rfl (ev_assign rfl) ?_
                refine WL_nil ?_
                refine thenE_n ?_
                refine W_seq ?_
                refine W_region ?_
                refine WL_q rfl (ev_loads st31 sz31 rfl (cellsB hB11) rfl) ?_
                refine WL_q rfl (ev_move rfl) ?_
                refine WL_m rfl (ev_call rfl (heldNetwork_net _ U28 _ _ hO37.is (by omega) (by omega))) ?_
                rintro _ w75 ⟨rfl, hE75⟩
                have hz75 := hE75.size
                replace hE := hE.trans hE75
                replace hA := hA.ext hE75
                replace hB3 := hB3.ext hE75
                replace hF25 := hF25.ext hE75
                replace hN25 := hN25.ext hE75
                replace hN28 := hN28.ext hE75
                replace hB8 := hB8.ext hE75
                replace hB10 := hB10.ext hE75
                replace hO37 := hO37.ext hE75
                replace hB11 := hB11.ext hE75
                replace hF51 := hF51.ext hE75
                replace hN51 := hN51.ext hE75
                refine WL_q rfl (ev_assign rfl) ?_
                refine WL_nil ?_
                refine thenE_n ?_
                refine W_seq ?_
                refine W_seq ?_
                refine W_region ?_
                refine WL_q rfl (ev_move rfl) ?_
                refine WL_q rfl (ev_lss rfl rfl) ?_
                refine WL_nil ?_
                refine thenE_n ?_
                refine W_cond rfl (fun hg77 => ?_) (fun hg77 => ?_)
                · have hp77 := of_decide_eq_true hg77
                  refine W_seq ?_
                  refine W_region ?_
                  refine WL_q rfl (ev_assign rfl) ?_
                  refine WL_nil ?_
                  refine thenE_n ?_
                  refine W_ret ?_
                  refine thenE_r ?_
                  refine ret1 rfl rfl ?_
                  first | (exact ⟨rfl, hE⟩) | (exact (bneE hg77 (hr37.det1 hr28)).elim) | (exact absurd (hr37.det1 hr28) hp77) | (exact absurd (hr37.det1 hr28) (of_decide_eq_false hg77)) | (exact (bneE hg77 (hr37.det2 hr28)).elim) | (exact absurd (hr37.det2 hr28) hp77) | (exact absurd (hr37.det2 hr28) (of_decide_eq_false hg77)) | (exact (bneE hg77 (hr37.det3 hr28)).elim) | (exact absurd (hr37.det3 hr28) hp77) | (exact absurd (hr37.det3 hr28) (of_decide_eq_false hg77)) | (exact (tfX hg77).elim) | (exact (decF hg77).elim) | (exfalso; omega)
                · have hp77 := of_decide_eq_false hg77
                  refine W_skip ?_
                  refine thenE_n ?_
                  refine W_seq ?_
                  refine W_seq ?_
                  refine W_region ?_
                  refine WL_q rfl (ev_move rfl) ?_
                  refine WL_q rfl (ev_move rfl) ?_
                  refine WL_q rfl (ev_neq rfl rfl) ?_
                  refine WL_nil ?_
                  refine thenE_n ?_
                  refine W_cond rfl (fun hg80 => ?_) (fun hg80 => ?_)
                  · have hp80 := of_decide_eq_true hg80
                    refine W_seq ?_
                    refine W_region ?_
                    refine WL_q rfl (ev_assign rfl) ?_
                    refine WL_nil ?_
                    refine thenE_n ?_
                    refine W_ret ?_
                    refine thenE_r ?_
                    refine ret1 rfl rfl ?_
                    first | (exact ⟨rfl, hE⟩) | (exact (bneE hg80 (hr37.det1 hr28)).elim) | (exact absurd (hr37.det1 hr28) hp80) | (exact absurd (hr37.det1 hr28) (of_decide_eq_false hg80)) | (exact (bneE hg80 (hr37.det2 hr28)).elim) | (exact absurd (hr37.det2 hr28) hp80) | (exact absurd (hr37.det2 hr28) (of_decide_eq_false hg80)) | (exact (bneE hg80 (hr37.det3 hr28)).elim) | (exact absurd (hr37.det3 hr28) hp80) | (exact absurd (hr37.det3 hr28) (of_decide_eq_false hg80)) | (exact (tfX hg80).elim) | (exact (decF hg80).elim) | (exfalso; omega)
                  · have hp80 := of_decide_eq_false hg80
                    refine W_skip ?_
                    refine thenE_n ?_
                    refine W_seq ?_
                    refine W_region ?_
                    refine WL_q rfl (ev_loads st25 sz25 rfl (cellsB hB3) rfl) ?_
                    refine WL_m rfl (ev_call rfl (toNetwork_spec _ A _ hA (by omega) (by omega))) ?_
                    rintro _ w83 ⟨h83, rfl, hF83, hE83⟩
                    have hz83 := hE83.size
                    replace hE := hE.trans hE83
                    replace hA := hA.ext hE83
                    replace hB3 := hB3.ext hE83
                    replace hF25 := hF25.ext hE83
                    replace hN25 := hN25.ext hE83
                    replace hN28 := hN28.ext hE83
                    replace hB8 := hB8.ext hE83
                    replace hB10 := hB10.ext hE83
                    replace hO37 := hO37.ext hE83
                    replace hB11 := hB11.ext hE83
                    replace hF51 := hF51.ext hE83
                    replace hN51 := hN51.ext hE83
                    have hN83 := hF83.is
                    refine WL_q rfl (ev_move rfl) ?_
                    refine WL_q rfl (ev_move rfl) ?_
                    refine WL_m rfl (ev_call rfl (UnfoldNetwork_spec _ A _ _ _ hN83 (by omega) (by omega))) ?_
                    rintro _ w86 ⟨h86, U86, q86, rfl, hr86, hO86, hl86, hE86⟩
                    have hz86 := hE86.size
                    replace hE := hE.trans hE86
                    replace hA := hA.ext hE86
                    replace hB3 := hB3.ext hE86
                    replace hF25 := hF25.ext hE86
                    replace hN25 := hN25.ext hE86
                    replace hN28 := hN28.ext hE86
                    replace hB8 := hB8.ext hE86
                    replace hB10 := hB10.ext hE86
                    replace hO37 := hO37.ext hE86
                    replace hB11 := hB11.ext hE86
                    replace hF51 := hF51.ext hE86
                    replace hN51 := hN51.ext hE86
                    replace hF83 := hF83.ext hE86
                    replace hN83 := hN83.ext hE86
                    refine WL_q rfl (ev_move rfl) ?_
                    refine WL_q rfl (ev_extract rfl rfl) ?_
                    refine WL_q rfl (ev_extract rfl rfl) ?_
                    refine WL_m rfl (ev_alloc zr31) ?_
                    rintro _ w16 ⟨rfl, hN16⟩
                    have hz16 := hN16.size
                    replace hE := hE.trans hN16.ext
                    replace hA := hA.ext hN16.ext
                    replace hB3 := hB3.ext hN16.ext
                    replace hF25 := hF25.ext hN16.ext
                    replace hN25 := hN25.ext hN16.ext
                    replace hN28 := hN28.ext hN16.ext
                    replace hB8 := hB8.ext hN16.ext
                    replace hB10 := hB10.ext hN16.ext
                    replace hO37 := hO37.ext hN16.ext
                    replace hB11 := hB11.ext hN16.ext
                    replace hF51 := hF51.ext hN16.ext
                    replace hN51 := hN51.ext hN16.ext
                    replace hF83 := hF83.ext hN16.ext
                    replace hN83 := hN83.ext hN16.ext
                    replace hO86 := hO86.ext hN16.ext
                    have hB16 : Blk w16 _ _ [_, _, _] := hN16.blk
                    refine WL_s (ev_stores sz31 rfl rfl rfl (by simp [Value.oneCell']) hB16 (by simp)) ?_
                    rintro _ w24_9 hS24_9
                    have hz24_9 := hS24_9.size
                    replace hE := hE.sto hS24_9 (by omega)
                    replace hA := hA.sto hS24_9 (by omega)
                    replace hB3 := hB3.sto hS24_9 (by omega)
                    replace hF25 := hF25.sto hS24_9 (by omega)
                    replace hN25 := hN25.sto hS24_9 (by omega)
                    replace hN28 := hN28.sto hS24_9 (by omega)
                    replace hB8 := hB8.sto hS24_9 (by omega)
                    replace hB10 := hB10.sto hS24_9 (by omega)
                    replace hO37 := hO37.sto hS24_9 (by omega)
                    replace hB11 := hB11.sto hS24_9 (by omega)
                    replace hF51 := hF51.sto hS24_9 (by omega)
                    replace hN51 := hN51.sto hS24_9 (by omega)
                    replace hF83 := hF83.sto hS24_9 (by omega)
                    replace hN83 := hN83.sto hS24_9 (by omega)
                    replace hO86 := hO86.sto hS24_9 (by omega)
                    replace hB16 : Blk w24_9 _ _ [_, _, _] := hS24_9.blk
                    refine WL_q rfl (ev_assign rfl) ?_
                    refine WL_nil ?_
                    refine thenE_n ?_
                    refine W_seq ?_
                    refine W_seq ?_
                    refine W_region ?_
                    refine WL_q rfl (ev_loads st31 sz31 rfl (cellsB hB16) rfl) ?_
                    refine WL_q rfl (ev_loads st31 sz31 rfl (cellsB hB8) rfl) ?_
                    have eU91 := hr28.det1 hr86
                    subst eU91
                    refine WL_m rfl (ev_call rfl (eqNetwork_spec _ _ U28 _ hO86.is hN28 (by omega))) ?_
                    rintro _ w91 ⟨rfl, hE91⟩
                    have hz91 := hE91.size
                    replace hE := hE.trans hE91
                    replace hA := hA.ext hE91
                    replace hB3 := hB3.ext hE91
                    replace hF25 := hF25.ext hE91
                    replace hN25 := hN25.ext hE91
                    replace hN28 := hN28.ext hE91
                    replace hB8 := hB8.ext hE91
                    replace hB10 := hB10.ext hE91
                    replace hO37 := hO37.ext hE91
                    replace hB11 := hB11.ext hE91
                    replace hF51 := hF51.ext hE91
                    replace hN51 := hN51.ext hE91
                    replace hF83 := hF83.ext hE91
                    replace hN83 := hN83.ext hE91
                    replace hO86 := hO86.ext hE91
                    replace hB16 := hB16.ext hE91
                    refine WL_q rfl (ev_not rfl) ?_
                    refine WL_q rfl (ev_move rfl) ?_
                    refine WL_splitv (t := 93) rfl (fun hg92 => ?_) (fun hg92 => ?_)
                    · have hg91 := not_true hg92
                      refine WL_no rfl rfl hg92 rfl ?_
                      refine WL_no rfl rfl hg92 rfl ?_
                      refine WL_no rfl rfl hg92 rfl ?_
                      refine WL_q rfl (ev_pick_t rfl hg92 rfl) ?_
                      refine WL_nil ?_
                      refine thenE_n ?_
                      refine W_cond_t rfl ?_
                      refine W_seq ?_
                      refine W_region ?_
                      refine WL_q rfl (ev_assign rfl) ?_
                      refine WL_nil ?_
                      refine thenE_n ?_
                      refine W_ret ?_
                      refine thenE_r ?_
                      refine ret1 rfl rfl ?_
                      first | (exact ⟨rfl, hE⟩) | (exact (bneE hg91 (hr86.det1 hr28)).elim) | (exact absurd (hr86.det1 hr28) hp91) | (exact absurd (hr86.det1 hr28) (of_decide_eq_false hg91)) | (exact (bneE hg91 (hr86.det2 hr28)).elim) | (exact absurd (hr86.det2 hr28) hp91) | (exact absurd (hr86.det2 hr28) (of_decide_eq_false hg91)) | (exact (bneE hg91 (hr86.det3 hr28)).elim) | (exact absurd (hr86.det3 hr28) hp91) | (exact absurd (hr86.det3 hr28) (of_decide_eq_false hg91)) | (exact (bneE hg91 (hr37.det1 hr28)).elim) | (exact absurd (hr37.det1 hr28) hp91) | (exact absurd (hr37.det1 hr28) (of_decide_eq_false hg91)) | (exact (bneE hg91 (hr37.det2 hr28)).elim) | (exact absurd (hr37.det2 hr28) hp91) | (exact absurd (hr37.det2 hr28) (of_decide_eq_false hg91)) | (exact (bneE hg91 (hr37.det3 hr28)).elim) | (exact absurd (hr37.det3 hr28) hp91) | (exact absurd (hr37.det3 hr28) (of_decide_eq_false hg91)) | (exact (tfX hg91).elim) | (exact (decF hg91).elim) | (exfalso; omega)
                    · have hg91 := not_false hg92
                      refine WL_qg rfl rfl hg92 rfl (ev_move rfl) ?_
                      refine WL_qg rfl rfl hg92 rfl (ev_move rfl) ?_
                      refine WL_qg rfl rfl hg92 rfl (ev_neq_b Try.underlying4 rfl rfl) ?_
                      refine WL_q rfl (ev_pick_f rfl hg92 rfl) ?_
                      refine WL_nil ?_
                      refine thenE_n ?_
                      refine W_cond rfl (fun hg96 => ?_) (fun hg96 => ?_)
                      · refine W_seq ?_
                        refine W_region ?_
                        refine WL_q rfl (ev_assign rfl) ?_
                        refine WL_nil ?_
                        refine thenE_n ?_
                        refine W_ret ?_
                        refine thenE_r ?_
                        refine ret1 rfl rfl ?_
                        first | (exact ⟨rfl, hE⟩) | (exact (bneE hg96 (hr86.det1 hr28)).elim) | (exact absurd (hr86.det1 hr28) hp96) | (exact absurd (hr86.det1 hr28) (of_decide_eq_false hg96)) | (exact (bneE hg96 (hr86.det2 hr28)).elim) | (exact absurd (hr86.det2 hr28) hp96) | (exact absurd (hr86.det2 hr28) (of_decide_eq_false hg96)) | (exact (bneE hg96 (hr86.det3 hr28)).elim) | (exact absurd (hr86.det3 hr28) hp96) | (exact absurd (hr86.det3 hr28) (of_decide_eq_false hg96)) | (exact (bneE hg96 (hr37.det1 hr28)).elim) | (exact absurd (hr37.det1 hr28) hp96) | (exact absurd (hr37.det1 hr28) (of_decide_eq_false hg96)) | (exact (bneE hg96 (hr37.det2 hr28)).elim) | (exact absurd (hr37.det2 hr28) hp96) | (exact absurd (hr37.det2 hr28) (of_decide_eq_false hg96)) | (exact (bneE hg96 (hr37.det3 hr28)).elim) | (exact absurd (hr37.det3 hr28) hp96) | (exact absurd (hr37.det3 hr28) (of_decide_eq_false hg96)) | (exact (tfX hg96).elim) | (exact (decF hg96).elim) | (exfalso; omega)
                      · refine W_skip ?_
                        refine thenE_n ?_
                        refine W_seq ?_
                        refine W_region ?_
                        refine WL_q rfl (ev_assign rfl) ?_
                        refine WL_nil ?_
                        refine thenE_n ?_
                        refine W_seq ?_
                        refine W_region ?_
                        refine WL_q rfl (ev_loads st31 sz31 rfl (cellsB hB11) rfl) ?_
                        refine WL_q rfl (ev_move rfl) ?_
                        refine WL_m rfl (ev_call rfl (heldNetwork_net _ U28 _ _ hO37.is (by omega) (by omega))) ?_
                        rintro _ w100 ⟨rfl, hE100⟩
                        have hz100 := hE100.size
                        replace hE := hE.trans hE100
                        replace hA := hA.ext hE100
                        replace hB3 := hB3.ext hE100
                        replace hF25 := hF25.ext hE100
                        replace hN25 := hN25.ext hE100
                        replace hN28 := hN28.ext hE100
                        replace hB8 := hB8.ext hE100
                        replace hB10 := hB10.ext hE100
                        replace hO37 := hO37.ext hE100
                        replace hB11 := hB11.ext hE100
                        replace hF51 := hF51.ext hE100
                        replace hN51 := hN51.ext hE100
                        replace hF83 := hF83.ext hE100
                        replace hN83 := hN83.ext hE100
                        replace hO86 := hO86.ext hE100
                        replace hB16 := hB16.ext hE100
                        refine WL_q rfl (ev_assign rfl) ?_
                        refine WL_nil ?_
                        refine thenE_n ?_
                        refine W_seq ?_
                        refine W_seq ?_
                        refine W_region ?_
                        refine WL_q rfl (ev_move rfl) ?_
                        refine WL_q rfl (ev_lss rfl rfl) ?_
                        refine WL_nil ?_
                        refine thenE_n ?_
                        refine W_cond rfl (fun hg102 => ?_) (fun hg102 => ?_)
                        · have hp102 := of_decide_eq_true hg102
                          refine W_seq ?_
                          refine W_region ?_
                          refine WL_q rfl (ev_assign rfl) ?_
                          refine WL_nil ?_
                          refine thenE_n ?_
                          refine W_ret ?_
                          refine thenE_r ?_
                          refine ret1 rfl rfl ?_
                          first | (exact ⟨rfl, hE⟩) | (exact (bneE hg102 (hr86.det1 hr28)).elim) | (exact absurd (hr86.det1 hr28) hp102) | (exact absurd (hr86.det1 hr28) (of_decide_eq_false hg102)) | (exact (bneE hg102 (hr86.det2 hr28)).elim) | (exact absurd (hr86.det2 hr28) hp102) | (exact absurd (hr86.det2 hr28) (of_decide_eq_false hg102)) | (exact (bneE hg102 (hr86.det3 hr28)).elim) | (exact absurd (hr86.det3 hr28) hp102) | (exact absurd (hr86.det3 hr28) (of_decide_eq_false hg102)) | (exact (bneE hg102 (hr37.det1 hr28)).elim) | (exact absurd (hr37.det1 hr28) hp102) | (exact absurd (hr37.det1 hr28) (of_decide_eq_false hg102)) | (exact (bneE hg102 (hr37.det2 hr28)).elim) | (exact absurd (hr37.det2 hr28) hp102) | (exact absurd (hr37.det2 hr28) (of_decide_eq_false hg102)) | (exact (bneE hg102 (hr37.det3 hr28)).elim) | (exact absurd (hr37.det3 hr28) hp102) | (exact absurd (hr37.det3 hr28) (of_decide_eq_false hg102)) | (exact (tfX hg102).elim) | (exact (decF hg102).elim) | (exfalso; omega)
                        · have hp102 := of_decide_eq_false hg102
                          refine W_skip ?_
                          refine thenE_n ?_
                          refine W_seq ?_
                          refine W_seq ?_
                          refine W_region ?_
                          refine WL_q rfl (ev_move rfl) ?_
                          refine WL_q rfl (ev_move rfl) ?_
                          refine WL_q rfl (ev_neq rfl rfl) ?_
                          refine WL_nil ?_
                          refine thenE_n ?_
                          refine W_cond rfl (fun hg105 => ?_) (fun hg105 => ?_)
                          · have hp105 := of_decide_eq_true hg105
                            refine W_seq ?_
                            refine W_region ?_
                            refine WL_q rfl (ev_assign rfl) ?_
                            refine WL_nil ?_
                            refine thenE_n ?_
                            refine W_ret ?_
                            refine thenE_r ?_
                            refine ret1 rfl rfl ?_
                            first | (exact ⟨rfl, hE⟩) | (exact (bneE hg105 (hr86.det1 hr28)).elim) | (exact absurd (hr86.det1 hr28) hp105) | (exact absurd (hr86.det1 hr28) (of_decide_eq_false hg105)) | (exact (bneE hg105 (hr86.det2 hr28)).elim) | (exact absurd (hr86.det2 hr28) hp105) | (exact absurd (hr86.det2 hr28) (of_decide_eq_false hg105)) | (exact (bneE hg105 (hr86.det3 hr28)).elim) | (exact absurd (hr86.det3 hr28) hp105) | (exact absurd (hr86.det3 hr28) (of_decide_eq_false hg105)) | (exact (bneE hg105 (hr37.det1 hr28)).elim) | (exact absurd (hr37.det1 hr28) hp105) | (exact absurd (hr37.det1 hr28) (of_decide_eq_false hg105)) | (exact (bneE hg105 (hr37.det2 hr28)).elim) | (exact absurd (hr37.det2 hr28) hp105) | (exact absurd (hr37.det2 hr28) (of_decide_eq_false hg105)) | (exact (bneE hg105 (hr37.det3 hr28)).elim) | (exact absurd (hr37.det3 hr28) hp105) | (exact absurd (hr37.det3 hr28) (of_decide_eq_false hg105)) | (exact (tfX hg105).elim) | (exact (decF hg105).elim) | (exfalso; omega)
                          · have hp105 := of_decide_eq_false hg105
                            refine W_skip ?_
                            refine thenE_n ?_
                            refine W_seq ?_
                            refine W_region ?_
                            refine WL_q rfl (ev_assign rfl) ?_
                            refine WL_nil ?_
                            refine thenE_n ?_
                            refine W_ret ?_
                            refine ret1 rfl rfl ?_
                            first | (exact ⟨rfl, hE⟩) | (exact (bneE hg105 (hr86.det1 hr28)).elim) | (exact absurd (hr86.det1 hr28) hp105) | (exact absurd (hr86.det1 hr28) (of_decide_eq_false hg105)) | (exact (bneE hg105 (hr86.det2 hr28)).elim) | (exact absurd (hr86.det2 hr28) hp105) | (exact absurd (hr86.det2 hr28) (of_decide_eq_false hg105)) | (exact (bneE hg105 (hr86.det3 hr28)).elim) | (exact absurd (hr86.det3 hr28) hp105) | (exact absurd (hr86.det3 hr28) (of_decide_eq_false hg105)) | (exact (bneE hg105 (hr37.det1 hr28)).elim) | (exact absurd (hr37.det1 hr28) hp105) | (exact absurd (hr37.det1 hr28) (of_decide_eq_false hg105)) | (exact (bneE hg105 (hr37.det2 hr28)).elim) | (exact absurd (hr37.det2 hr28) hp105) | (exact absurd (hr37.det2 hr28) (of_decide_eq_false hg105)) | (exact (bneE hg105 (hr37.det3 hr28)).elim) | (exact absurd (hr37.det3 hr28) hp105) | (exact absurd (hr37.det3 hr28) (of_decide_eq_false hg105)) | (exact (tfX hg105).elim) | (exact (decF hg105).elim) | (exfalso; omega)

end Go.Proofs.Ytladejfcplpnaaa
