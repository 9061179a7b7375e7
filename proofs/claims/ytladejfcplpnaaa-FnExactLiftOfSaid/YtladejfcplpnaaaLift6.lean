/- The walk of FnExactLiftOf. -/
import Derived.Test.YtladejfcplpnaaaLift4
import Derived.Test.YtladejfcplpnaaaLift5
namespace Go.Proofs.Ytladejfcplpnaaa
open Go Go.RowKit

theorem markIntSS_arg {lo hi c : Nat} {a : Option Addr} {k : Int} {w : World} {xss : List (List Int)} (hF : FIntss lo hi w a c xss) (hk : 0 ≤ k ∧ k ≤ 562949953421312) (hn : totL xss ≤ 1048576) : Fn Try.prog 15 #[.slice a xss.length c, VI k] w (fun v w' => ∃ r, v = VI r ∧ (k ≤ r ∧ r ≤ k + 2097152 * (xss.length : Int)) ∧ Mk lo hi w w') := markIntSS_w (FIntss.w hF hn) hk (Nat.le_trans (totL_len xss) hn)

set_option maxHeartbeats 4000000 in
set_option maxRecDepth 100000 in
theorem law_LiftOf (nA : NA) (A : Net) (r : Int) (aps : Option Addr) (cps : Nat) (ps : List (List Int)) (w : World) (hA : IsNet 0 w.heap.size w nA A) (hsA : SmN A) (hps : Intss 0 w.heap.size w aps cps ps) (hszps : (ps.length : Int) ≤ 9223372036854775807) (hszsps : ∀ x ∈ ps, (x.length : Int) ≤ 9223372036854775807) (hir : I64 r) :
    Fn Try.prog 3 #[netV nA A, VI r, .slice aps ps.length cps] w (fun v w' => v = VB true ∧ Ext w w') := by
  have hE := Ext.refl w
  refine Fn_of Try.func3 rfl rfl (by kernel_rfl) rfl ?_
  refine W_seq ?_
  refine W_region ?_
  refine WL_m rfl (ev_box rfl) ?_
  rintro _ w3 ⟨rfl, hN3⟩
  have hz3 := hN3.size
  replace hE := hE.trans hN3.ext
  replace hA := hA.ext hN3.ext
  replace hps := hps.ext hN3.ext
  have hB3 : Blk w3 _ _ [_, _, _] := hN3.blk
  refine WL_q rfl (ev_assign rfl) ?_
  refine WL_nil ?_
  refine thenE_n ?_
  refine W_seq ?_
  refine W_region ?_
  refine WL_q rfl (ev_assign rfl) ?_
  refine WL_nil ?_
  refine thenE_n ?_
  refine W_seq ?_
  refine W_region ?_
  refine WL_q rfl (ev_loads st25 sz25 rfl (cellsB hB3) rfl) ?_
  refine WL_q rfl (ev_move rfl) ?_
  refine WL_m rfl (ev_call rfl (szNetwork_spec _ A _ _ hA (by omega) hsA)) ?_
  rintro _ w21 ⟨r21, rfl, hE21, hr21⟩
  have hz21 := hE21.size
  replace hE := hE.trans hE21
  replace hA := hA.ext hE21
  replace hps := hps.ext hE21
  replace hB3 := hB3.ext hE21
  refine WL_q rfl (ev_assign rfl) ?_
  refine WL_nil ?_
  refine thenE_n ?_
  refine W_seq ?_
  refine W_seq ?_
  refine W_region ?_
  refine WL_q rfl (ev_move rfl) ?_
  refine WL_q rfl (ev_lss rfl rfl) ?_
  refine WL_nil ?_
  refine thenE_n ?_
  refine W_cond rfl (fun hg23 => ?_) (fun hg23 => ?_)
  · have hp23 := of_decide_eq_true hg23
    refine W_seq ?_
    refine W_region ?_
    refine WL_q rfl (ev_assign rfl) ?_
    refine WL_nil ?_
    refine thenE_n ?_
    refine W_ret ?_
    refine thenE_r ?_
    refine ret1 rfl rfl ?_
    first | (exact ⟨rfl, hE⟩) | (exact (tfX hg23).elim) | (exact (decF hg23).elim) | (exfalso; omega)
  · have hp23 := of_decide_eq_false hg23
    refine W_skip ?_
    refine thenE_n ?_
    refine W_seq ?_
    refine W_region ?_
    refine WL_q rfl (ev_move rfl) ?_
    refine WL_q rfl (ev_move rfl) ?_
    refine WL_m rfl (ev_call rfl (szIntSS_spec _ _ _ _ _ (by assumption) (by omega) (by omega) (by assumption))) ?_
    rintro _ w26 ⟨r26, rfl, hE26, hr26⟩
    have hz26 := hE26.size
    replace hE := hE.trans hE26
    replace hA := hA.ext hE26
    replace hps := hps.ext hE26
    replace hB3 := hB3.ext hE26
    refine WL_q rfl (ev_assign rfl) ?_
    refine WL_nil ?_
    refine thenE_n ?_
    refine W_seq ?_
    refine W_seq ?_
    refine W_region ?_
    refine WL_q rfl (ev_move rfl) ?_
    refine WL_q rfl (ev_lss rfl rfl) ?_
    refine WL_nil ?_
    refine thenE_n ?_
    refine W_cond rfl (fun hg28 => ?_) (fun hg28 => ?_)
    · have hp28 := of_decide_eq_true hg28
      refine W_seq ?_
      refine W_region ?_
      refine WL_q rfl (ev_assign rfl) ?_
      refine WL_nil ?_
      refine thenE_n ?_
      refine W_ret ?_
      refine thenE_r ?_
      refine ret1 rfl rfl ?_
      first | (exact ⟨rfl, hE⟩) | (exact (tfX hg28).elim) | (exact (decF hg28).elim) | (exfalso; omega)
    · have hp28 := of_decide_eq_false hg28
      refine W_skip ?_
      refine thenE_n ?_
      refine W_seq ?_
      refine W_region ?_
      refine WL_q rfl (ev_loads st25 sz25 rfl (cellsB hB3) rfl) ?_
      refine WL_m rfl (ev_call rfl (toNetwork_spec _ A _ hA (by omega) (by omega))) ?_
      rintro _ w31 ⟨h31, rfl, hF31, hE31⟩
      have hz31 := hE31.size
      replace hE := hE.trans hE31
      replace hA := hA.ext hE31
      replace hps := hps.ext hE31
      replace hB3 := hB3.ext hE31
      have hN31 := hF31.is
      refine WL_q rfl (ev_move rfl) ?_
      refine WL_q rfl (ev_move rfl) ?_
      refine WL_m rfl (ev_call rfl (toIntSS_spec _ _ ps _ hps (by omega) (by omega))) ?_
      rintro _ w34 ⟨a34, rfl, hF34, hE34⟩
      have hz34 := hE34.size
      replace hE := hE.trans hE34
      replace hA := hA.ext hE34
      replace hps := hps.ext hE34
      replace hB3 := hB3.ext hE34
      replace hF31 := hF31.ext hE34
      replace hN31 := hN31.ext hE34
      have hI34 := hF34.is
      refine WL_m rfl (ev_call rfl (sLiftOf_spec _ A _ _ _ ps _ hN31 (by omega) (by omega) hI34 (by omega) (by omega))) ?_
      rintro _ w35 ⟨h35, U35, q35, rfl, hr35, hN35, hl35, hE35⟩
      have hz35 := hE35.size
      replace hE := hE.trans hE35
      replace hA := hA.ext hE35
      replace hps := hps.ext hE35
      replace hB3 := hB3.ext hE35
      replace hF31 := hF31.ext hE35
      replace hN31 := hN31.ext hE35
      replace hF34 := hF34.ext hE35
      replace hI34 := hI34.ext hE35
      refine WL_q rfl (ev_move rfl) ?_
      refine WL_q rfl (ev_extract rfl rfl) ?_
      refine WL_q rfl (ev_extract rfl rfl) ?_
      refine WL_m rfl (ev_alloc zr31) ?_
      rintro _ w8 ⟨rfl, hN8⟩
      have hz8 := hN8.size
      replace hE := hE.trans hN8.ext
      replace hA := hA.ext hN8.ext
      replace hps := hps.ext hN8.ext
      replace hB3 := hB3.ext hN8.ext
      replace hF31 := hF31.ext hN8.ext
      replace hN31 := hN31.ext hN8.ext
      replace hF34 := hF34.ext hN8.ext
      replace hI34 := hI34.ext hN8.ext
      replace hN35 := hN35.ext hN8.ext
      have hB8 : Blk w8 _ _ [_, _, _] := hN8.blk
      refine WL_s (ev_stores sz31 rfl rfl rfl (by simp [Value.oneCell']) hB8 (by simp)) ?_
      rintro _ w8_10 hS8_10
      have hz8_10 := hS8_10.size
      replace hE := hE.sto hS8_10 (by omega)
      replace hA := hA.sto hS8_10 (by omega)
      replace hps := hps.sto hS8_10 (by omega)
      replace hB3 := hB3.sto hS8_10 (by omega)
      replace hF31 := hF31.sto hS8_10 (by omega)
      replace hN31 := hN31.sto hS8_10 (by omega)
      replace hF34 := hF34.sto hS8_10 (by omega)
      replace hI34 := hI34.sto hS8_10 (by omega)
      replace hN35 := hN35.sto hS8_10 (by omega)
      replace hB8 : Blk w8_10 _ _ [_, _, _] := hS8_10.blk
      refine WL_q rfl (ev_assign rfl) ?_
      refine WL_nil ?_
      refine thenE_n ?_
      refine W_seq ?_
      refine W_region ?_
      refine WL_q rfl (ev_loads st25 sz25 rfl (cellsB hB3) rfl) ?_
      refine WL_m rfl (ev_call rfl (toNetwork_spec _ A _ hA (by omega) (by omega))) ?_
      rintro _ w39 ⟨h39, rfl, hF39, hE39⟩
      have hz39 := hE39.size
      replace hE := hE.trans hE39
      replace hA := hA.ext hE39
      replace hps := hps.ext hE39
      replace hB3 := hB3.ext hE39
      replace hF31 := hF31.ext hE39
      replace hN31 := hN31.ext hE39
      replace hF34 := hF34.ext hE39
      replace hI34 := hI34.ext hE39
      replace hN35 := hN35.ext hE39
      replace hB8 := hB8.ext hE39
      have hN39 := hF39.is
      refine WL_m rfl (ev_alloc zr31) ?_
      rintro _ w10 ⟨rfl, hN10⟩
      have hz10 := hN10.size
      replace hE := hE.trans hN10.ext
      replace hA := hA.ext hN10.ext
      replace hps := hps.ext hN10.ext
      replace hB3 := hB3.ext hN10.ext
      replace hF31 := hF31.ext hN10.ext
      replace hN31 := hN31.ext hN10.ext
      replace hF34 := hF34.ext hN10.ext
      replace hI34 := hI34.ext hN10.ext
      replace hN35 := hN35.ext hN10.ext
      replace hB8 := hB8.ext hN10.ext
      replace hF39 := hF39.ext hN10.ext
      replace hN39 := hN39.ext hN10.ext
      have hB10 : Blk w10 _ _ [_, _, _] := hN10.blk
      refine WL_s (ev_stores sz31 rfl rfl rfl (by simp [Value.oneCell']) hB10 (by simp)) ?_
      rintro _ w9_3 hS9_3
      have hz9_3 := hS9_3.size
      replace hE := hE.sto hS9_3 (by omega)
      replace hA := hA.sto hS9_3 (by omega)
      replace hps := hps.sto hS9_3 (by omega)
      replace hB3 := hB3.sto hS9_3 (by omega)
      replace hF31 := hF31.sto hS9_3 (by omega)
      replace hN31 := hN31.sto hS9_3 (by omega)
      replace hF34 := hF34.sto hS9_3 (by omega)
      replace hI34 := hI34.sto hS9_3 (by omega)
      replace hN35 := hN35.sto hS9_3 (by omega)
      replace hB8 := hB8.sto hS9_3 (by omega)
      replace hF39 := hF39.sto hS9_3 (by omega)
      replace hN39 := hN39.sto hS9_3 (by omega)
      replace hB10 : Blk w9_3 _ _ [_, _, _] := hS9_3.blk
      refine WL_nil ?_
      refine thenE_n ?_
      refine W_seq ?_
      refine W_region ?_
      refine WL_q rfl (ev_move rfl) ?_
      refine WL_m rfl (ev_call rfl (toIntSS_spec _ _ ps _ hps (by omega) (by omega))) ?_
      rintro _ w41 ⟨a41, rfl, hF41, hE41⟩
      have hz41 := hE41.size
      replace hE := hE.trans hE41
      replace hA := hA.ext hE41
      replace hps := hps.ext hE41
      replace hB3 := hB3.ext hE41
      replace hF31 := hF31.ext hE41
      replace hN31 := hN31.ext hE41
      replace hF34 := hF34.ext hE41
      replace hI34 := hI34.ext hE41
      replace hN35 := hN35.ext hE41
      replace hB8 := hB8.ext hE41
      replace hF39 := hF39.ext hE41
      replace hN39 := hN39.ext hE41
      replace hB10 := hB10.ext hE41
      have hI41 := hF41.is
      refine WL_q rfl (ev_assign rfl) ?_
      refine WL_nil ?_
      refine thenE_n ?_
      refine W_seq ?_
      refine W_region ?_
      refine WL_q rfl (ev_loads st31 sz31 rfl (cellsB hB10) rfl) ?_
      refine WL_q rfl (ev_move rfl) ?_
      refine WL_q rfl (ev_move rfl) ?_
      refine WL_m rfl (ev_call rfl (LiftOf_spec _ A _ _ _ ps _ hN39 (by omega) (by omega) hI41 (by omega) (by omega))) ?_
      rintro _ w46 ⟨h46, U46, q46, rfl, hr46, hO46, hl46, hE46⟩
      have hz46 := hE46.size
      replace hE := hE.trans hE46
      replace hA := hA.ext hE46
      replace hps := hps.ext hE46
      replace hB3 := hB3.ext hE46
      replace hF31 := hF31.ext hE46
      replace hN31 := hN31.ext hE46
      replace hF34 := hF34.ext hE46
      replace hI34 := hI34.ext hE46
      replace hN35 := hN35.ext hE46
      replace hB8 := hB8.ext hE46
      replace hF39 := hF39.ext hE46
      replace hN39 := hN39.ext hE46
      replace hB10 := hB10.ext hE46
      replace hF41 := hF41.ext hE46
      replace hI41 := hI41.ext hE46
      refine WL_q rfl (ev_move rfl) ?_
      refine WL_q rfl (ev_extract rfl rfl) ?_
      refine WL_q rfl (ev_extract rfl rfl) ?_
      refine WL_m rfl (ev_alloc zr31) ?_
      rintro _ w12 ⟨rfl, hN12⟩
      have hz12 := hN12.size
      replace hE := hE.trans hN12.ext
      replace hA := hA.ext hN12.ext
      replace hps := hps.ext hN12.ext
      replace hB3 := hB3.ext hN12.ext
      replace hF31 := hF31.ext hN12.ext
      replace hN31 := hN31.ext hN12.ext
      replace hF34 := hF34.ext hN12.ext
      replace hI34 := hI34.ext hN12.ext
      replace hN35 := hN35.ext hN12.ext
      replace hB8 := hB8.ext hN12.ext
      replace hF39 := hF39.ext hN12.ext
      replace hN39 := hN39.ext hN12.ext
      replace hB10 := hB10.ext hN12.ext
      replace hF41 := hF41.ext hN12.ext
      replace hI41 := hI41.ext hN12.ext
      replace hO46 := hO46.ext hN12.ext
      have hB12 : Blk w12 _ _ [_, _, _] := hN12.blk
      refine WL_s (ev_stores sz31 rfl rfl rfl (by simp [Value.oneCell']) hB12 (by simp)) ?_
      rintro _ w11_8 hS11_8
      have hz11_8 := hS11_8.size
      replace hE := hE.sto hS11_8 (by omega)
      replace hA := hA.sto hS11_8 (by omega)
      replace hps := hps.sto hS11_8 (by omega)
      replace hB3 := hB3.sto hS11_8 (by omega)
      replace hF31 := hF31.sto hS11_8 (by omega)
      replace hN31 := hN31.sto hS11_8 (by omega)
      replace hF34 := hF34.sto hS11_8 (by omega)
      replace hI34 := hI34.sto hS11_8 (by omega)
      replace hN35 := hN35.sto hS11_8 (by omega)
      replace hB8 := hB8.sto hS11_8 (by omega)
      replace hF39 := hF39.sto hS11_8 (by omega)
      replace hN39 := hN39.sto hS11_8 (by omega)
      replace hB10 := hB10.sto hS11_8 (by omega)
      replace hF41 := hF41.sto hS11_8 (by omega)
      replace hI41 := hI41.sto hS11_8 (by omega)
      replace hO46 := hO46.sto hS11_8 (by omega)
      replace hB12 : Blk w11_8 _ _ [_, _, _] := hS11_8.blk
      refine WL_q rfl (ev_assign rfl) ?_
      refine WL_nil ?_
      refine thenE_n ?_
      refine W_seq ?_
      refine W_seq ?_
      refine W_region ?_
      refine WL_q rfl (ev_loads st31 sz31 rfl (cellsB hB12) rfl) ?_
      refine WL_q rfl (ev_loads st31 sz31 rfl (cellsB hB8) rfl) ?_
      have eU51 := hr35.det1 hr46
      subst eU51
      refine WL_m rfl (ev_call rfl (eqNetwork_spec _ _ U35 _ hO46.is hN35 (by omega))) ?_
      rintro _ w51 ⟨rfl, hE51⟩
      have hz51 := hE51.size
      replace hE := hE.trans hE51
      replace hA := hA.ext hE51
      replace hps := hps.ext hE51
      replace hB3 := hB3.ext hE51
      replace hF31 := hF31.ext hE51
      replace hN31 := hN31.ext hE51
      replace hF34 := hF34.ext hE51
      replace hI34 := hI34.ext hE51
      replace hN35 := hN35.ext hE51
      replace hB8 := hB8.ext hE51
      replace hF39 := hF39.ext hE51
      replace hN39 := hN39.ext hE51
      replace hB10 := hB10.ext hE51
      replace hF41 := hF41.ext hE51
      replace hI41 := hI41.ext hE51
      replace hO46 := hO46.ext hE51
      replace hB12 := hB12.ext hE51
      refine WL_q rfl (ev_not rfl) ?_
      refine WL_q rfl (ev_move rfl) ?_
      refine WL_splitv (t := 53) rfl (fun hg52 => ?_) (fun hg52 => ?_)
      · have hg51 := not_true hg52
        refine WL_no rfl rfl hg52 rfl ?_
        refine WL_no rfl rfl hg52 rfl ?_
        refine WL_no rfl rfl hg52 rfl ?_
        refine WL_q rfl (ev_pick_t rfl hg52 rfl) ?_
        refine WL_nil ?_
        refine thenE_n ?_
        refine W_cond_t rfl ?_
        refine W_seq ?_
        refine W_region ?_
        refine WL_q rfl (ev_assign rfl) ?_
        refine WL_nil ?_
        refine thenE_n ?_
        refine W_ret ?_
        refine thenE_r ?_
        refine ret1 rfl rfl ?_
        first | (exact ⟨rfl, hE⟩) | (exact (bneE hg51 (hr46.det1 hr35)).elim) | (exact absurd (hr46.det1 hr35) hp51) | (exact absurd (hr46.det1 hr35) (of_decide_eq_false hg51)) | (exact (bneE hg51 (hr46.det2 hr35)).elim) | (exact absurd (hr46.det2 hr35) hp51) | (exact absurd (hr46.det2 hr35) (of_decide_eq_false hg51)) | (exact (bneE hg51 (hr46.det3 hr35)).elim) | (exact absurd (hr46.det3 hr35) hp51) | (exact absurd (hr46.det3 hr35) (of_decide_eq_false hg51)) | (exact (tfX hg51).elim) | (exact (decF hg51).elim) | (exfalso; omega)
      · have hg51 := not_false hg52
        refine WL_qg rfl rfl hg52 rfl (ev_move rfl) ?_
        refine WL_qg rfl rfl hg52 rfl (ev_move rfl) ?_
        refine WL_qg rfl rfl hg52 rfl (ev_neq_b Try.underlying4 rfl rfl) ?_
        refine WL_q rfl (ev_pick_f rfl hg52 rfl) ?_
        refine WL_nil ?_
        refine thenE_n ?_
        refine W_cond rfl (fun hg56 => ?_) (fun hg56 => ?_)
        · refine W_seq ?_
          refine W_region ?_
          refine WL_q rfl (ev_assign rfl) ?_
          refine WL_nil ?_
          refine thenE_n ?_
          refine W_ret ?_
          refine thenE_r ?_
          refine ret1 rfl rfl ?_
          first | (exact ⟨rfl, hE⟩) | (exact (bneE hg56 (hr46.det1 hr35)).elim) | (exact absurd (hr46.det1 hr35) hp56) | (exact absurd (hr46.det1 hr35) (of_decide_eq_false hg56)) | (exact (bneE hg56 (hr46.det2 hr35)).elim) | (exact absurd (hr46.det2 hr35) hp56) | (exact absurd (hr46.det2 hr35) (of_decide_eq_false hg56)) | (exact (bneE hg56 (hr46.det3 hr35)).elim) | (exact absurd (hr46.det3 hr35) hp56) | (exact absurd (hr46.det3 hr35) (of_decide_eq_false hg56)) | (exact (tfX hg56).elim) | (exact (decF hg56).elim) | (exfalso; omega)
        · refine W_skip ?_
          refine thenE_n ?_
          refine W_seq ?_
          refine W_seq ?_
          refine W_drawE [(0, true), (1, true), (2, false), (3, false), (4, true)] mixed (by kernel_rfl) rfl (by kernel_rfl) ?_
          intro wd14 hEd14 hzd14
          replace hE := hE.trans hEd14
          replace hA := hA.ext hEd14
          replace hps := hps.ext hEd14
          replace hB3 := hB3.ext hEd14
          replace hF31 := hF31.ext hEd14
          replace hN31 := hN31.ext hEd14
          replace hF34 := hF34.ext hEd14
          replace hI34 := hI34.ext hEd14
          replace hN35 := hN35.ext hEd14
          replace hB8 := hB8.ext hEd14
          replace hF39 := hF39.ext hEd14
          replace hN39 := hN39.ext hEd14
          replace hB10 := hB10.ext hEd14
          replace hF41 := hF41.ext hEd14
          replace hI41 := hI41.ext hEd14
          replace hO46 := hO46.ext hEd14
          replace hB12 := hB12.ext hEd14
          have hDd14 := Ext.refl wd14
          refine PW_q rfl rfl (fun wq hq => ev_loads st31 sz31 rfl (cellsB (hq.blk hB10)) rfl) ?_
          refine PW_q rfl rfl (fun wq hq => ev_loads st25 sz25 rfl (cellsB (hq.blk hB3)) rfl) ?_
          refine PW_m rfl rfl (ev_call rfl (toNetwork_spec _ A _ hA (by omega) (by omega))) ?_
          rintro _ w60 ⟨h60, rfl, hF60, hE60⟩
          have hz60 := hE60.size
          replace hE := hE.trans hE60
          replace hDd14 := hDd14.trans hE60
          have hN60 := hF60.is
          refine ⟨hDd14, ?_⟩
          have hA_3 := hA.ext hDd14
          have hps_3 := hps.ext hDd14
          have hB3_3 := hB3.ext hDd14
          have hF31_3 := hF31.ext hDd14
          have hN31_3 := hN31.ext hDd14
          have hF34_3 := hF34.ext hDd14
          have hI34_3 := hI34.ext hDd14
          have hN35_3 := hN35.ext hDd14
          have hB8_3 := hB8.ext hDd14
          have hF39_3 := hF39.ext hDd14
          have hN39_3 := hN39.ext hDd14
          have hB10_3 := hB10.ext hDd14
          have hF41_3 := hF41.ext hDd14
          have hI41_3 := hI41.ext hDd14
          have hO46_3 := hO46.ext hDd14
          have hB12_3 := hB12.ext hDd14
          refine PW_m rfl rfl (ev_call rfl (eqNetwork_spec _ _ A _ hN39_3 hN60 (by omega))) ?_
          rintro _ w61 ⟨rfl, hE61⟩
          have hz61 := hE61.size
          replace hE := hE.trans hE61
          replace hDd14 := hDd14.trans hE61
          replace hF60 := hF60.ext hE61
          replace hN60 := hN60.ext hE61
          refine ⟨hDd14, ?_⟩
          refine PW_q rfl rfl (fun wq hq => ev_not rfl) ?_
          replace hA := hA.ext hDd14
          replace hps := hps.ext hDd14
          replace hB3 := hB3.ext hDd14
          replace hF31 := hF31.ext hDd14
          replace hN31 := hN31.ext hDd14
          replace hF34 := hF34.ext hDd14
          replace hI34 := hI34.ext hDd14
          replace hN35 := hN35.ext hDd14
          replace hB8 := hB8.ext hDd14
          replace hF39 := hF39.ext hDd14
          replace hN39 := hN39.ext hDd14
          replace hB10 := hB10.ext hDd14
          replace hF41 := hF41.ext hDd14
          replace hI41 := hI41.ext hDd14
          replace hO46 := hO46.ext hDd14
          replace hB12 := hB12.ext hDd14
          refine PW_nil ?_
          refine thenE_n ?_
          refine W_cond rfl (fun hg62 => ?_) (fun hg62 => ?_)
          · have hg61 := not_true hg62
            refine W_seq ?_
            refine W_region ?_
            refine WL_q rfl (ev_assign rfl) ?_
            refine WL_nil ?_
            refine thenE_n ?_
            refine W_ret ?_
            refine thenE_r ?_
            refine ret1 rfl rfl ?_
            first | (exact ⟨rfl, hE⟩) | (exact (bneE hg61 (hr46.det1 hr35)).elim) | (exact absurd (hr46.det1 hr35) hp61) | (exact absurd (hr46.det1 hr35) (of_decide_eq_false hg61)) | (exact (bneE hg61 (hr46.det2 hr35)).elim) | (exact absurd (hr46.det2 hr35) hp61) | (exact absurd (hr46.det2 hr35) (of_decide_eq_false hg61)) | (exact (bneE hg61 (hr46.det3 hr35)).elim) | (exact absurd (hr46.det3 hr35) hp61) | (exact absurd (hr46.det3 hr35) (of_decide_eq_false hg61)) | (exact (tfX hg61).elim) | (exact (decF hg61).elim) | (exfalso; omega)
          · have hg61 := not_false hg62
            refine W_skip ?_
            refine thenE_n ?_
            refine W_seq ?_
            refine W_seq ?_
            refine W_region ?_
            refine WL_q rfl (ev_move rfl) ?_
            refine WL_q rfl (ev_move rfl) ?_
            refine WL_m rfl (ev_call rfl (toIntSS_spec _ _ ps _ hps (by omega) (by omega))) ?_
            rintro _ w65 ⟨a65, rfl, hF65, hE65⟩
            have hz65 := hE65.size
            replace hE := hE.trans hE65
            replace hA := hA.ext hE65
            replace hps := hps.ext hE65
            replace hB3 := hB3.ext hE65
            replace hF31 := hF31.ext hE65
            replace hN31 := hN31.ext hE65
            replace hF34 := hF34.ext hE65
            replace hI34 := hI34.ext hE65
            replace hN35 := hN35.ext hE65
            replace hB8 := hB8.ext hE65
            replace hF39 := hF39.ext hE65
            replace hN39 := hN39.ext hE65
            replace hB10 := hB10.ext hE65
            replace hF41 := hF41.ext hE65
            replace hI41 := hI41.ext hE65
            replace hO46 := hO46.ext hE65
            replace hB12 := hB12.ext hE65
            replace hF60 := hF60.ext hE65
            replace hN60 := hN60.ext hE65
            have hI65 := hF65.is
            refine WL_m rfl (ev_call rfl (eqIntSS_spec _ _ _ _ ps ps _ hI41 hI65 (by omega))) ?_
            rintro _ w66 ⟨rfl, hE66⟩
            have hz66 := hE66.size
            replace hE := hE.trans hE66
            replace hA := hA.ext hE66
            replace hps := hps.ext hE66
            replace hB3 := hB3.ext hE66
            replace hF31 := hF31.ext hE66
            replace hN31 := hN31.ext hE66
            replace hF34 := hF34.ext hE66
            replace hI34 := hI34.ext hE66
            replace hN35 := hN35.ext hE66
            replace hB8 := hB8.ext hE66
            replace hF39 := hF39.ext hE66
            replace hN39 := hN39.ext hE66
            replace hB10 := hB10.ext hE66
            replace hF41 := hF41.ext hE66
            replace hI41 := hI41.ext hE66
            replace hO46 := hO46.ext hE66
            replace hB12 := hB12.ext hE66
            replace hF60 := hF60.ext hE66
            replace hN60 := hN60.ext hE66
            replace hF65 := hF65.ext hE66
            replace hI65 := hI65.ext hE66
            refine WL_q rfl (ev_not rfl) ?_
            refine WL_nil ?_
            refine thenE_n ?_
            refine W_cond rfl (fun hg67 => ?_) (fun hg67 => ?_)
            · have hg66 := not_true hg67
              refine W_seq ?_
              refine W_region ?_
              refine WL_q rfl (ev_assign rfl) ?_
              refine WL_nil ?_
              refine thenE_n ?_
              refine W_ret ?_
              refine thenE_r ?_
              refine ret1 rfl rfl ?_
              first | (exact ⟨rfl, hE⟩) | (exact (bneE hg66 (hr46.det1 hr35)).elim) | (exact absurd (hr46.det1 hr35) hp66) | (exact absurd (hr46.det1 hr35) (of_decide_eq_false hg66)) | (exact (bneE hg66 (hr46.det2 hr35)).elim) | (exact absurd (hr46.det2 hr35) hp66) | (exact absurd (hr46.det2 hr35) (of_decide_eq_false hg66)) | (exact (bneE hg66 (hr46.det3 hr35)).elim) | (exact absurd (hr46.det3 hr35) hp66) | (exact absurd (hr46.det3 hr35) (of_decide_eq_false hg66)) | (exact (tfX hg66).elim) | (exact (decF hg66).elim) | (exfalso; omega)
            · have hg66 := not_false hg67
              refine W_skip ?_
              refine thenE_n ?_
              refine W_seq ?_
              refine W_region ?_
              refine WL_q rfl (ev_assign rfl) ?_
              refine WL_nil ?_
              refine thenE_n ?_
              refine W_seq ?_
              refine W_region ?_
              refine WL_q rfl (ev_loads st31 sz31 rfl (cellsB hB10) rfl) ?_
              refine WL_q rfl (ev_move rfl) ?_
              refine WL_m rfl (ev_call rfl (markNetwork_spec _ A _ _ hF39 (by omega) (by omega) (by omega))) ?_
              rintro _ w70 ⟨r70, rfl, hr70, hK70⟩
              have hz70 := hK70.size
              replace hE := hE.mrk hK70 (by omega)
              replace hA := hA.mrk hK70 (by omega)
              replace hps := hps.mrk hK70 (by omega)
              replace hB3 := hB3.mrk hK70 (by omega)
              replace hF31 := hF31.mrk hK70 (by omega)
              replace hN31 := hN31.mrk hK70 (by omega)
              replace hF34 := hF34.mrk hK70 (by omega)
              replace hI34 := hI34.mrk hK70 (by omega)
              replace hN35 := hN35.mrk hK70 (by omega)
              replace hB8 := hB8.mrk hK70 (by omega)
              replace hB10 := hB10.mrk hK70 (by omega)
              replace hF41 := hF41.mrk hK70 (by omega)
              replace hI41 := hI41.mrk hK70 (by omega)
              replace hO46 := hO46.mrk hK70 (by omega)
              replace hB12 := hB12.mrk hK70 (by omega)
              replace hF60 := hF60.mrk hK70 (by omega)
              replace hN60 := hN60.mrk hK70 (by omega)
              replace hF65 := hF65.mrk hK70 (by omega)
              replace hI65 := hI65.mrk hK70 (by omega)
              refine WL_q rfl (ev_assign rfl) ?_
              refine WL_nil ?_
              refine thenE_n ?_
              refine W_seq ?_
              refine W_region ?_
              refine WL_q rfl (ev_move rfl) ?_
              refine WL_q rfl (ev_move rfl) ?_
              refine WL_m rfl (ev_call rfl (markIntSS_arg hF41 (by omega) (by omega))) ?_
              rintro _ w73 ⟨r73, rfl, hr73, hK73⟩
              have hz73 := hK73.size
              replace hE := hE.mrk hK73 (by omega)
              replace hA := hA.mrk hK73 (by omega)
              replace hps := hps.mrk hK73 (by omega)
              replace hB3 := hB3.mrk hK73 (by omega)
              replace hF31 := hF31.mrk hK73 (by omega)
              replace hN31 := hN31.mrk hK73 (by omega)
              replace hF34 := hF34.mrk hK73 (by omega)
              replace hI34 := hI34.mrk hK73 (by omega)
              replace hN35 := hN35.mrk hK73 (by omega)
              replace hB8 := hB8.mrk hK73 (by omega)
              replace hB10 := hB10.mrk hK73 (by omega)
              replace hO46 := hO46.mrk hK73 (by omega)
              replace hB12 := hB12.mrk hK73 (by omega)
              replace hF60 := hF60.mrk hK73 (by omega)
              replace hN60 := hN60.mrk hK73 (by omega)
              replace hF65 := hF65.mrk hK73 (by omega)
              replace hI65 := hI65.mrk hK73 (by omega)
              refine WL_q rfl (ev_assign rfl) ?_
              refine WL_nil ?_
              refine thenE_n ?_
              refine W_seq ?_
              refine W_seq ?_
              refine W_region ?_
              refine WL_q rfl (ev_move rfl) ?_
              refine WL_q rfl (ev_lss rfl rfl) ?_
              refine WL_q rfl (ev_move rfl) ?_
              refine WL_splitv (t := 76) rfl (fun hg75 => ?_) (fun hg75 => ?_)
              · have hp75 := of_decide_eq_true hg75
                refine WL_no rfl rfl hg75 rfl ?_
                refine WL_no rfl rfl hg75 rfl ?_
                refine WL_no rfl rfl hg75 rfl ?_
                refine WL_no rfl rfl hg75 rfl ?_
                refine WL_q rfl (ev_pick_t rfl hg75 rfl) ?_
                refine WL_q rfl (ev_move rfl) ?_
                refine WL_no rfl rfl rfl rfl ?_
                refine WL_no rfl rfl rfl rfl ?_
                refine WL_no rfl rfl rfl rfl ?_
                refine WL_q rfl (ev_pick_t rfl rfl rfl) ?_
                refine WL_nil ?_
                refine thenE_n ?_
                refine W_cond_t rfl ?_
                refine W_seq ?_
                refine W_region ?_
                refine WL_q rfl (ev_assign rfl) ?_
                refine WL_nil ?_
                refine thenE_n ?_
                refine W_ret ?_
                refine thenE_r ?_
                refine ret1 rfl rfl ?_
                first | (exact ⟨rfl, hE⟩) | (exact (bneE hg75 (hr46.det1 hr35)).elim) | (exact absurd (hr46.det1 hr35) hp75) | (exact absurd (hr46.det1 hr35) (of_decide_eq_false hg75)) | (exact (bneE hg75 (hr46.det2 hr35)).elim) | (exact absurd (hr46.det2 hr35) hp75) | (exact absurd (hr46.det2 hr35) (of_decide_eq_false hg75)) | (exact (bneE hg75 (hr46.det3 hr35)).elim) | (exact absurd (hr46.det3 hr35) hp75) | (exact absurd (hr46.det3 hr35) (of_decide_eq_false hg75)) | (exact (tfX hg75).elim) | (exact (decF hg75).elim) | (exfalso; omega)
              · have hp75 := of_decide_eq_false hg75
                refine WL_qg rfl rfl hg75 rfl (ev_loads st31 sz31 rfl (cellsB hB12) rfl) ?_
                refine WL_qg rfl rfl hg75 rfl (ev_loads st31 sz31 rfl (cellsB hB8) rfl) ?_
                refine WL_mg rfl rfl hg75 rfl (ev_call rfl (eqNetwork_spec _ _ U35 _ hO46.is hN35 (by omega))) ?_
                rintro _ w79 ⟨rfl, hE79⟩
                have hz79 := hE79.size
                replace hE := hE.trans hE79
                replace hA := hA.ext hE79
                replace hps := hps.ext hE79
                replace hB3 := hB3.ext hE79
                replace hF31 := hF31.ext hE79
                replace hN31 := hN31.ext hE79
                replace hF34 := hF34.ext hE79
                replace hI34 := hI34.ext hE79
                replace hN35 := hN35.ext hE79
                replace hB8 := hB8.ext hE79
                replace hB10 := hB10.ext hE79
                replace hO46 := hO46.ext hE79
                replace hB12 := hB12.ext hE79
                replace hF60 := hF60.ext hE79
                replace hN60 := hN60.ext hE79
                replace hF65 := hF65.ext hE79
                replace hI65 := hI65.ext hE79
                refine WL_qg rfl rfl hg75 rfl (ev_not rfl) ?_
                refine WL_q rfl (ev_pick_f rfl hg75 rfl) ?_
                refine WL_q rfl (ev_move rfl) ?_
                refine WL_splitv (t := 82) rfl (fun hg80 => ?_) (fun hg80 => ?_)
                · have hg79 := not_true hg80
                  refine WL_no rfl rfl hg80 rfl ?_
                  refine WL_no rfl rfl hg80 rfl ?_
                  refine WL_no rfl rfl hg80 rfl ?_
                  refine WL_q rfl (ev_pick_t rfl hg80 rfl) ?_
                  refine WL_nil ?_
                  refine thenE_n ?_
                  refine W_cond_t rfl ?_
                  refine W_seq ?_
                  refine W_region ?_
                  refine WL_q rfl (ev_assign rfl) ?_
                  refine WL_nil ?_
                  refine thenE_n ?_
                  refine W_ret ?_
                  refine thenE_r ?_
                  refine ret1 rfl rfl ?_
                  first | (exact ⟨rfl, hE⟩) | (exact (bneE hg79 (hr46.det1 hr35)).elim) | (exact absurd (hr46.det1 hr35) hp79) | (exact absurd (hr46.det1 hr35) (of_decide_eq_false hg79)) | (exact (bneE hg79 (hr46.det2 hr35)).elim) | (exact absurd (hr46.det2 hr35) hp79) | (exact absurd (hr46.det2 hr35) (of_decide_eq_false hg79)) | (exact (bneE hg79 (hr46.det3 hr35)).elim) | (exact absurd (hr46.det3 hr35) hp79) | (exact absurd (hr46.det3 hr35) (of_decide_eq_false hg79)) | (exact (tfX hg79).elim) | (exact (decF hg79).elim) | (exfalso; omega)
                · have hg79 := not_false hg80
                  refine WL_qg rfl rfl hg80 rfl (ev_move rfl) ?_
                  refine WL_qg rfl rfl hg80 rfl (ev_move rfl) ?_
                  refine WL_qg rfl rfl hg80 rfl (ev_neq_b Try.underlying4 rfl rfl) ?_
                  refine WL_q rfl (ev_pick_f rfl hg80 rfl) ?_
                  refine WL_nil ?_
                  refine thenE_n ?_
                  refine W_cond rfl (fun hg85 => ?_) (fun hg85 => ?_)
                  · refine W_seq ?_
                    refine W_region ?_
                    refine WL_q rfl (ev_assign rfl) ?_
                    refine WL_nil ?_
                    refine thenE_n ?_
                    refine W_ret ?_
                    refine thenE_r ?_
                    refine ret1 rfl rfl ?_
                    first | (exact ⟨rfl, hE⟩) | (exact (bneE hg85 (hr46.det1 hr35)).elim) | (exact absurd (hr46.det1 hr35) hp85) | (exact absurd (hr46.det1 hr35) (of_decide_eq_false hg85)) | (exact (bneE hg85 (hr46.det2 hr35)).elim) | (exact absurd (hr46.det2 hr35) hp85) | (exact absurd (hr46.det2 hr35) (of_decide_eq_false hg85)) | (exact (bneE hg85 (hr46.det3 hr35)).elim) | (exact absurd (hr46.det3 hr35) hp85) | (exact absurd (hr46.det3 hr35) (of_decide_eq_false hg85)) | (exact (tfX hg85).elim) | (exact (decF hg85).elim) | (exfalso; omega)
                  · refine W_skip ?_
                    refine thenE_n ?_
                    refine W_seq ?_
                    refine W_region ?_
                    refine WL_q rfl (ev_assign rfl) ?_
                    refine WL_nil ?_
                    refine thenE_n ?_
                    refine W_seq ?_
                    refine W_region ?_
                    refine WL_q rfl (ev_loads st31 sz31 rfl (cellsB hB12) rfl) ?_
                    refine WL_q rfl (ev_move rfl) ?_
                    refine WL_m rfl (ev_call rfl (markNetwork_net _ U35 _ _ hO46 (by omega) (by omega) (by omega))) ?_
                    rintro _ w89 ⟨rfl, hO89, hK89⟩
                    have hz89 := hK89.size
                    have hR89 := hK89
                    replace hE := hE.rg hR89 (by omega)
                    replace hA := hA.rg hR89 (by omega)
                    replace hps := hps.rg hR89 (by omega)
                    replace hB3 := hB3.rg hR89 (by omega)
                    replace hF31 := hF31.rg hR89 (by omega)
                    replace hN31 := hN31.rg hR89 (by omega)
                    replace hF34 := hF34.rg hR89 (by omega)
                    replace hI34 := hI34.rg hR89 (by omega)
                    replace hN35 := hN35.rg hR89 (by omega)
                    replace hB8 := hB8.rg hR89 (by omega)
                    replace hB10 := hB10.rg hR89 (by omega)
                    replace hB12 := hB12.rg hR89 (by omega)
                    replace hF60 := hF60.rg hR89 (by omega)
                    replace hN60 := hN60.rg hR89 (by omega)
                    replace hF65 := hF65.rg hR89 (by omega)
                    replace hI65 := hI65.rg hR89 (by omega)
                    replace hO46 := hO89
                    have hmk : 1 ≤ mkT 1 U35 := by unfold mkT; omega
                    refine WL_q rfl (ev_assign rfl) ?_
                    refine WL_nil ?_
                    refine thenE_n ?_
                    refine W_seq ?_
                    refine W_region ?_
                    refine WL_q rfl (ev_assign rfl) ?_
                    refine WL_nil ?_
                    refine thenE_n ?_
                    refine W_seq ?_
                    refine W_region ?_
                    refine WL_q rfl (ev_loads st31 sz31 rfl (cellsB hB12) rfl) ?_
                    refine WL_q rfl (ev_move rfl) ?_
                    refine WL_m rfl (ev_call rfl (heldNetwork_net _ U35 _ _ hO46.is (by omega) (by omega))) ?_
                    rintro _ w92 ⟨rfl, hE92⟩
                    have hz92 := hE92.size
                    replace hE := hE.trans hE92
                    replace hA := hA.ext hE92
                    replace hps := hps.ext hE92
                    replace hB3 := hB3.ext hE92
                    replace hF31 := hF31.ext hE92
                    replace hN31 := hN31.ext hE92
                    replace hF34 := hF34.ext hE92
                    replace hI34 := hI34.ext hE92
                    replace hN35 := hN35.ext hE92
                    replace hB8 := hB8.ext hE92
                    replace hB10 := hB10.ext hE92
                    replace hO46 := hO46.ext hE92
                    replace hB12 := hB12.ext hE92
                    replace hF60 := hF60.ext hE92
                    replace hN60 := hN60.ext hE92
                    replace hF65 := hF65.ext hE92
                    replace hI65 := hI65.ext hE92
                    refine WL_q rfl (ev_assign rfl) ?_
                    refine WL_nil ?_
                    refine thenE_n ?_
                    refine W_seq ?_
                    refine W_seq ?_
                    refine W_region ?_
                    refine WL_q rfl (ev_move rfl) ?_
                    refine WL_q rfl (ev_lss rfl rfl) ?_
                    refine WL_nil ?_
                    refine thenE_n ?_
                    refine W_cond rfl (fun hg94 => ?_) (fun hg94 => ?_)
                    · have hp94 := of_decide_eq_true hg94
                      refine W_seq ?_
                      refine W_region ?_
                      refine WL_q rfl (ev_assign rfl) ?_
                      refine WL_nil ?_
                      refine thenE_n ?_
                      refine W_ret ?_
                      refine thenE_r ?_
                      refine ret1 rfl rfl ?_
                      first | (exact ⟨rfl, hE⟩) | (exact (bneE hg94 (hr46.det1 hr35)).elim) | (exact absurd (hr46.det1 hr35) hp94) | (exact absurd (hr46.det1 hr35) (of_decide_eq_false hg94)) | (exact (bneE hg94 (hr46.det2 hr35)).elim) | (exact absurd (hr46.det2 hr35) hp94) | (exact absurd (hr46.det2 hr35) (of_decide_eq_false hg94)) | (exact (bneE hg94 (hr46.det3 hr35)).elim) | (exact absurd (hr46.det3 hr35) hp94) | (exact absurd (hr46.det3 hr35) (of_decide_eq_false hg94)) | (exact (tfX hg94).elim) | (exact (decF hg94).elim) | (exfalso; omega)
                    · have hp94 := of_decide_eq_false hg94
                      refine W_skip ?_
                      refine thenE_n ?_
                      refine W_seq ?_
                      refine W_seq ?_
                      refine W_region ?_
                      refine WL_q rfl (ev_move rfl) ?_
                      refine WL_q rfl (ev_move rfl) ?_
                      refine WL_q rfl (ev_neq rfl rfl) ?_
                      refine WL_nil ?_
                      refine thenE_n ?_
                      refine W_cond rfl (fun hg97 => ?_) (fun hg97 => ?_)
                      · have hp97 := of_decide_eq_true hg97
                        refine W_seq ?_
                        refine W_region ?_
                        refine WL_q rfl (ev_assign rfl) ?_
                        refine WL_nil ?_
                        refine thenE_n ?_
                        refine W_ret ?_
                        refine thenE_r ?_
                        refine ret1 rfl rfl ?_
                        first | (exact ⟨rfl, hE⟩) | (exact (bneE hg97 (hr46.det1 hr35)).elim) | (exact absurd (hr46.det1 hr35) hp97) | (exact absurd (hr46.det1 hr35) (of_decide_eq_false hg97)) | (exact (bneE hg97 (hr46.det2 hr35)).elim) | (exact absurd (hr46.det2 hr35) hp97) | (exact absurd (hr46.det2 hr35) (of_decide_eq_false hg97)) | (exact (bneE hg97 (hr46.det3 hr35)).elim) | (exact absurd (hr46.det3 hr35) hp97) | (exact absurd (hr46.det3 hr35) (of_decide_eq_false hg97)) | (exact (tfX hg97).elim) | (exact (decF hg97).elim) | (exfalso; omega)
                      · have hp97 := of_decide_eq_false hg97
                        refine W_skip ?_
                        refine thenE_n ?_
                        refine W_seq ?_
                        refine W_region ?_
                        refine WL_q rfl (ev_loads st25 sz25 rfl (cellsB hB3) rfl) ?_
                        refine WL_m rfl (ev_call rfl (toNetwork_spec _ A _ hA (by omega) (by omega))) ?_
                        rintro _ w100 ⟨h100, rfl, hF100, hE100⟩
                        have hz100 := hE100.size
                        replace hE := hE.trans hE100
                        replace hA := hA.ext hE100
                        replace hps := hps.ext hE100
                        replace hB3 := hB3.ext hE100
                        replace hF31 := hF31.ext hE100
                        replace hN31 := hN31.ext hE100
                        replace hF34 := hF34.ext hE100
                        replace hI34 := hI34.ext hE100
                        replace hN35 := hN35.ext hE100
                        replace hB8 := hB8.ext hE100
                        replace hB10 := hB10.ext hE100
                        replace hO46 := hO46.ext hE100
                        replace hB12 := hB12.ext hE100
                        replace hF60 := hF60.ext hE100
                        replace hN60 := hN60.ext hE100
                        replace hF65 := hF65.ext hE100
                        replace hI65 := hI65.ext hE100
                        have hN100 := hF100.is
                        refine WL_q rfl (ev_move rfl) ?_
                        refine WL_q rfl (ev_move rfl) ?_
                        refine WL_m rfl (ev_call rfl (toIntSS_spec _ _ ps _ hps (by omega) (by omega))) ?_
                        rintro _ w103 ⟨a103, rfl, hF103, hE103⟩
                        have hz103 := hE103.size
                        replace hE := hE.trans hE103
                        replace hA := hA.ext hE103
                        replace hps := hps.ext hE103
                        replace hB3 := hB3.ext hE103
                        replace hF31 := hF31.ext hE103
                        replace hN31 := hN31.ext hE103
                        replace hF34 := hF34.ext hE103
                        replace hI34 := hI34.ext hE103
                        replace hN35 := hN35.ext hE103
                        replace hB8 := hB8.ext hE103
                        replace hB10 := hB10.ext hE103
                        replace hO46 := hO46.ext hE103
                        replace hB12 := hB12.ext hE103
                        replace hF60 := hF60.ext hE103
                        replace hN60 := hN60.ext hE103
                        replace hF65 := hF65.ext hE103
                        replace hI65 := hI65.ext hE103
                        replace hF100 := hF100.ext hE103
                        replace hN100 := hN100.ext hE103
                        have hI103 := hF103.is
                        refine WL_m rfl (ev_call rfl (LiftOf_spec _ A _ _ _ ps _ hN100 (by omega) (by omega) hI103 (by omega) (by omega))) ?_
                        rintro _ w104 ⟨h104, U104, q104, rfl, hr104, hO104, hl104, hE104⟩
                        have hz104 := hE104.size
                        replace hE := hE.trans hE104
                        replace hA := hA.ext hE104
                        replace hps := hps.ext hE104
                        replace hB3 := hB3.ext hE104
                        replace hF31 := hF31.ext hE104
                        replace hN31 := hN31.ext hE104
                        replace hF34 := hF34.ext hE104
                        replace hI34 := hI34.ext hE104
                        replace hN35 := hN35.ext hE104
                        replace hB8 := hB8.ext hE104
                        replace hB10 := hB10.ext hE104
                        replace hO46 := hO46.ext hE104
                        replace hB12 := hB12.ext hE104
                        replace hF60 := hF60.ext hE104
                        replace hN60 := hN60.ext hE104
                        replace hF65 := hF65.ext hE104
                        replace hI65 := hI65.ext hE104
                        replace hF100 := hF100.ext hE104
                        replace hN100 := hN100.ext hE104
                        replace hF103 := hF103.ext hE104
                        replace hI103 := hI103.ext hE104
                        refine WL_q rfl (ev_move rfl) ?_
                        refine WL_q rfl (ev_extract rfl rfl) ?_
                        refine WL_q rfl (ev_extract rfl rfl) ?_
                        refine WL_m rfl (ev_alloc zr31) ?_
                        rintro _ w17 ⟨rfl, hN17⟩
                        have hz17 := hN17.size
                        replace hE := hE.trans hN17.ext
                        replace hA := hA.ext hN17.ext
                        replace hps := hps.ext hN17.ext
                        replace hB3 := hB3.ext hN17.ext
                        replace hF31 := hF31.ext hN17.ext
                        replace hN31 := hN31.ext hN17.ext
                        replace hF34 := hF34.ext hN17.ext
                        replace hI34 := hI34.ext hN17.ext
                        replace hN35 := hN35.ext hN17.ext
                        replace hB8 := hB8.ext hN17.ext
                        replace hB10 := hB10.ext hN17.ext
                        replace hO46 := hO46.ext hN17.ext
                        replace hB12 := hB12.ext hN17.ext
                        replace hF60 := hF60.ext hN17.ext
                        replace hN60 := hN60.ext hN17.ext
                        replace hF65 := hF65.ext hN17.ext
                        replace hI65 := hI65.ext hN17.ext
                        replace hF100 := hF100.ext hN17.ext
                        replace hN100 := hN100.ext hN17.ext
                        replace hF103 := hF103.ext hN17.ext
                        replace hI103 := hI103.ext hN17.ext
                        replace hO104 := hO104.ext hN17.ext
                        have hB17 : Blk w17 _ _ [_, _, _] := hN17.blk
                        refine WL_s (ev_stores sz31 rfl rfl rfl (by simp [Value.oneCell']) hB17 (by simp)) ?_
                        rintro _ w31_10 hS31_10
                        have hz31_10 := hS31_10.size
                        replace hE := hE.sto hS31_10 (by omega)
                        replace hA := hA.sto hS31_10 (by omega)
                        replace hps := hps.sto hS31_10 (by omega)
                        replace hB3 := hB3.sto hS31_10 (by omega)
                        replace hF31 := hF31.sto hS31_10 (by omega)
                        replace hN31 := hN31.sto hS31_10 (by omega)
                        replace hF34 := hF34.sto hS31_10 (by omega)
                        replace hI34 := hI34.sto hS31_10 (by omega)
                        replace hN35 := hN35.sto hS31_10 (by omega)
                        replace hB8 := hB8.sto hS31_10 (by omega)
                        replace hB10 := hB10.sto hS31_10 (by omega)
                        replace hO46 := hO46.sto hS31_10 (by omega)
                        replace hB12 := hB12.sto hS31_10 (by omega)
                        replace hF60 := hF60.sto hS31_10 (by omega)
                        replace hN60 := hN60.sto hS31_10 (by omega)
                        replace hF65 := hF65.sto hS31_10 (by omega)
                        replace hI65 := hI65.sto hS31_10 (by omega)
                        replace hF100 := hF100.sto hS31_10 (by omega)
                        replace hN100 := hN100.sto hS31_10 (by omega)
                        replace hF103 := hF103.sto hS31_10 (by omega)
                        replace hI103 := hI103.sto hS31_10 (by omega)
                        replace hO104 := hO104.sto hS31_10 (by omega)
                        replace hB17 : Blk w31_10 _ _ [_, _, _] := hS31_10.blk
                        refine WL_q rfl (ev_assign rfl) ?_
                        refine WL_nil ?_
                        refine thenE_n ?_
                        refine W_seq ?_
                        refine W_seq ?_
                        refine W_region ?_
                        refine WL_q rfl (ev_loads st31 sz31 rfl (cellsB hB17) rfl) ?_
                        refine WL_q rfl (ev_loads st31 sz31 rfl (cellsB hB8) rfl) ?_
                        have eU109 := hr35.det1 hr104
                        subst eU109
                        refine WL_m rfl (ev_call rfl (eqNetwork_spec _ _ U35 _ hO104.is hN35 (by omega))) ?_
                        rintro _ w109 ⟨rfl, hE109⟩
                        have hz109 := hE109.size
                        replace hE := hE.trans hE109
                        replace hA := hA.ext hE109
                        replace hps := hps.ext hE109
                        replace hB3 := hB3.ext hE109
                        replace hF31 := hF31.ext hE109
                        replace hN31 := hN31.ext hE109
                        replace hF34 := hF34.ext hE109
                        replace hI34 := hI34.ext hE109
                        replace hN35 := hN35.ext hE109
                        replace hB8 := hB8.ext hE109
                        replace hB10 := hB10.ext hE109
                        replace hO46 := hO46.ext hE109
                        replace hB12 := hB12.ext hE109
                        replace hF60 := hF60.ext hE109
                        replace hN60 := hN60.ext hE109
                        replace hF65 := hF65.ext hE109
                        replace hI65 := hI65.ext hE109
                        replace hF100 := hF100.ext hE109
                        replace hN100 := hN100.ext hE109
                        replace hF103 := hF103.ext hE109
                        replace hI103 := hI103.ext hE109
                        replace hO104 := hO104.ext hE109
                        replace hB17 := hB17.ext hE109
                        refine WL_q rfl (ev_not rfl) ?_
                        refine WL_q rfl (ev_move rfl) ?_
                        refine WL_splitv (t := 111) rfl (fun hg110 => ?_) (fun hg110 => ?_)
                        · have hg109 := not_true hg110
                          refine WL_no rfl rfl hg110 rfl ?_
                          refine WL_no rfl rfl hg110 rfl ?_
                          refine WL_no rfl rfl hg110 rfl ?_
                          refine WL_q rfl (ev_pick_t rfl hg110 rfl) ?_
                          refine WL_nil ?_
                          refine thenE_n ?_
                          refine W_cond_t rfl ?_
                          refine W_seq ?_
                          refine W_region ?_
                          refine WL_q rfl (ev_assign rfl) ?_
                          refine WL_nil ?_
                          refine thenE_n ?_
                          refine W_ret ?_
                          refine thenE_r ?_
                          refine ret1 rfl rfl ?_
                          first | (exact ⟨rfl, hE⟩) | (exact (bneE hg109 (hr104.det1 hr35)).elim) | (exact absurd (hr104.det1 hr35) hp109) | (exact absurd (hr104.det1 hr35) (of_decide_eq_false hg109)) | (exact (bneE hg109 (hr104.det2 hr35)).elim) | (exact absurd (hr104.det2 hr35) hp109) | (exact absurd (hr104.det2 hr35) (of_decide_eq_false hg109)) | (exact (bneE hg109 (hr104.det3 hr35)).elim) | (exact absurd (hr104.det3 hr35) hp109) | (exact absurd (hr104.det3 hr35) (of_decide_eq_false hg109)) | (exact (bneE hg109 (hr46.det1 hr35)).elim) | (exact absurd (hr46.det1 hr35) hp109) | (exact absurd (hr46.det1 hr35) (of_decide_eq_false hg109)) | (exact (bneE hg109 (hr46.det2 hr35)).elim) | (exact absurd (hr46.det2 hr35) hp109) | (exact absurd (hr46.det2 hr35) (of_decide_eq_false hg109)) | (exact (bneE hg109 (hr46.det3 hr35)).elim) | (exact absurd (hr46.det3 hr35) hp109) | (exact absurd (hr46.det3 hr35) (of_decide_eq_false hg109)) | (exact (tfX hg109).elim) | (exact (decF hg109).elim) | (exfalso; omega)
                        · have hg109 := not_false hg110
                          refine WL_qg rfl rfl hg110 rfl (ev_move rfl) ?_
                          refine WL_qg rfl rfl hg110 rfl (ev_move rfl) ?_
                          refine WL_qg rfl rfl hg110 rfl (ev_neq_b Try.underlying4 rfl rfl) ?_
                          refine WL_q rfl (ev_pick_f rfl hg110 rfl) ?_
                          refine WL_nil ?_
                          refine thenE_n ?_
                          refine W_cond rfl (fun hg114 => ?_) (fun hg114 => ?_)
                          · refine W_seq ?_
                            refine W_region ?_
                            refine WL_q rfl (ev_assign rfl) ?_
                            refine WL_nil ?_
                            refine thenE_n ?_
                            refine W_ret ?_
                            refine thenE_r ?_
                            refine ret1 rfl rfl ?_
                            first | (exact ⟨rfl, hE⟩) | (exact (bneE hg114 (hr104.det1 hr35)).elim) | (exact absurd (hr104.det1 hr35) hp114) | (exact absurd (hr104.det1 hr35) (of_decide_eq_false hg114)) | (exact (bneE hg114 (hr104.det2 hr35)).elim) | (exact absurd (hr104.det2 hr35) hp114) | (exact absurd (hr104.det2 hr35) (of_decide_eq_false hg114)) | (exact (bneE hg114 (hr104.det3 hr35)).elim) | (exact absurd (hr104.det3 hr35) hp114) | (exact absurd (hr104.det3 hr35) (of_decide_eq_false hg114)) | (exact (bneE hg114 (hr46.det1 hr35)).elim) | (exact absurd (hr46.det1 hr35) hp114) | (exact absurd (hr46.det1 hr35) (of_decide_eq_false hg114)) | (exact (bneE hg114 (hr46.det2 hr35)).elim) | (exact absurd (hr46.det2 hr35) hp114) | (exact absurd (hr46.det2 hr35) (of_decide_eq_false hg114)) | (exact (bneE hg114 (hr46.det3 hr35)).elim) | (exact absurd (hr46.det3 hr35) hp114) | (exact absurd (hr46.det3 hr35) (of_decide_eq_false hg114)) | (exact (tfX hg114).elim) | (exact (decF hg114).elim) | (exfalso; omega)
                          · refine W_skip ?_
                            refine thenE_n ?_
                            refine W_seq ?_
                            refine W_region ?_
                            refine WL_q rfl (ev_assign rfl) ?_
                            refine WL_nil ?_
                            refine thenE_n ?_
                            refine W_seq ?_
                            refine W_region ?_
                            refine WL_q rfl (ev_loads st31 sz31 rfl (cellsB hB12) rfl) ?_
                            refine WL_q rfl (ev_move rfl) ?_
                            refine WL_m rfl (ev_call rfl (heldNetwork_net _ U35 _ _ hO46.is (by omega) (by omega))) ?_
                            rintro _ w118 ⟨rfl, hE118⟩
                            have hz118 := hE118.size
                            replace hE := hE.trans hE118
                            replace hA := hA.ext hE118
                            replace hps := hps.ext hE118
                            replace hB3 := hB3.ext hE118
                            replace hF31 := hF31.ext hE118
                            replace hN31 := hN31.ext hE118
                            replace hF34 := hF34.ext hE118
                            replace hI34 := hI34.ext hE118
                            replace hN35 := hN35.ext hE118
                            replace hB8 := hB8.ext hE118
                            replace hB10 := hB10.ext hE118
                            replace hO46 := hO46.ext hE118
                            replace hB12 := hB12.ext hE118
                            replace hF60 := hF60.ext hE118
                            replace hN60 := hN60.ext hE118
                            replace hF65 := hF65.ext hE118
                            replace hI65 := hI65.ext hE118
                            replace hF100 := hF100.ext hE118
                            replace hN100 := hN100.ext hE118
                            replace hF103 := hF103.ext hE118
                            replace hI103 := hI103.ext hE118
                            replace hO104 := hO104.ext hE118
                            replace hB17 := hB17.ext hE118
                            refine WL_q rfl (ev_assign rfl) ?_
                            refine WL_nil ?_
                            refine thenE_n ?_
                            refine W_seq ?_
                            refine W_seq ?_
                            refine W_region ?_
                            refine WL_q rfl (ev_move rfl) ?_
                            refine WL_q rfl (ev_lss rfl rfl) ?_
                            refine WL_nil ?_
                            refine thenE_n ?_
                            refine W_cond rfl (fun hg120 => ?_) (fun hg120 => ?_)
                            · have hp120 := of_decide_eq_true hg120
                              refine W_seq ?_
                              refine W_region ?_
                              refine WL_q rfl (ev_assign rfl) ?_
                              refine WL_nil ?_
                              refine thenE_n ?_
                              refine W_ret ?_
                              refine thenE_r ?_
                              refine ret1 rfl rfl ?_
                              first | (exact ⟨rfl, hE⟩) | (exact (bneE hg120 (hr104.det1 hr35)).elim) | (exact absurd (hr104.det1 hr35) hp120) | (exact absurd (hr104.det1 hr35) (of_decide_eq_false hg120)) | (exact (bneE hg120 (hr104.det2 hr35)).elim) | (exact absurd (hr104.det2 hr35) hp120) | (exact absurd (hr104.det2 hr35) (of_decide_eq_false hg120)) | (exact (bneE hg120 (hr104.det3 hr35)).elim) | (exact absurd (hr104.det3 hr35) hp120) | (exact absurd (hr104.det3 hr35) (of_decide_eq_false hg120)) | (exact (bneE hg120 (hr46.det1 hr35)).elim) | (exact absurd (hr46.det1 hr35) hp120) | (exact absurd (hr46.det1 hr35) (of_decide_eq_false hg120)) | (exact (bneE hg120 (hr46.det2 hr35)).elim) | (exact absurd (hr46.det2 hr35) hp120) | (exact absurd (hr46.det2 hr35) (of_decide_eq_false hg120)) | (exact (bneE hg120 (hr46.det3 hr35)).elim) | (exact absurd (hr46.det3 hr35) hp120) | (exact absurd (hr46.det3 hr35) (of_decide_eq_false hg120)) | (exact (tfX hg120).elim) | (exact (decF hg120).elim) | (exfalso; omega)
                            · have hp120 := of_decide_eq_false hg120
                              refine W_skip ?_
                              refine thenE_n ?_
                              refine W_seq ?_
                              refine W_seq ?_
                              refine W_region ?_
                              refine WL_q rfl (ev_move rfl) ?_
                              refine WL_q rfl (ev_move rfl) ?_
                              refine WL_q rfl (ev_neq rfl rfl) ?_
                              refine WL_nil ?_
                              refine thenE_n ?_
                              refine W_cond rfl (fun hg123 => ?_) (fun hg123 => ?_)
                              · have hp123 := of_decide_eq_true hg123
                                refine W_seq ?_
                                refine W_region ?_
                                refine WL_q rfl (ev_assign rfl) ?_
                                refine WL_nil ?_
                                refine thenE_n ?_
                                refine W_ret ?_
                                refine thenE_r ?_
                                refine ret1 rfl rfl ?_
                                first | (exact ⟨rfl, hE⟩) | (exact (bneE hg123 (hr104.det1 hr35)).elim) | (exact absurd (hr104.det1 hr35) hp123) | (exact absurd (hr104.det1 hr35) (of_decide_eq_false hg123)) | (exact (bneE hg123 (hr104.det2 hr35)).elim) | (exact absurd (hr104.det2 hr35) hp123) | (exact absurd (hr104.det2 hr35) (of_decide_eq_false hg123)) | (exact (bneE hg123 (hr104.det3 hr35)).elim) | (exact absurd (hr104.det3 hr35) hp123) | (exact absurd (hr104.det3 hr35) (of_decide_eq_false hg123)) | (exact (bneE hg123 (hr46.det1 hr35)).elim) | (exact absurd (hr46.det1 hr35) hp123) | (exact absurd (hr46.det1 hr35) (of_decide_eq_false hg123)) | (exact (bneE hg123 (hr46.det2 hr35)).elim) | (exact absurd (hr46.det2 hr35) hp123) | (exact absurd (hr46.det2 hr35) (of_decide_eq_false hg123)) | (exact (bneE hg123 (hr46.det3 hr35)).elim) | (exact absurd (hr46.det3 hr35) hp123) | (exact absurd (hr46.det3 hr35) (of_decide_eq_false hg123)) | (exact (tfX hg123).elim) | (exact (decF hg123).elim) | (exfalso; omega)
                              · have hp123 := of_decide_eq_false hg123
                                refine W_skip ?_
                                refine thenE_n ?_
                                refine W_seq ?_
                                refine W_region ?_
                                refine WL_q rfl (ev_assign rfl) ?_
                                refine WL_nil ?_
                                refine thenE_n ?_
                                refine W_ret ?_
                                refine ret1 rfl rfl ?_
                                first | (exact ⟨rfl, hE⟩) | (exact (bneE hg123 (hr104.det1 hr35)).elim) | (exact absurd (hr104.det1 hr35) hp123) | (exact absurd (hr104.det1 hr35) (of_decide_eq_false hg123)) | (exact (bneE hg123 (hr104.det2 hr35)).elim) | (exact absurd (hr104.det2 hr35) hp123) | (exact absurd (hr104.det2 hr35) (of_decide_eq_false hg123)) | (exact (bneE hg123 (hr104.det3 hr35)).elim) | (exact absurd (hr104.det3 hr35) hp123) | (exact absurd (hr104.det3 hr35) (of_decide_eq_false hg123)) | (exact (bneE hg123 (hr46.det1 hr35)).elim) | (exact absurd (hr46.det1 hr35) hp123) | (exact absurd (hr46.det1 hr35) (of_decide_eq_false hg123)) | (exact (bneE hg123 (hr46.det2 hr35)).elim) | (exact absurd (hr46.det2 hr35) hp123) | (exact absurd (hr46.det2 hr35) (of_decide_eq_false hg123)) | (exact (bneE hg123 (hr46.det3 hr35)).elim) | (exact absurd (hr46.det3 hr35) hp123) | (exact absurd (hr46.det3 hr35) (of_decide_eq_false hg123)) | (exact (tfX hg123).elim) | (exact (decF hg123).elim) | (exfalso; omega)

end Go.Proofs.Ytladejfcplpnaaa
