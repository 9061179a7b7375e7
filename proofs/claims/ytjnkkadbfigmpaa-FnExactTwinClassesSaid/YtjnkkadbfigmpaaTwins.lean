/- Contracts of TwinClasses, of the program and of the reference; the walk of its law. -/
import Derived.Test.YtjnkkadbfigmpaaView2
import Derived.Test.YtjnkkadbfigmpaaMarkI
import Derived.Test.YtjnkkadbfigmpaaDist
namespace Go.Proofs.Ytjnkkadbfigmpaa
open Go Go.RowKit

open Classical in
/-- The classes of twins. -/
noncomputable def tw (A : Net) : List Int := if h : ∃ T, StableAt A T then vw A h.choose else []
theorem tw_eq {A : Net} {T : Nat} (h : StableAt A T) : vw A T = tw A := by
  have hx : ∃ T, StableAt A T := ⟨T, h⟩
  unfold tw
  rw [dif_pos hx, hx.choose_spec.uniq h]

set_option maxRecDepth 100000 in
theorem TwinClasses_own {loA hiA : Nat} (nA : NA) (A : Net) (w : World) (hA : IsNet loA hiA w nA A) (hhiA : hiA ≤ w.heap.size) (hnA : totN A ≤ 1048576) :
    Fn Try.prog 14 #[netV nA A] w (fun o9 w' => ∃ a' c' ys q, o9 = .tuple #[.slice a' ys.length c', VB q] ∧ RV [] (opt (NOk A) (tw A)) ys q ∧ OwnH w.heap.size w'.heap.size 0 0 w' 3 1 a' ys.length c' (ys.map VI) ∧ ys.length ≤ 1048576 ∧ Ext w w') := by
  have hqA := totL_len A.ends
  have hmA : totL A.ends + A.ids.length + A.inputs.length ≤ 1048576 := hnA
  have hE := Ext.refl w
  refine Fn_of Try.func14 rfl rfl (by kernel_rfl) rfl ?_
  refine W_seq ?_
  refine W_region ?_
  refine WL_m rfl (ev_box rfl) ?_
  rintro _ w1 ⟨rfl, hN1⟩
  have hz1 := hN1.size
  replace hE := hE.trans hN1.ext
  replace hA := hA.ext hN1.ext
  have hB1 : Blk w1 _ _ [_, _, _] := hN1.blk
  refine WL_q rfl (ev_assign rfl) ?_
  refine WL_q rfl (ev_assign rfl) ?_
  refine WL_nil ?_
  refine thenE_n ?_
  refine W_seq ?_
  refine W_seq ?_
  refine W_region ?_
  refine WL_q rfl (ev_loads st31 sz31 rfl (cellsB hB1) rfl) ?_
  refine WL_m rfl (ev_call rfl (IsNetwork_spec _ A _ hA (by omega) (by omega))) ?_
  rintro _ w7 ⟨b7, rfl, hb7, hE7⟩
  have hz7 := hE7.size
  replace hE := hE.trans hE7
  replace hA := hA.ext hE7
  replace hB1 := hB1.ext hE7
  refine WL_q rfl (ev_not rfl) ?_
  refine WL_nil ?_
  refine thenE_n ?_
  refine W_cond rfl (fun hg8 => ?_) (fun hg8 => ?_)
  · have hg7 := not_true hg8
    have hp7 := ttN hb7 hg7
    refine W_seq ?_
    refine W_region ?_
    refine WL_q rfl (ev_assign rfl) ?_
    refine WL_q rfl (ev_assign rfl) ?_
    refine WL_nil ?_
    refine thenE_n ?_
    refine W_ret ?_
    refine thenE_r ?_
    refine ret2 rfl rfl rfl ?_
    first | (exact ⟨none, 0, [], _, rfl, .no (fun h => hp7 h), OwnH.nil, by simp, hE⟩) | (exact ⟨a11, c11, vw A T11, true, (by rw [vw_len] <;> rfl), .yes hp7 (tw_eq hs11), (by rw [vw_len]; exact hO11.h.up (by omega) (Nat.le_refl _)), by rw [vw_len]; omega, hE⟩)
  · have hg7 := not_false hg8
    have hp7 := hb7.1 hg7
    refine W_skip ?_
    refine thenE_n ?_
    refine W_seq ?_
    refine W_region ?_
    have hv := hp7.vok
    have hpos := hv.pos
    refine WL_q rfl (ev_loads st31 sz31 rfl (cellsB hB1) rfl) ?_
    refine WL_m rfl (ev_call rfl (stable_spec _ A _ hA (by omega) (by omega) (by assumption))) ?_
    rintro _ w11 ⟨T11, a11, c11, rfl, hs11, hO11, hE11⟩
    have hz11 := hE11.size
    replace hE := hE.trans hE11
    replace hA := hA.ext hE11
    replace hB1 := hB1.ext hE11
    refine WL_q rfl (ev_move rfl) ?_
    refine WL_q rfl (ev_extract rfl rfl) ?_
    refine WL_q rfl (ev_extract rfl rfl) ?_
    refine WL_q rfl (ev_assign rfl) ?_
    refine WL_q rfl (ev_assign rfl) ?_
    refine WL_nil ?_
    refine thenE_n ?_
    refine W_seq ?_
    refine W_region ?_
    refine WL_q rfl (ev_move rfl) ?_
    refine WL_q rfl (ev_assign rfl) ?_
    refine WL_q rfl (ev_assign rfl) ?_
    refine WL_nil ?_
    refine thenE_n ?_
    refine W_ret ?_
    refine ret2 rfl rfl rfl ?_
    first | (exact ⟨none, 0, [], _, rfl, .no (fun h => hp7 h), OwnH.nil, by simp, hE⟩) | (exact ⟨a11, c11, vw A T11, true, (by rw [vw_len] <;> rfl), .yes hp7 (tw_eq hs11), (by rw [vw_len]; exact hO11.h.up (by omega) (Nat.le_refl _)), by rw [vw_len]; omega, hE⟩)

set_option maxRecDepth 100000 in
theorem sTwinClasses_own {loA hiA : Nat} (nA : NA) (A : Net) (w : World) (hA : IsNet loA hiA w nA A) (hhiA : hiA ≤ w.heap.size) (hnA : totN A ≤ 1048576) :
    Fn Try.prog 12 #[netV nA A] w (fun o9 w' => ∃ a' c' ys q, o9 = .tuple #[.slice a' ys.length c', VB q] ∧ RV [] (opt (NOk A) (tw A)) ys q ∧ Ints 0 w'.heap.size w' a' c' ys ∧ ys.length ≤ 1048576 ∧ Ext w w') := by
  have hqA := totL_len A.ends
  have hmA : totL A.ends + A.ids.length + A.inputs.length ≤ 1048576 := hnA
  have hE := Ext.refl w
  refine Fn_of Try.func12 rfl rfl (by kernel_rfl) rfl ?_
  refine W_seq ?_
  refine W_region ?_
  refine WL_m rfl (ev_box rfl) ?_
  rintro _ w1 ⟨rfl, hN1⟩
  have hz1 := hN1.size
  replace hE := hE.trans hN1.ext
  replace hA := hA.ext hN1.ext
  have hB1 : Blk w1 _ _ [_, _, _] := hN1.blk
  refine WL_q rfl (ev_assign rfl) ?_
  refine WL_q rfl (ev_assign rfl) ?_
  refine WL_nil ?_
  refine thenE_n ?_
  refine W_seq ?_
  refine W_seq ?_
  refine W_region ?_
  refine WL_q rfl (ev_loads st31 sz31 rfl (cellsB hB1) rfl) ?_
  refine WL_m rfl (ev_call rfl (neGood_spec _ A _ hA (by omega) (by omega))) ?_
  rintro _ w5 ⟨b5, rfl, hb5, hE5⟩
  have hz5 := hE5.size
  replace hE := hE.trans hE5
  replace hA := hA.ext hE5
  replace hB1 := hB1.ext hE5
  refine WL_q rfl (ev_not rfl) ?_
  refine WL_nil ?_
  refine thenE_n ?_
  refine W_cond rfl (fun hg6 => ?_) (fun hg6 => ?_)
  · have hg5 := not_true hg6
    have hp5 := ttN hb5 hg5
    refine W_seq ?_
    refine W_region ?_
    refine WL_q rfl (ev_assign rfl) ?_
    refine WL_q rfl (ev_assign rfl) ?_
    refine WL_nil ?_
    refine thenE_n ?_
    refine W_ret ?_
    refine thenE_r ?_
    refine ret2 rfl rfl rfl ?_
    first | (exact ⟨none, 0, [], _, rfl, .no (fun h => hp5 h), Ints.nil, by simp, hE⟩) | (exact ⟨a8, c8, vw A T8, true, (by rw [vw_len] <;> rfl), .yes hp5 (tw_eq hs8), (own_i hO8).mono (Nat.zero_le _) (Nat.le_refl _), by rw [vw_len]; omega, hE⟩)
  · have hg5 := not_false hg6
    have hp5 := hb5.1 hg5
    refine W_skip ?_
    refine thenE_n ?_
    refine W_seq ?_
    refine W_region ?_
    have hv := hp5.vok
    have hpos := hv.pos
    refine WL_q rfl (ev_loads st31 sz31 rfl (cellsB hB1) rfl) ?_
    refine WL_m rfl (ev_call rfl (viTwins_spec _ A _ hA (by omega) (by omega) (by assumption))) ?_
    rintro _ w8 ⟨T8, a8, c8, rfl, hs8, hO8, hE8⟩
    have hz8 := hE8.size
    replace hE := hE.trans hE8
    replace hA := hA.ext hE8
    replace hB1 := hB1.ext hE8
    refine WL_q rfl (ev_assign rfl) ?_
    refine WL_q rfl (ev_assign rfl) ?_
    refine WL_nil ?_
    refine thenE_n ?_
    refine W_ret ?_
    refine ret2 rfl rfl rfl ?_
    first | (exact ⟨none, 0, [], _, rfl, .no (fun h => hp5 h), Ints.nil, by simp, hE⟩) | (exact ⟨a8, c8, vw A T8, true, (by rw [vw_len] <;> rfl), .yes hp5 (tw_eq hs8), (own_i hO8).mono (Nat.zero_le _) (Nat.le_refl _), by rw [vw_len]; omega, hE⟩)

set_option maxRecDepth 100000 in
theorem law_TwinClasses (nA : NA) (A : Net) (w : World) (hA : IsNet 0 w.heap.size w nA A) (hsA : SmN A) :
    Fn Try.prog 3 #[netV nA A] w (fun v w' => v = VB true ∧ Ext w w') := by
  have hE := Ext.refl w
  refine Fn_of Try.func3 rfl rfl (by kernel_rfl) rfl ?_
  refine W_seq ?_
  refine W_region ?_
  refine WL_m rfl (ev_box rfl) ?_
  rintro _ w1 ⟨rfl, hN1⟩
  have hz1 := hN1.size
  replace hE := hE.trans hN1.ext
  replace hA := hA.ext hN1.ext
  have hB1 : Blk w1 _ _ [_, _, _] := hN1.blk
  refine WL_q rfl (ev_assign rfl) ?_
  refine WL_nil ?_
  refine thenE_n ?_
  refine W_seq ?_
  refine W_region ?_
  refine WL_q rfl (ev_assign rfl) ?_
  refine WL_nil ?_
  refine thenE_n ?_
  refine W_seq ?_
  refine W_region ?_
  refine WL_q rfl (ev_loads st25 sz25 rfl (cellsB hB1) rfl) ?_
  refine WL_q rfl (ev_move rfl) ?_
  refine WL_m rfl (ev_call rfl (szNetwork_spec _ A _ _ hA (by omega) hsA)) ?_
  rintro _ w16 ⟨r16, rfl, hE16, hr16⟩
  have hz16 := hE16.size
  replace hE := hE.trans hE16
  replace hA := hA.ext hE16
  replace hB1 := hB1.ext hE16
  refine WL_q rfl (ev_assign rfl) ?_
  refine WL_nil ?_
  refine thenE_n ?_
  refine W_seq ?_
  refine W_seq ?_
  refine W_region ?_
  refine WL_q rfl (ev_move rfl) ?_
  refine WL_q rfl (ev_lss rfl rfl) ?_
  refine WL_nil ?_
  refine thenE_n ?_
  refine W_cond rfl (fun hg18 => ?_) (fun hg18 => ?_)
  · have hp18 := of_decide_eq_true hg18
    refine W_seq ?_
    refine W_region ?_
    refine WL_q rfl (ev_assign rfl) ?_
    refine WL_nil ?_
    refine thenE_n ?_
    refine W_ret ?_
    refine thenE_r ?_
    refine ret1 rfl rfl ?_
    first | (exact ⟨rfl, hE⟩) | (exact (tfX hg18).elim) | (exact (decF hg18).elim) | (exfalso; omega)
  · have hp18 := of_decide_eq_false hg18
    refine W_skip ?_
    refine thenE_n ?_
    refine W_seq ?_
    refine W_region ?_
    refine WL_q rfl (ev_loads st25 sz25 rfl (cellsB hB1) rfl) ?_
    refine WL_m rfl (ev_call rfl (toNetwork_spec _ A _ hA (by omega) (by omega))) ?_
    rintro _ w21 ⟨h21, rfl, hF21, hE21⟩
    have hz21 := hE21.size
    replace hE := hE.trans hE21
    replace hA := hA.ext hE21
    replace hB1 := hB1.ext hE21
    have hN21 := hF21.is
    refine WL_m rfl (ev_call rfl (sTwinClasses_own _ A _ hN21 (by omega) (by omega))) ?_
    rintro _ w22 ⟨a22, c22, y22, q22, rfl, hr22, hx22, hl22, hE22⟩
    have hz22 := hE22.size
    replace hE := hE.trans hE22
    replace hA := hA.ext hE22
    replace hB1 := hB1.ext hE22
    replace hF21 := hF21.ext hE22
    replace hN21 := hN21.ext hE22
    refine WL_q rfl (ev_move rfl) ?_
    refine WL_q rfl (ev_extract rfl rfl) ?_
    refine WL_q rfl (ev_extract rfl rfl) ?_
    refine WL_q rfl (ev_assign rfl) ?_
    refine WL_q rfl (ev_assign rfl) ?_
    refine WL_nil ?_
    refine thenE_n ?_
    refine W_seq ?_
    refine W_region ?_
    refine WL_q rfl (ev_loads st25 sz25 rfl (cellsB hB1) rfl) ?_
    refine WL_m rfl (ev_call rfl (toNetwork_spec _ A _ hA (by omega) (by omega))) ?_
    rintro _ w26 ⟨h26, rfl, hF26, hE26⟩
    have hz26 := hE26.size
    replace hE := hE.trans hE26
    replace hA := hA.ext hE26
    replace hB1 := hB1.ext hE26
    replace hF21 := hF21.ext hE26
    replace hN21 := hN21.ext hE26
    replace hx22 := hx22.ext hE26
    have hN26 := hF26.is
    refine WL_m rfl (ev_alloc zr31) ?_
    rintro _ w6 ⟨rfl, hN6⟩
    have hz6 := hN6.size
    replace hE := hE.trans hN6.ext
    replace hA := hA.ext hN6.ext
    replace hB1 := hB1.ext hN6.ext
    replace hF21 := hF21.ext hN6.ext
    replace hN21 := hN21.ext hN6.ext
    replace hx22 := hx22.ext hN6.ext
    replace hF26 := hF26.ext hN6.ext
    replace hN26 := hN26.ext hN6.ext
    have hB6 : Blk w6 _ _ [_, _, _] := hN6.blk
    refine WL_s (ev_stores sz31 rfl rfl rfl (by simp [Value.oneCell']) hB6 (by simp)) ?_
    rintro _ w6_3 hS6_3
    have hz6_3 := hS6_3.size
    replace hE := hE.sto hS6_3 (by omega)
    replace hA := hA.sto hS6_3 (by omega)
    replace hB1 := hB1.sto hS6_3 (by omega)
    replace hF21 := hF21.sto hS6_3 (by omega)
    replace hN21 := hN21.sto hS6_3 (by omega)
    replace hx22 := hx22.sto hS6_3 (by omega)
    replace hF26 := hF26.sto hS6_3 (by omega)
    replace hN26 := hN26.sto hS6_3 (by omega)
    replace hB6 : Blk w6_3 _ _ [_, _, _] := hS6_3.blk
    refine WL_nil ?_
    refine thenE_n ?_
    refine W_seq ?_
    refine W_region ?_
    refine WL_q rfl (ev_loads st31 sz31 rfl (cellsB hB6) rfl) ?_
    refine WL_m rfl (ev_call rfl (TwinClasses_own _ A _ hN26 (by omega) (by omega))) ?_
    rintro _ w29 ⟨a29, c29, y29, q29, rfl, hr29, hO29, hl29, hE29⟩
    have hz29 := hE29.size
    replace hE := hE.trans hE29
    replace hA := hA.ext hE29
    replace hB1 := hB1.ext hE29
    replace hF21 := hF21.ext hE29
    replace hN21 := hN21.ext hE29
    replace hx22 := hx22.ext hE29
    replace hF26 := hF26.ext hE29
    replace hN26 := hN26.ext hE29
    replace hB6 := hB6.ext hE29
    refine WL_q rfl (ev_move rfl) ?_
    refine WL_q rfl (ev_extract rfl rfl) ?_
    refine WL_q rfl (ev_extract rfl rfl) ?_
    refine WL_q rfl (ev_assign rfl) ?_
    refine WL_q rfl (ev_assign rfl) ?_
    refine WL_nil ?_
    refine thenE_n ?_
    refine W_seq ?_
    refine W_seq ?_
    refine W_region ?_
    refine WL_q rfl (ev_move rfl) ?_
    refine WL_q rfl (ev_move rfl) ?_
    refine WL_m rfl (ev_call rfl (eqIntS_spec _ _ _ _ y29 y22 _ (ownt_i hO29) hx22 (by omega))) ?_
    rintro _ w34 ⟨rfl, hE34⟩
    have hz34 := hE34.size
    replace hE := hE.trans hE34
    replace hA := hA.ext hE34
    replace hB1 := hB1.ext hE34
    replace hF21 := hF21.ext hE34
    replace hN21 := hN21.ext hE34
    replace hx22 := hx22.ext hE34
    replace hF26 := hF26.ext hE34
    replace hN26 := hN26.ext hE34
    replace hB6 := hB6.ext hE34
    replace hO29 := hO29.ext hE34
    refine WL_q rfl (ev_not rfl) ?_
    refine WL_q rfl (ev_move rfl) ?_
    refine WL_splitv (t := 36) rfl (fun hg35 => ?_) (fun hg35 => ?_)
    · have hg34 := not_true hg35
      refine WL_no rfl rfl hg35 rfl ?_
      refine WL_no rfl rfl hg35 rfl ?_
      refine WL_no rfl rfl hg35 rfl ?_
      refine WL_q rfl (ev_pick_t rfl hg35 rfl) ?_
      refine WL_nil ?_
      refine thenE_n ?_
      refine W_cond_t rfl ?_
      refine W_seq ?_
      refine W_region ?_
      refine WL_q rfl (ev_assign rfl) ?_
      refine WL_nil ?_
      refine thenE_n ?_
      refine W_ret ?_
      refine thenE_r ?_
      refine ret1 rfl rfl ?_
      first | (exact ⟨rfl, hE⟩) | (exact (bneE hg34 (hr29.det1 hr22)).elim) | (exact absurd (hr29.det1 hr22) hp34) | (exact absurd (hr29.det1 hr22) (of_decide_eq_false hg34)) | (exact (bneE hg34 (hr29.det2 hr22)).elim) | (exact absurd (hr29.det2 hr22) hp34) | (exact absurd (hr29.det2 hr22) (of_decide_eq_false hg34)) | (exact (bneE hg34 (hr29.det3 hr22)).elim) | (exact absurd (hr29.det3 hr22) hp34) | (exact absurd (hr29.det3 hr22) (of_decide_eq_false hg34)) | (exact (tfX hg34).elim) | (exact (decF hg34).elim) | (exfalso; omega)
    · have hg34 := not_false hg35
      refine WL_qg rfl rfl hg35 rfl (ev_move rfl) ?_
      refine WL_qg rfl rfl hg35 rfl (ev_move rfl) ?_
      refine WL_qg rfl rfl hg35 rfl (ev_neq_b Try.underlying4 rfl rfl) ?_
      refine WL_q rfl (ev_pick_f rfl hg35 rfl) ?_
      refine WL_nil ?_
      refine thenE_n ?_
      refine W_cond rfl (fun hg39 => ?_) (fun hg39 => ?_)
      · refine W_seq ?_
        refine W_region ?_
        refine WL_q rfl (ev_assign rfl) ?_
        refine WL_nil ?_
        refine thenE_n ?_
        refine W_ret ?_
        refine thenE_r ?_
        refine ret1 rfl rfl ?_
        first | (exact ⟨rfl, hE⟩) | (exact (bneE hg39 (hr29.det1 hr22)).elim) | (exact absurd (hr29.det1 hr22) hp39) | (exact absurd (hr29.det1 hr22) (of_decide_eq_false hg39)) | (exact (bneE hg39 (hr29.det2 hr22)).elim) | (exact absurd (hr29.det2 hr22) hp39) | (exact absurd (hr29.det2 hr22) (of_decide_eq_false hg39)) | (exact (bneE hg39 (hr29.det3 hr22)).elim) | (exact absurd (hr29.det3 hr22) hp39) | (exact absurd (hr29.det3 hr22) (of_decide_eq_false hg39)) | (exact (tfX hg39).elim) | (exact (decF hg39).elim) | (exfalso; omega)
      · refine W_skip ?_
        refine thenE_n ?_
        refine W_seq ?_
        refine W_seq ?_
        refine W_drawE [(0, true), (1, true), (2, false), (3, false), (4, true)] mixed (by kernel_rfl) rfl (by kernel_rfl) ?_
        intro wd10 hEd10 hzd10
        replace hE := hE.trans hEd10
        replace hA := hA.ext hEd10
        replace hB1 := hB1.ext hEd10
        replace hF21 := hF21.ext hEd10
        replace hN21 := hN21.ext hEd10
        replace hx22 := hx22.ext hEd10
        replace hF26 := hF26.ext hEd10
        replace hN26 := hN26.ext hEd10
        replace hB6 := hB6.ext hEd10
        replace hO29 := hO29.ext hEd10
        have hDd10 := Ext.refl wd10
        refine PW_q rfl rfl (fun wq hq => ev_loads st31 sz31 rfl (cellsB (hq.blk hB6)) rfl) ?_
        refine PW_q rfl rfl (fun wq hq => ev_loads st25 sz25 rfl (cellsB (hq.blk hB1)) rfl) ?_
        refine PW_m rfl rfl (ev_call rfl (toNetwork_spec _ A _ hA (by omega) (by omega))) ?_
        rintro _ w43 ⟨h43, rfl, hF43, hE43⟩
        have hz43 := hE43.size
        replace hE := hE.trans hE43
        replace hDd10 := hDd10.trans hE43
        have hN43 := hF43.is
        refine ⟨hDd10, ?_⟩
        have hA_3 := hA.ext hDd10
        have hB1_3 := hB1.ext hDd10
        have hF21_3 := hF21.ext hDd10
        have hN21_3 := hN21.ext hDd10
        have hx22_3 := hx22.ext hDd10
        have hF26_3 := hF26.ext hDd10
        have hN26_3 := hN26.ext hDd10
        have hB6_3 := hB6.ext hDd10
        have hO29_3 := hO29.ext hDd10
        refine PW_m rfl rfl (ev_call rfl (eqNetwork_spec _ _ A _ hN26_3 hN43 (by omega))) ?_
        rintro _ w44 ⟨rfl, hE44⟩
        have hz44 := hE44.size
        replace hE := hE.trans hE44
        replace hDd10 := hDd10.trans hE44
        replace hF43 := hF43.ext hE44
        replace hN43 := hN43.ext hE44
        refine ⟨hDd10, ?_⟩
        refine PW_q rfl rfl (fun wq hq => ev_not rfl) ?_
        replace hA := hA.ext hDd10
        replace hB1 := hB1.ext hDd10
        replace hF21 := hF21.ext hDd10
        replace hN21 := hN21.ext hDd10
        replace hx22 := hx22.ext hDd10
        replace hF26 := hF26.ext hDd10
        replace hN26 := hN26.ext hDd10
        replace hB6 := hB6.ext hDd10
        replace hO29 := hO29.ext hDd10
        refine PW_nil ?_
        refine thenE_n ?_
        refine W_cond rfl (fun hg45 => ?_) (fun hg45 => ?_)
        · have hg44 := not_true hg45
          refine W_seq ?_
          refine W_region ?_
          refine WL_q rfl (ev_assign rfl) ?_
          refine WL_nil ?_
          refine thenE_n ?_
          refine W_ret ?_
          refine thenE_r ?_
          refine ret1 rfl rfl ?_
          first | (exact ⟨rfl, hE⟩) | (exact (bneE hg44 (hr29.det1 hr22)).elim) | (exact absurd (hr29.det1 hr22) hp44) | (exact absurd (hr29.det1 hr22) (of_decide_eq_false hg44)) | (exact (bneE hg44 (hr29.det2 hr22)).elim) | (exact absurd (hr29.det2 hr22) hp44) | (exact absurd (hr29.det2 hr22) (of_decide_eq_false hg44)) | (exact (bneE hg44 (hr29.det3 hr22)).elim) | (exact absurd (hr29.det3 hr22) hp44) | (exact absurd (hr29.det3 hr22) (of_decide_eq_false hg44)) | (exact (tfX hg44).elim) | (exact (decF hg44).elim) | (exfalso; omega)
        · have hg44 := not_false hg45
          refine W_skip ?_
          refine thenE_n ?_
          refine W_seq ?_
          refine W_region ?_
          refine WL_q rfl (ev_assign rfl) ?_
          refine WL_nil ?_
          refine thenE_n ?_
          refine W_seq ?_
          refine W_region ?_
          refine WL_q rfl (ev_loads st31 sz31 rfl (cellsB hB6) rfl) ?_
          refine WL_q rfl (ev_move rfl) ?_
          refine WL_m rfl (ev_call rfl (markNetwork_spec _ A _ _ hF26 (by omega) (by omega) (by omega))) ?_
          rintro _ w48 ⟨r48, rfl, hr48, hK48⟩
          have hz48 := hK48.size
          replace hE := hE.mrk hK48 (by omega)
          replace hA := hA.mrk hK48 (by omega)
          replace hB1 := hB1.mrk hK48 (by omega)
          replace hF21 := hF21.mrk hK48 (by omega)
          replace hN21 := hN21.mrk hK48 (by omega)
          replace hx22 := hx22.mrk hK48 (by omega)
          replace hB6 := hB6.mrk hK48 (by omega)
          replace hO29 := hO29.mrk hK48 (by omega)
          replace hF43 := hF43.mrk hK48 (by omega)
          replace hN43 := hN43.mrk hK48 (by omega)
          refine WL_q rfl (ev_assign rfl) ?_
          refine WL_nil ?_
          refine thenE_n ?_
          refine W_seq ?_
          refine W_seq ?_
          refine W_region ?_
          refine WL_q rfl (ev_move rfl) ?_
          refine WL_q rfl (ev_lss rfl rfl) ?_
          refine WL_q rfl (ev_move rfl) ?_
          refine WL_splitv (t := 51) rfl (fun hg50 => ?_) (fun hg50 => ?_)
          · have hp50 := of_decide_eq_true hg50
            refine WL_no rfl rfl hg50 rfl ?_
            refine WL_no rfl rfl hg50 rfl ?_
            refine WL_no rfl rfl hg50 rfl ?_
            refine WL_no rfl rfl hg50 rfl ?_
            refine WL_q rfl (ev_pick_t rfl hg50 rfl) ?_
            refine WL_q rfl (ev_move rfl) ?_
            refine WL_no rfl rfl rfl rfl ?_
            refine WL_no rfl rfl rfl rfl ?_
            refine WL_no rfl rfl rfl rfl ?_
            refine WL_q rfl (ev_pick_t rfl rfl rfl) ?_
            refine WL_nil ?_
            refine thenE_n ?_
            refine W_cond_t rfl ?_
            refine W_seq ?_
            refine W_region ?_
            refine WL_q rfl (ev_assign rfl) ?_
            refine WL_nil ?_
            refine thenE_n ?_
            refine W_ret ?_
            refine thenE_r ?_
            refine ret1 rfl rfl ?_
            first | (exact ⟨rfl, hE⟩) | (exact (bneE hg50 (hr29.det1 hr22)).elim) | (exact absurd (hr29.det1 hr22) hp50) | (exact absurd (hr29.det1 hr22) (of_decide_eq_false hg50)) | (exact (bneE hg50 (hr29.det2 hr22)).elim) | (exact absurd (hr29.det2 hr22) hp50) | (exact absurd (hr29.det2 hr22) (of_decide_eq_false hg50)) | (exact (bneE hg50 (hr29.det3 hr22)).elim) | (exact absurd (hr29.det3 hr22) hp50) | (exact absurd (hr29.det3 hr22) (of_decide_eq_false hg50)) | (exact (tfX hg50).elim) | (exact (decF hg50).elim) | (exfalso; omega)
          · have hp50 := of_decide_eq_false hg50
            refine WL_qg rfl rfl hg50 rfl (ev_move rfl) ?_
            refine WL_qg rfl rfl hg50 rfl (ev_move rfl) ?_
            refine WL_mg rfl rfl hg50 rfl (ev_call rfl (eqIntS_spec _ _ _ _ y29 y22 _ (ownt_i hO29) hx22 (by omega))) ?_
            rintro _ w54 ⟨rfl, hE54⟩
            have hz54 := hE54.size
            replace hE := hE.trans hE54
            replace hA := hA.ext hE54
            replace hB1 := hB1.ext hE54
            replace hF21 := hF21.ext hE54
            replace hN21 := hN21.ext hE54
            replace hx22 := hx22.ext hE54
            replace hB6 := hB6.ext hE54
            replace hO29 := hO29.ext hE54
            replace hF43 := hF43.ext hE54
            replace hN43 := hN43.ext hE54
            refine WL_qg rfl rfl hg50 rfl (ev_not rfl) ?_
            refine WL_q rfl (ev_pick_f rfl hg50 rfl) ?_
            refine WL_q rfl (ev_move rfl) ?_
            refine WL_splitv (t := 57) rfl (fun hg55 => ?_) (fun hg55 => ?_)
            · have hg54 := not_true hg55
              refine WL_no rfl rfl hg55 rfl ?_
              refine WL_no rfl rfl hg55 rfl ?_
              refine WL_no rfl rfl hg55 rfl ?_
              refine WL_q rfl (ev_pick_t rfl hg55 rfl) ?_
              refine WL_nil ?_
              refine thenE_n ?_
              refine W_cond_t rfl ?_
              refine W_seq ?_
              refine W_region ?_
              refine WL_q rfl (ev_assign rfl) ?_
              refine WL_nil ?_
              refine thenE_n ?_
              refine W_ret ?_
              refine thenE_r ?_
              refine ret1 rfl rfl ?_
              first | (exact ⟨rfl, hE⟩) | (exact (bneE hg54 (hr29.det1 hr22)).elim) | (exact absurd (hr29.det1 hr22) hp54) | (exact absurd (hr29.det1 hr22) (of_decide_eq_false hg54)) | (exact (bneE hg54 (hr29.det2 hr22)).elim) | (exact absurd (hr29.det2 hr22) hp54) | (exact absurd (hr29.det2 hr22) (of_decide_eq_false hg54)) | (exact (bneE hg54 (hr29.det3 hr22)).elim) | (exact absurd (hr29.det3 hr22) hp54) | (exact absurd (hr29.det3 hr22) (of_decide_eq_false hg54)) | (exact (tfX hg54).elim) | (exact (decF hg54).elim) | (exfalso; omega)
            · have hg54 := not_false hg55
              refine WL_qg rfl rfl hg55 rfl (ev_move rfl) ?_
              refine WL_qg rfl rfl hg55 rfl (ev_move rfl) ?_
              refine WL_qg rfl rfl hg55 rfl (ev_neq_b Try.underlying4 rfl rfl) ?_
              refine WL_q rfl (ev_pick_f rfl hg55 rfl) ?_
              refine WL_nil ?_
              refine thenE_n ?_
              refine W_cond rfl (fun hg60 => ?_) (fun hg60 => ?_)
              · refine W_seq ?_
                refine W_region ?_
                refine WL_q rfl (ev_assign rfl) ?_
                refine WL_nil ?_
                refine thenE_n ?_
                refine W_ret ?_
                refine thenE_r ?_
                refine ret1 rfl rfl ?_
                first | (exact ⟨rfl, hE⟩) | (exact (bneE hg60 (hr29.det1 hr22)).elim) | (exact absurd (hr29.det1 hr22) hp60) | (exact absurd (hr29.det1 hr22) (of_decide_eq_false hg60)) | (exact (bneE hg60 (hr29.det2 hr22)).elim) | (exact absurd (hr29.det2 hr22) hp60) | (exact absurd (hr29.det2 hr22) (of_decide_eq_false hg60)) | (exact (bneE hg60 (hr29.det3 hr22)).elim) | (exact absurd (hr29.det3 hr22) hp60) | (exact absurd (hr29.det3 hr22) (of_decide_eq_false hg60)) | (exact (tfX hg60).elim) | (exact (decF hg60).elim) | (exfalso; omega)
              · refine W_skip ?_
                refine thenE_n ?_
                refine W_seq ?_
                refine W_region ?_
                refine WL_q rfl (ev_assign rfl) ?_
                refine WL_nil ?_
                refine thenE_n ?_
                refine W_seq ?_
                refine W_region ?_
                refine WL_q rfl (ev_move rfl) ?_
                refine WL_q rfl (ev_move rfl) ?_
                refine WL_m rfl (ev_call rfl (markIntS_ownH hO29 (by omega) (by omega))) ?_
                rintro _ w64 ⟨rfl, hO64, hK64⟩
                have hz64 := hK64.size
                have hR64 := hK64
                replace hE := hE.rg hR64 (by omega)
                replace hA := hA.rg hR64 (by omega)
                replace hB1 := hB1.rg hR64 (by omega)
                replace hF21 := hF21.rg hR64 (by omega)
                replace hN21 := hN21.rg hR64 (by omega)
                replace hx22 := hx22.rg hR64 (by omega)
                replace hB6 := hB6.rg hR64 (by omega)
                replace hF43 := hF43.rg hR64 (by omega)
                replace hN43 := hN43.rg hR64 (by omega)
                replace hO29 := hO64
                refine WL_q rfl (ev_assign rfl) ?_
                refine WL_nil ?_
                refine thenE_n ?_
                refine W_seq ?_
                refine W_region ?_
                refine WL_q rfl (ev_assign rfl) ?_
                refine WL_nil ?_
                refine thenE_n ?_
                refine W_seq ?_
                refine W_region ?_
                refine WL_q rfl (ev_move rfl) ?_
                refine WL_q rfl (ev_move rfl) ?_
                refine WL_m rfl (ev_call rfl (heldIntS_spec _ _ (nums 1 y29.length) _ _ (Ints.of_own (nums_len _ _) hO29.1) rfl (by omega) (by omega))) ?_
                rintro _ w67 ⟨rfl, hE67⟩
                have hz67 := hE67.size
                replace hE := hE.trans hE67
                replace hA := hA.ext hE67
                replace hB1 := hB1.ext hE67
                replace hF21 := hF21.ext hE67
                replace hN21 := hN21.ext hE67
                replace hx22 := hx22.ext hE67
                replace hB6 := hB6.ext hE67
                replace hO29 := hO29.ext hE67
                replace hF43 := hF43.ext hE67
                replace hN43 := hN43.ext hE67
                refine WL_q rfl (ev_assign rfl) ?_
                refine WL_nil ?_
                refine thenE_n ?_
                refine W_seq ?_
                refine W_seq ?_
                refine W_region ?_
                refine WL_q rfl (ev_move rfl) ?_
                refine WL_q rfl (ev_lss rfl rfl) ?_
                refine WL_nil ?_
                refine thenE_n ?_
                refine W_cond rfl (fun hg69 => ?_) (fun hg69 => ?_)
                · have hp69 := of_decide_eq_true hg69
                  refine W_seq ?_
                  refine W_region ?_
                  refine WL_q rfl (ev_assign rfl) ?_
                  refine WL_nil ?_
                  refine thenE_n ?_
                  refine W_ret ?_
                  refine thenE_r ?_
                  refine ret1 rfl rfl ?_
                  first | (exact ⟨rfl, hE⟩) | (exact (bneE hg69 (hr29.det1 hr22)).elim) | (exact absurd (hr29.det1 hr22) hp69) | (exact absurd (hr29.det1 hr22) (of_decide_eq_false hg69)) | (exact (bneE hg69 (hr29.det2 hr22)).elim) | (exact absurd (hr29.det2 hr22) hp69) | (exact absurd (hr29.det2 hr22) (of_decide_eq_false hg69)) | (exact (bneE hg69 (hr29.det3 hr22)).elim) | (exact absurd (hr29.det3 hr22) hp69) | (exact absurd (hr29.det3 hr22) (of_decide_eq_false hg69)) | (exact (tfX hg69).elim) | (exact (decF hg69).elim) | (exfalso; omega)
                · have hp69 := of_decide_eq_false hg69
                  refine W_skip ?_
                  refine thenE_n ?_
                  refine W_seq ?_
                  refine W_seq ?_
                  refine W_region ?_
                  refine WL_q rfl (ev_move rfl) ?_
                  refine WL_q rfl (ev_move rfl) ?_
                  refine WL_q rfl (ev_neq rfl rfl) ?_
                  refine WL_nil ?_
                  refine thenE_n ?_
                  refine W_cond rfl (fun hg72 => ?_) (fun hg72 => ?_)
                  · have hp72 := of_decide_eq_true hg72
                    refine W_seq ?_
                    refine W_region ?_
                    refine WL_q rfl (ev_assign rfl) ?_
                    refine WL_nil ?_
                    refine thenE_n ?_
                    refine W_ret ?_
                    refine thenE_r ?_
                    refine ret1 rfl rfl ?_
                    first | (exact ⟨rfl, hE⟩) | (exact (bneE hg72 (hr29.det1 hr22)).elim) | (exact absurd (hr29.det1 hr22) hp72) | (exact absurd (hr29.det1 hr22) (of_decide_eq_false hg72)) | (exact (bneE hg72 (hr29.det2 hr22)).elim) | (exact absurd (hr29.det2 hr22) hp72) | (exact absurd (hr29.det2 hr22) (of_decide_eq_false hg72)) | (exact (bneE hg72 (hr29.det3 hr22)).elim) | (exact absurd (hr29.det3 hr22) hp72) | (exact absurd (hr29.det3 hr22) (of_decide_eq_false hg72)) | (exact (tfX hg72).elim) | (exact (decF hg72).elim) | (exfalso; omega)
                  · have hp72 := of_decide_eq_false hg72
                    refine W_skip ?_
                    refine thenE_n ?_
                    refine W_seq ?_
                    refine W_region ?_
                    refine WL_q rfl (ev_loads st25 sz25 rfl (cellsB hB1) rfl) ?_
                    refine WL_m rfl (ev_call rfl (toNetwork_spec _ A _ hA (by omega) (by omega))) ?_
                    rintro _ w75 ⟨h75, rfl, hF75, hE75⟩
                    have hz75 := hE75.size
                    replace hE := hE.trans hE75
                    replace hA := hA.ext hE75
                    replace hB1 := hB1.ext hE75
                    replace hF21 := hF21.ext hE75
                    replace hN21 := hN21.ext hE75
                    replace hx22 := hx22.ext hE75
                    replace hB6 := hB6.ext hE75
                    replace hO29 := hO29.ext hE75
                    replace hF43 := hF43.ext hE75
                    replace hN43 := hN43.ext hE75
                    have hN75 := hF75.is
                    refine WL_m rfl (ev_call rfl (TwinClasses_own _ A _ hN75 (by omega) (by omega))) ?_
                    rintro _ w76 ⟨a76, c76, y76, q76, rfl, hr76, hO76, hl76, hE76⟩
                    have hz76 := hE76.size
                    replace hE := hE.trans hE76
                    replace hA := hA.ext hE76
                    replace hB1 := hB1.ext hE76
                    replace hF21 := hF21.ext hE76
                    replace hN21 := hN21.ext hE76
                    replace hx22 := hx22.ext hE76
                    replace hB6 := hB6.ext hE76
                    replace hO29 := hO29.ext hE76
                    replace hF43 := hF43.ext hE76
                    replace hN43 := hN43.ext hE76
                    replace hF75 := hF75.ext hE76
                    replace hN75 := hN75.ext hE76
                    refine WL_q rfl (ev_move rfl) ?_
                    refine WL_q rfl (ev_extract rfl rfl) ?_
                    refine WL_q rfl (ev_extract rfl rfl) ?_
                    refine WL_q rfl (ev_assign rfl) ?_
                    refine WL_q rfl (ev_assign rfl) ?_
                    refine WL_nil ?_
                    refine thenE_n ?_
                    refine W_seq ?_
                    refine W_seq ?_
                    refine W_region ?_
                    refine WL_q rfl (ev_move rfl) ?_
                    refine WL_q rfl (ev_move rfl) ?_
                    refine WL_m rfl (ev_call rfl (eqIntS_spec _ _ _ _ y76 y22 _ (ownt_i hO76) hx22 (by omega))) ?_
                    rintro _ w81 ⟨rfl, hE81⟩
                    have hz81 := hE81.size
                    replace hE := hE.trans hE81
                    replace hA := hA.ext hE81
                    replace hB1 := hB1.ext hE81
                    replace hF21 := hF21.ext hE81
                    replace hN21 := hN21.ext hE81
                    replace hx22 := hx22.ext hE81
                    replace hB6 := hB6.ext hE81
                    replace hO29 := hO29.ext hE81
                    replace hF43 := hF43.ext hE81
                    replace hN43 := hN43.ext hE81
                    replace hF75 := hF75.ext hE81
                    replace hN75 := hN75.ext hE81
                    replace hO76 := hO76.ext hE81
                    refine WL_q rfl (ev_not rfl) ?_
                    refine WL_q rfl (ev_move rfl) ?_
                    refine WL_splitv (t := 83) rfl (fun hg82 => ?_) (fun hg82 => ?_)
                    · have hg81 := not_true hg82
                      refine WL_no rfl rfl hg82 rfl ?_
                      refine WL_no rfl rfl hg82 rfl ?_
                      refine WL_no rfl rfl hg82 rfl ?_
                      refine WL_q rfl (ev_pick_t rfl hg82 rfl) ?_
                      refine WL_nil ?_
                      refine thenE_n ?_
                      refine W_cond_t rfl ?_
                      refine W_seq ?_
                      refine W_region ?_
                      refine WL_q rfl (ev_assign rfl) ?_
                      refine WL_nil ?_
                      refine thenE_n ?_
                      refine W_ret ?_
                      refine thenE_r ?_
                      refine ret1 rfl rfl ?_
                      first | (exact ⟨rfl, hE⟩) | (exact (bneE hg81 (hr76.det1 hr22)).elim) | (exact absurd (hr76.det1 hr22) hp81) | (exact absurd (hr76.det1 hr22) (of_decide_eq_false hg81)) | (exact (bneE hg81 (hr76.det2 hr22)).elim) | (exact absurd (hr76.det2 hr22) hp81) | (exact absurd (hr76.det2 hr22) (of_decide_eq_false hg81)) | (exact (bneE hg81 (hr76.det3 hr22)).elim) | (exact absurd (hr76.det3 hr22) hp81) | (exact absurd (hr76.det3 hr22) (of_decide_eq_false hg81)) | (exact (bneE hg81 (hr29.det1 hr22)).elim) | (exact absurd (hr29.det1 hr22) hp81) | (exact absurd (hr29.det1 hr22) (of_decide_eq_false hg81)) | (exact (bneE hg81 (hr29.det2 hr22)).elim) | (exact absurd (hr29.det2 hr22) hp81) | (exact absurd (hr29.det2 hr22) (of_decide_eq_false hg81)) | (exact (bneE hg81 (hr29.det3 hr22)).elim) | (exact absurd (hr29.det3 hr22) hp81) | (exact absurd (hr29.det3 hr22) (of_decide_eq_false hg81)) | (exact (tfX hg81).elim) | (exact (decF hg81).elim) | (exfalso; omega)
                    · have hg81 := not_false hg82
                      refine WL_qg rfl rfl hg82 rfl (ev_move rfl) ?_
                      refine WL_qg rfl rfl hg82 rfl (ev_move rfl) ?_
                      refine WL_qg rfl rfl hg82 rfl (ev_neq_b Try.underlying4 rfl rfl) ?_
                      refine WL_q rfl (ev_pick_f rfl hg82 rfl) ?_
                      refine WL_nil ?_
                      refine thenE_n ?_
                      refine W_cond rfl (fun hg86 => ?_) (fun hg86 => ?_)
                      · refine W_seq ?_
                        refine W_region ?_
                        refine WL_q rfl (ev_assign rfl) ?_
                        refine WL_nil ?_
                        refine thenE_n ?_
                        refine W_ret ?_
                        refine thenE_r ?_
                        refine ret1 rfl rfl ?_
                        first | (exact ⟨rfl, hE⟩) | (exact (bneE hg86 (hr76.det1 hr22)).elim) | (exact absurd (hr76.det1 hr22) hp86) | (exact absurd (hr76.det1 hr22) (of_decide_eq_false hg86)) | (exact (bneE hg86 (hr76.det2 hr22)).elim) | (exact absurd (hr76.det2 hr22) hp86) | (exact absurd (hr76.det2 hr22) (of_decide_eq_false hg86)) | (exact (bneE hg86 (hr76.det3 hr22)).elim) | (exact absurd (hr76.det3 hr22) hp86) | (exact absurd (hr76.det3 hr22) (of_decide_eq_false hg86)) | (exact (bneE hg86 (hr29.det1 hr22)).elim) | (exact absurd (hr29.det1 hr22) hp86) | (exact absurd (hr29.det1 hr22) (of_decide_eq_false hg86)) | (exact (bneE hg86 (hr29.det2 hr22)).elim) | (exact absurd (hr29.det2 hr22) hp86) | (exact absurd (hr29.det2 hr22) (of_decide_eq_false hg86)) | (exact (bneE hg86 (hr29.det3 hr22)).elim) | (exact absurd (hr29.det3 hr22) hp86) | (exact absurd (hr29.det3 hr22) (of_decide_eq_false hg86)) | (exact (tfX hg86).elim) | (exact (decF hg86).elim) | (exfalso; omega)
                      · refine W_skip ?_
                        refine thenE_n ?_
                        refine W_seq ?_
                        refine W_region ?_
                        refine WL_q rfl (ev_assign rfl) ?_
                        refine WL_nil ?_
                        refine thenE_n ?_
                        refine W_seq ?_
                        refine W_region ?_
                        refine WL_q rfl (ev_move rfl) ?_
                        refine WL_q rfl (ev_move rfl) ?_
                        refine WL_m rfl (ev_call rfl (heldIntS_spec _ _ (nums 1 y29.length) _ _ (Ints.of_own (nums_len _ _) hO29.1) rfl (by omega) (by omega))) ?_
                        rintro _ w90 ⟨rfl, hE90⟩
                        have hz90 := hE90.size
                        replace hE := hE.trans hE90
                        replace hA := hA.ext hE90
                        replace hB1 := hB1.ext hE90
                        replace hF21 := hF21.ext hE90
                        replace hN21 := hN21.ext hE90
                        replace hx22 := hx22.ext hE90
                        replace hB6 := hB6.ext hE90
                        replace hO29 := hO29.ext hE90
                        replace hF43 := hF43.ext hE90
                        replace hN43 := hN43.ext hE90
                        replace hF75 := hF75.ext hE90
                        replace hN75 := hN75.ext hE90
                        replace hO76 := hO76.ext hE90
                        refine WL_q rfl (ev_assign rfl) ?_
                        refine WL_nil ?_
                        refine thenE_n ?_
                        refine W_seq ?_
                        refine W_seq ?_
                        refine W_region ?_
                        refine WL_q rfl (ev_move rfl) ?_
                        refine WL_q rfl (ev_lss rfl rfl) ?_
                        refine WL_nil ?_
                        refine thenE_n ?_
                        refine W_cond rfl (fun hg92 => ?_) (fun hg92 => ?_)
                        · have hp92 := of_decide_eq_true hg92
                          refine W_seq ?_
                          refine W_region ?_
                          refine WL_q rfl (ev_assign rfl) ?_
                          refine WL_nil ?_
                          refine thenE_n ?_
                          refine W_ret ?_
                          refine thenE_r ?_
                          refine ret1 rfl rfl ?_
                          first | (exact ⟨rfl, hE⟩) | (exact (bneE hg92 (hr76.det1 hr22)).elim) | (exact absurd (hr76.det1 hr22) hp92) | (exact absurd (hr76.det1 hr22) (of_decide_eq_false hg92)) | (exact (bneE hg92 (hr76.det2 hr22)).elim) | (exact absurd (hr76.det2 hr22) hp92) | (exact absurd (hr76.det2 hr22) (of_decide_eq_false hg92)) | (exact (bneE hg92 (hr76.det3 hr22)).elim) | (exact absurd (hr76.det3 hr22) hp92) | (exact absurd (hr76.det3 hr22) (of_decide_eq_false hg92)) | (exact (bneE hg92 (hr29.det1 hr22)).elim) | (exact absurd (hr29.det1 hr22) hp92) | (exact absurd (hr29.det1 hr22) (of_decide_eq_false hg92)) | (exact (bneE hg92 (hr29.det2 hr22)).elim) | (exact absurd (hr29.det2 hr22) hp92) | (exact absurd (hr29.det2 hr22) (of_decide_eq_false hg92)) | (exact (bneE hg92 (hr29.det3 hr22)).elim) | (exact absurd (hr29.det3 hr22) hp92) | (exact absurd (hr29.det3 hr22) (of_decide_eq_false hg92)) | (exact (tfX hg92).elim) | (exact (decF hg92).elim) | (exfalso; omega)
                        · have hp92 := of_decide_eq_false hg92
                          refine W_skip ?_
                          refine thenE_n ?_
                          refine W_seq ?_
                          refine W_seq ?_
                          refine W_region ?_
                          refine WL_q rfl (ev_move rfl) ?_
                          refine WL_q rfl (ev_move rfl) ?_
                          refine WL_q rfl (ev_neq rfl rfl) ?_
                          refine WL_nil ?_
                          refine thenE_n ?_
                          refine W_cond rfl (fun hg95 => ?_) (fun hg95 => ?_)
                          · have hp95 := of_decide_eq_true hg95
                            refine W_seq ?_
                            refine W_region ?_
                            refine WL_q rfl (ev_assign rfl) ?_
                            refine WL_nil ?_
                            refine thenE_n ?_
                            refine W_ret ?_
                            refine thenE_r ?_
                            refine ret1 rfl rfl ?_
                            first | (exact ⟨rfl, hE⟩) | (exact (bneE hg95 (hr76.det1 hr22)).elim) | (exact absurd (hr76.det1 hr22) hp95) | (exact absurd (hr76.det1 hr22) (of_decide_eq_false hg95)) | (exact (bneE hg95 (hr76.det2 hr22)).elim) | (exact absurd (hr76.det2 hr22) hp95) | (exact absurd (hr76.det2 hr22) (of_decide_eq_false hg95)) | (exact (bneE hg95 (hr76.det3 hr22)).elim) | (exact absurd (hr76.det3 hr22) hp95) | (exact absurd (hr76.det3 hr22) (of_decide_eq_false hg95)) | (exact (bneE hg95 (hr29.det1 hr22)).elim) | (exact absurd (hr29.det1 hr22) hp95) | (exact absurd (hr29.det1 hr22) (of_decide_eq_false hg95)) | (exact (bneE hg95 (hr29.det2 hr22)).elim) | (exact absurd (hr29.det2 hr22) hp95) | (exact absurd (hr29.det2 hr22) (of_decide_eq_false hg95)) | (exact (bneE hg95 (hr29.det3 hr22)).elim) | (exact absurd (hr29.det3 hr22) hp95) | (exact absurd (hr29.det3 hr22) (of_decide_eq_false hg95)) | (exact (tfX hg95).elim) | (exact (decF hg95).elim) | (exfalso; omega)
                          · have hp95 := of_decide_eq_false hg95
                            refine W_skip ?_
                            refine thenE_n ?_
                            refine W_seq ?_
                            refine W_region ?_
                            refine WL_q rfl (ev_assign rfl) ?_
                            refine WL_nil ?_
                            refine thenE_n ?_
                            refine W_ret ?_
                            refine ret1 rfl rfl ?_
                            first | (exact ⟨rfl, hE⟩) | (exact (bneE hg95 (hr76.det1 hr22)).elim) | (exact absurd (hr76.det1 hr22) hp95) | (exact absurd (hr76.det1 hr22) (of_decide_eq_false hg95)) | (exact (bneE hg95 (hr76.det2 hr22)).elim) | (exact absurd (hr76.det2 hr22) hp95) | (exact absurd (hr76.det2 hr22) (of_decide_eq_false hg95)) | (exact (bneE hg95 (hr76.det3 hr22)).elim) | (exact absurd (hr76.det3 hr22) hp95) | (exact absurd (hr76.det3 hr22) (of_decide_eq_false hg95)) | (exact (bneE hg95 (hr29.det1 hr22)).elim) | (exact absurd (hr29.det1 hr22) hp95) | (exact absurd (hr29.det1 hr22) (of_decide_eq_false hg95)) | (exact (bneE hg95 (hr29.det2 hr22)).elim) | (exact absurd (hr29.det2 hr22) hp95) | (exact absurd (hr29.det2 hr22) (of_decide_eq_false hg95)) | (exact (bneE hg95 (hr29.det3 hr22)).elim) | (exact absurd (hr29.det3 hr22) hp95) | (exact absurd (hr29.det3 hr22) (of_decide_eq_false hg95)) | (exact (tfX hg95).elim) | (exact (decF hg95).elim) | (exfalso; omega)

end Go.Proofs.Ytjnkkadbfigmpaa
