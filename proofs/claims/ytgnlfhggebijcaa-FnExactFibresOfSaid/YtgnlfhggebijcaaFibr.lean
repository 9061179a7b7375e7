/- Contracts of FibresOf with its rows, of the program and of the reference; the walk of its law. -/
import Derived.Test.YtgnlfhggebijcaaComp
namespace Go.Proofs.Ytgnlfhggebijcaa
open Go Go.RowKit

set_option maxRecDepth 100000 in
theorem FibresOf_rows {loA hiA : Nat} (nA : NA) (A : Net) {loB hiB : Nat} (nB : NA) (B : Net) {lom him : Nat} (am : Option Addr) (cm : Nat) (m : List Int) (w : World) (hA : IsNet loA hiA w nA A) (hhiA : hiA ≤ w.heap.size) (hnA : totN A ≤ 1048576) (hB : IsNet loB hiB w nB B) (hhiB : hiB ≤ w.heap.size) (hnB : totN B ≤ 1048576) (hm : Ints lom him w am cm m) (hhim : him ≤ w.heap.size) (hnm : m.length ≤ 1048576) :
    Fn Try.prog 46 #[netV nA A, netV nB B, .slice am m.length cm] w (fun o9 w' => ∃ a' c' ys q, o9 = .tuple #[.slice a' ys.length c', VB q] ∧ RV [] (opt (NOk A ∧ NOk B ∧ IsPM A B m) (fibs m B.ends.length)) ys q ∧ RowsH w.heap.size w'.heap.size w' 3 a' c' ys ∧ (sumL ys ≤ 1048576 ∧ ys.length ≤ 1048576 ∧ totL ys ≤ 1048576) ∧ Ext w w') := by
  have hqA := totL_len A.ends
  have hmA : totL A.ends + A.ids.length + A.inputs.length ≤ 1048576 := hnA
  have hqB := totL_len B.ends
  have hmB : totL B.ends + B.ids.length + B.inputs.length ≤ 1048576 := hnB
  have hE := Ext.refl w
  refine Fn_of Try.func46 rfl rfl (by kernel_rfl) rfl ?_
  refine W_seq ?_
  refine W_region ?_
  refine WL_m rfl (ev_box rfl) ?_
  rintro _ w3 ⟨rfl, hN3⟩
  have hz3 := hN3.size
  replace hE := hE.trans hN3.ext
  replace hA := hA.ext hN3.ext
  replace hB := hB.ext hN3.ext
  replace hm := hm.ext hN3.ext
  have hB3 : Blk w3 _ _ [_, _, _] := hN3.blk
  refine WL_m rfl (ev_box rfl) ?_
  rintro _ w4 ⟨rfl, hN4⟩
  have hz4 := hN4.size
  replace hE := hE.trans hN4.ext
  replace hA := hA.ext hN4.ext
  replace hB := hB.ext hN4.ext
  replace hm := hm.ext hN4.ext
  replace hB3 := hB3.ext hN4.ext
  have hB4 : Blk w4 _ _ [_, _, _] := hN4.blk
  refine WL_q rfl (ev_assign rfl) ?_
  refine WL_q rfl (ev_assign rfl) ?_
  refine WL_nil ?_
  refine thenE_n ?_
  refine W_seq ?_
  refine W_seq ?_
  refine W_region ?_
  refine WL_q rfl (ev_loads st31 sz31 rfl (cellsB hB3) rfl) ?_
  refine WL_q rfl (ev_loads st31 sz31 rfl (cellsB hB4) rfl) ?_
  refine WL_q rfl (ev_move rfl) ?_
  refine WL_m rfl (ev_call rfl (mapOk_spec _ _ _ _ _ _ _ _ (by assumption) (by assumption) (by assumption) (by omega) (by omega) (by omega) (by omega) (by omega) (by omega))) ?_
  rintro _ w11 ⟨b11, rfl, hb11, hE11⟩
  have hz11 := hE11.size
  replace hE := hE.trans hE11
  replace hA := hA.ext hE11
  replace hB := hB.ext hE11
  replace hm := hm.ext hE11
  replace hB3 := hB3.ext hE11
  replace hB4 := hB4.ext hE11
  refine WL_q rfl (ev_not rfl) ?_
  refine WL_nil ?_
  refine thenE_n ?_
  refine W_cond rfl (fun hg12 => ?_) (fun hg12 => ?_)
  · have hg11 := not_true hg12
    have hp11 := ttN hb11 hg11
    refine W_seq ?_
    refine W_region ?_
    refine WL_q rfl (ev_assign rfl) ?_
    refine WL_q rfl (ev_assign rfl) ?_
    refine WL_nil ?_
    refine thenE_n ?_
    refine W_ret ?_
    refine thenE_r ?_
    refine ret2 rfl rfl rfl ?_
    first | (exact ⟨none, 0, [], _, rfl, .no (fun h => hp11 h), RowsH.nil, ⟨by simp [sumL], by simp, by simp [totL]⟩, hE⟩) | (exact ⟨_, B.ends.length, fibs m B.ends.length, _, by rw [hfl], .yes hp11 rfl, (by have h9 := (RowsH.of_orows hR17 (by unfold maxLen; omega)).up (l' := w.heap.size) (by omega) (Nat.le_refl _); rw [hfl] at h9; exact h9), ⟨by omega, by omega, by omega⟩, hE⟩)
  · have hg11 := not_false hg12
    have hp11 := hb11.1 hg11
    refine W_skip ?_
    refine thenE_n ?_
    refine W_seq ?_
    refine W_region ?_
    refine WL_q rfl (ev_move rfl) ?_
    refine WL_q rfl (ev_fieldAddr fo31_0 rfl) ?_
    refine WL_q rfl (ev_load one29 rfl (hB4.cell rfl)) ?_
    refine WL_q rfl (ev_len Try.underlying29 rfl) ?_
    have hfl := fibs_len m B.ends.length
    have hml := hp11.2.2.len
    have hndA := hp11.1.nodes
    have hndB := hp11.2.1.nodes
    have hsm := fibs_sum (m := m) (n := B.ends.length) (by omega) (by omega)
    have hts := totL_sum (fibs m B.ends.length)
    refine WL_m rfl (ev_call rfl (fibres_spec _ _ m B.ends.length _ hm (by omega) (fun x hx => allR_true.1 hp11.2.2.rng x hx) (by omega) (by omega))) ?_
    rintro _ w17 ⟨b17, rfl, hR17, hE17⟩
    have hz17 := hE17.size
    replace hE := hE.trans hE17
    replace hA := hA.ext hE17
    replace hB := hB.ext hE17
    replace hm := hm.ext hE17
    replace hB3 := hB3.ext hE17
    replace hB4 := hB4.ext hE17
    refine WL_q rfl (ev_assign rfl) ?_
    refine WL_q rfl (ev_assign rfl) ?_
    refine WL_nil ?_
    refine thenE_n ?_
    refine W_ret ?_
    refine ret2 rfl rfl rfl ?_
    first | (exact ⟨none, 0, [], _, rfl, .no (fun h => hp11 h), RowsH.nil, ⟨by simp [sumL], by simp, by simp [totL]⟩, hE⟩) | (exact ⟨_, B.ends.length, fibs m B.ends.length, _, by rw [hfl], .yes hp11 rfl, (by have h9 := (RowsH.of_orows hR17 (by unfold maxLen; omega)).up (l' := w.heap.size) (by omega) (Nat.le_refl _); rw [hfl] at h9; exact h9), ⟨by omega, by omega, by omega⟩, hE⟩)

set_option maxRecDepth 100000 in
theorem sFibresOf_rows {loA hiA : Nat} (nA : NA) (A : Net) {loB hiB : Nat} (nB : NA) (B : Net) {lom him : Nat} (am : Option Addr) (cm : Nat) (m : List Int) (w : World) (hA : IsNet loA hiA w nA A) (hhiA : hiA ≤ w.heap.size) (hnA : totN A ≤ 1048576) (hB : IsNet loB hiB w nB B) (hhiB : hiB ≤ w.heap.size) (hnB : totN B ≤ 1048576) (hm : Ints lom him w am cm m) (hhim : him ≤ w.heap.size) (hnm : m.length ≤ 1048576) :
    Fn Try.prog 45 #[netV nA A, netV nB B, .slice am m.length cm] w (fun o9 w' => ∃ a' c' ys q, o9 = .tuple #[.slice a' ys.length c', VB q] ∧ RV [] (opt (NOk A ∧ NOk B ∧ IsPM A B m) (fibs m B.ends.length)) ys q ∧ Intss 0 w'.heap.size w' a' c' ys ∧ (ys.length ≤ 1048576 ∧ totL ys ≤ 1048576) ∧ Ext w w') := by
  have hqA := totL_len A.ends
  have hmA : totL A.ends + A.ids.length + A.inputs.length ≤ 1048576 := hnA
  have hqB := totL_len B.ends
  have hmB : totL B.ends + B.ids.length + B.inputs.length ≤ 1048576 := hnB
  have hE := Ext.refl w
  refine Fn_of Try.func45 rfl rfl (by kernel_rfl) rfl ?_
  refine W_seq ?_
  refine W_region ?_
  refine WL_m rfl (ev_box rfl) ?_
  rintro _ w3 ⟨rfl, hN3⟩
  have hz3 := hN3.size
  replace hE := hE.trans hN3.ext
  replace hA := hA.ext hN3.ext
  replace hB := hB.ext hN3.ext
  replace hm := hm.ext hN3.ext
  have hB3 : Blk w3 _ _ [_, _, _] := hN3.blk
  refine WL_m rfl (ev_box rfl) ?_
  rintro _ w4 ⟨rfl, hN4⟩
  have hz4 := hN4.size
  replace hE := hE.trans hN4.ext
  replace hA := hA.ext hN4.ext
  replace hB := hB.ext hN4.ext
  replace hm := hm.ext hN4.ext
  replace hB3 := hB3.ext hN4.ext
  have hB4 : Blk w4 _ _ [_, _, _] := hN4.blk
  refine WL_q rfl (ev_assign rfl) ?_
  refine WL_q rfl (ev_assign rfl) ?_
  refine WL_nil ?_
  refine thenE_n ?_
  refine W_seq ?_
  refine W_seq ?_
  refine W_region ?_
  refine WL_q rfl (ev_loads st31 sz31 rfl (cellsB hB3) rfl) ?_
  refine WL_q rfl (ev_loads st31 sz31 rfl (cellsB hB4) rfl) ?_
  refine WL_q rfl (ev_move rfl) ?_
  refine WL_m rfl (ev_call rfl (coAsked_spec _ _ _ _ _ _ _ _ (by assumption) (by assumption) (by assumption) (by omega) (by omega) (by omega) (by omega) (by omega) (by omega))) ?_
  rintro _ w11 ⟨b11, rfl, hb11, hE11⟩
  have hz11 := hE11.size
  replace hE := hE.trans hE11
  replace hA := hA.ext hE11
  replace hB := hB.ext hE11
  replace hm := hm.ext hE11
  replace hB3 := hB3.ext hE11
  replace hB4 := hB4.ext hE11
  refine WL_q rfl (ev_not rfl) ?_
  refine WL_nil ?_
  refine thenE_n ?_
  refine W_cond rfl (fun hg12 => ?_) (fun hg12 => ?_)
  · have hg11 := not_true hg12
    have hp11 := ttN hb11 hg11
    refine W_seq ?_
    refine W_region ?_
    refine WL_q rfl (ev_assign rfl) ?_
    refine WL_q rfl (ev_assign rfl) ?_
    refine WL_nil ?_
    refine thenE_n ?_
    refine W_ret ?_
    refine thenE_r ?_
    refine ret2 rfl rfl rfl ?_
    first | (exact ⟨none, 0, [], _, rfl, .no (fun h => hp11 h), Nest.nil, ⟨by simp, by simp [totL]⟩, hE⟩) | (exact ⟨_, B.ends.length, fibs m B.ends.length, _, by rw [hfl], .yes hp11 rfl, (hR15.is (by omega)).mono (Nat.zero_le _) (Nat.le_refl _), ⟨by omega, by omega⟩, hE⟩)
  · have hg11 := not_false hg12
    have hp11 := hb11.1 hg11
    refine W_skip ?_
    refine thenE_n ?_
    refine W_seq ?_
    refine W_region ?_
    refine WL_q rfl (ev_loads st31 sz31 rfl (cellsB hB4) rfl) ?_
    refine WL_q rfl (ev_move rfl) ?_
    have hfl := fibs_len m B.ends.length
    have hml := hp11.2.2.len
    have hndA := hp11.1.nodes
    have hndB := hp11.2.1.nodes
    have hsm := fibs_sum (m := m) (n := B.ends.length) (by omega) (by omega)
    have hts := totL_sum (fibs m B.ends.length)
    refine WL_m rfl (ev_call rfl (coFibres_spec nB B _ _ m _ hm (by omega) (fun x hx => allR_true.1 hp11.2.2.rng x hx) (by omega) (by omega))) ?_
    rintro _ w15 ⟨b15, rfl, hR15, hE15⟩
    have hz15 := hE15.size
    replace hE := hE.trans hE15
    replace hA := hA.ext hE15
    replace hB := hB.ext hE15
    replace hm := hm.ext hE15
    replace hB3 := hB3.ext hE15
    replace hB4 := hB4.ext hE15
    refine WL_q rfl (ev_assign rfl) ?_
    refine WL_q rfl (ev_assign rfl) ?_
    refine WL_nil ?_
    refine thenE_n ?_
    refine W_ret ?_
    refine ret2 rfl rfl rfl ?_
    first | (exact ⟨none, 0, [], _, rfl, .no (fun h => hp11 h), Nest.nil, ⟨by simp, by simp [totL]⟩, hE⟩) | (exact ⟨_, B.ends.length, fibs m B.ends.length, _, by rw [hfl], .yes hp11 rfl, (hR15.is (by omega)).mono (Nat.zero_le _) (Nat.le_refl _), ⟨by omega, by omega⟩, hE⟩)

set_option maxHeartbeats 8000000 in
set_option maxRecDepth 100000 in
theorem law_FibresOf (nA : NA) (A : Net) (nB : NA) (B : Net) (am : Option Addr) (cm : Nat) (m : List Int) (w : World) (hA : IsNet 0 w.heap.size w nA A) (hsA : SmN A) (hB : IsNet 0 w.heap.size w nB B) (hsB : SmN B) (hm : Ints 0 w.heap.size w am cm m) :
    Fn Try.prog 14 #[netV nA A, netV nB B, .slice am m.length cm] w (fun v w' => v = VB true ∧ Ext w w') := by
  have hE := Ext.refl w
  refine Fn_of Try.func14 rfl rfl (by kernel_rfl) rfl ?_
  refine W_seq ?_
  refine W_region ?_
  refine WL_m rfl (ev_box rfl) ?_
  rintro _ w3 ⟨rfl, hN3⟩
  have hz3 := hN3.size
  replace hE := hE.trans hN3.ext
  replace hA := hA.ext hN3.ext
  replace hB := hB.ext hN3.ext
  replace hm := hm.ext hN3.ext
  have hB3 : Blk w3 _ _ [_, _, _] := hN3.blk
  refine WL_m rfl (ev_box rfl) ?_
  rintro _ w4 ⟨rfl, hN4⟩
  have hz4 := hN4.size
  replace hE := hE.trans hN4.ext
  replace hA := hA.ext hN4.ext
  replace hB := hB.ext hN4.ext
  replace hm := hm.ext hN4.ext
  replace hB3 := hB3.ext hN4.ext
  have hB4 : Blk w4 _ _ [_, _, _] := hN4.blk
  refine WL_q rfl (ev_assign rfl) ?_
  refine WL_nil ?_
  refine thenE_n ?_
  refine W_seq ?_
  refine W_seq ?_
  refine W_region ?_
  refine WL_q rfl (ev_move rfl) ?_
  refine WL_q rfl (ev_len Try.underlying23 rfl) ?_
  refine WL_q rfl (ev_gtr rfl rfl) ?_
  refine WL_nil ?_
  refine thenE_n ?_
  refine W_cond rfl (fun hg22 => ?_) (fun hg22 => ?_)
  · have hp22 := of_decide_eq_true hg22
    refine W_seq ?_
    refine W_region ?_
    refine WL_q rfl (ev_assign rfl) ?_
    refine WL_nil ?_
    refine thenE_n ?_
    refine W_ret ?_
    refine thenE_r ?_
    refine ret1 rfl rfl ?_
    first | (exact ⟨rfl, hE⟩) | (exact (tfX hg22).elim) | (exact (decF hg22).elim) | (exfalso; omega)
  · have hp22 := of_decide_eq_false hg22
    refine W_skip ?_
    refine thenE_n ?_
    refine W_seq ?_
    refine W_region ?_
    refine WL_q rfl (ev_assign rfl) ?_
    refine WL_nil ?_
    refine thenE_n ?_
    refine W_seq ?_
    refine W_region ?_
    refine WL_q rfl (ev_loads st25 sz25 rfl (cellsB hB3) rfl) ?_
    refine WL_q rfl (ev_move rfl) ?_
    refine WL_m rfl (ev_call rfl (szNetwork_spec _ A _ _ hA (by omega) hsA)) ?_
    rintro _ w25 ⟨r25, rfl, hE25, hr25⟩
    have hz25 := hE25.size
    replace hE := hE.trans hE25
    replace hA := hA.ext hE25
    replace hB := hB.ext hE25
    replace hm := hm.ext hE25
    replace hB3 := hB3.ext hE25
    replace hB4 := hB4.ext hE25
    refine WL_q rfl (ev_assign rfl) ?_
    refine WL_nil ?_
    refine thenE_n ?_
    refine W_seq ?_
    refine W_seq ?_
    refine W_region ?_
    refine WL_q rfl (ev_move rfl) ?_
    refine WL_q rfl (ev_lss rfl rfl) ?_
    refine WL_nil ?_
    refine thenE_n ?_
    refine W_cond rfl (fun hg27 => ?_) (fun hg27 => ?_)
    · have hp27 := of_decide_eq_true hg27
      refine W_seq ?_
      refine W_region ?_
      refine WL_q rfl (ev_assign rfl) ?_
      refine WL_nil ?_
      refine thenE_n ?_
      refine W_ret ?_
      refine thenE_r ?_
      refine ret1 rfl rfl ?_
      first | (exact ⟨rfl, hE⟩) | (exact (tfX hg27).elim) | (exact (decF hg27).elim) | (exfalso; omega)
    · have hp27 := of_decide_eq_false hg27
      refine W_skip ?_
      refine thenE_n ?_
      refine W_seq ?_
      refine W_region ?_
      refine WL_q rfl (ev_loads st25 sz25 rfl (cellsB hB4) rfl) ?_
      refine WL_q rfl (ev_move rfl) ?_
      refine WL_m rfl (ev_call rfl (szNetwork_spec _ B _ _ hB (by omega) hsB)) ?_
      rintro _ w30 ⟨r30, rfl, hE30, hr30⟩
      have hz30 := hE30.size
      replace hE := hE.trans hE30
      replace hA := hA.ext hE30
      replace hB := hB.ext hE30
      replace hm := hm.ext hE30
      replace hB3 := hB3.ext hE30
      replace hB4 := hB4.ext hE30
      refine WL_q rfl (ev_assign rfl) ?_
      refine WL_nil ?_
      refine thenE_n ?_
      refine W_seq ?_
      refine W_seq ?_
      refine W_region ?_
      refine WL_q rfl (ev_move rfl) ?_
      refine WL_q rfl (ev_lss rfl rfl) ?_
      refine WL_nil ?_
      refine thenE_n ?_
      refine W_cond rfl (fun hg32 => ?_) (fun hg32 => ?_)
      · have hp32 := of_decide_eq_true hg32
        refine W_seq ?_
        refine W_region ?_
        refine WL_q rfl (ev_assign rfl) ?_
        refine WL_nil ?_
        refine thenE_n ?_
        refine W_ret ?_
        refine thenE_r ?_
        refine ret1 rfl rfl ?_
        first | (exact ⟨rfl, hE⟩) | (exact (tfX hg32).elim) | (exact (decF hg32).elim) | (exfalso; omega)
      · have hp32 := of_decide_eq_false hg32
        refine W_skip ?_
        refine thenE_n ?_
        refine W_seq ?_
        refine W_drawE [(0, true), (2, true), (4, true), (1, false), (3, false), (5, false), (6, false), (7, true), (8, true), (9, true), (10, true), (11, true)] mixed (by kernel_rfl) rfl (by kernel_rfl) ?_
        intro wd10 hEd10 hzd10
        replace hE := hE.trans hEd10
        replace hA := hA.ext hEd10
        replace hB := hB.ext hEd10
        replace hm := hm.ext hEd10
        replace hB3 := hB3.ext hEd10
        replace hB4 := hB4.ext hEd10
        have hDd10 := Ext.refl wd10
        refine PW_q rfl rfl (fun wq hq => ev_loads st25 sz25 rfl (cellsB (hq.blk hB3)) rfl) ?_
        refine PW_q rfl rfl (fun wq hq => ev_loads st25 sz25 rfl (cellsB (hq.blk hB4)) rfl) ?_
        refine PW_q rfl rfl (fun wq hq => ev_move rfl) ?_
        refine PW_m rfl rfl (ev_call rfl (toNetwork_spec _ A _ hA (by omega) (by omega))) ?_
        rintro _ w35 ⟨h35, rfl, hF35, hE35⟩
        have hz35 := hE35.size
        replace hE := hE.trans hE35
        replace hDd10 := hDd10.trans hE35
        have hN35 := hF35.is
        refine ⟨hDd10, ?_⟩
        have hA_3 := hA.ext hDd10
        have hB_3 := hB.ext hDd10
        have hm_3 := hm.ext hDd10
        have hB3_3 := hB3.ext hDd10
        have hB4_3 := hB4.ext hDd10
        refine PW_m rfl rfl (ev_call rfl (toNetwork_spec _ B _ hB_3 (by omega) (by omega))) ?_
        rintro _ w37 ⟨h37, rfl, hF37, hE37⟩
        have hz37 := hE37.size
        replace hE := hE.trans hE37
        replace hDd10 := hDd10.trans hE37
        replace hF35 := hF35.ext hE37
        replace hN35 := hN35.ext hE37
        have hN37 := hF37.is
        refine ⟨hDd10, ?_⟩
        have hA_5 := hA.ext hDd10
        have hB_5 := hB.ext hDd10
        have hm_5 := hm.ext hDd10
        have hB3_5 := hB3.ext hDd10
        have hB4_5 := hB4.ext hDd10
        refine PW_m rfl rfl (ev_call rfl (toIntS_spec _ _ m _ hm_5 (by omega) (by omega))) ?_
        rintro _ w39 ⟨a39, rfl, hF39, hE39⟩
        have hz39 := hE39.size
        replace hE := hE.trans hE39
        replace hDd10 := hDd10.trans hE39
        replace hF35 := hF35.ext hE39
        replace hN35 := hN35.ext hE39
        replace hF37 := hF37.ext hE39
        replace hN37 := hN37.ext hE39
        have hI39 := hF39.is
        refine ⟨hDd10, ?_⟩
        have hA_6 := hA.ext hDd10
        have hB_6 := hB.ext hDd10
        have hm_6 := hm.ext hDd10
        have hB3_6 := hB3.ext hDd10
        have hB4_6 := hB4.ext hDd10
        refine PW_m rfl rfl (ev_call rfl (sFibresOf_rows _ A _ B _ _ m _ hN35 (by omega) (by omega) hN37 (by omega) (by omega) hI39 (by omega) (by omega))) ?_
        rintro _ w40 ⟨a40, c40, y40, q40, rfl, hr40, hx40, ⟨hm40, ht40⟩, hE40⟩
        have hz40 := hE40.size
        replace hE := hE.trans hE40
        replace hDd10 := hDd10.trans hE40
        replace hF35 := hF35.ext hE40
        replace hN35 := hN35.ext hE40
        replace hF37 := hF37.ext hE40
        replace hN37 := hN37.ext hE40
        replace hF39 := hF39.ext hE40
        replace hI39 := hI39.ext hE40
        refine ⟨hDd10, ?_⟩
        refine PW_q rfl rfl (fun wq hq => ev_move rfl) ?_
        refine PW_q rfl rfl (fun wq hq => ev_extract rfl rfl) ?_
        refine PW_q rfl rfl (fun wq hq => ev_extract rfl rfl) ?_
        refine PW_q rfl rfl (fun wq hq => ev_assign rfl) ?_
        refine PW_q rfl rfl (fun wq hq => ev_assign rfl) ?_
        replace hA := hA.ext hDd10
        replace hB := hB.ext hDd10
        replace hm := hm.ext hDd10
        replace hB3 := hB3.ext hDd10
        replace hB4 := hB4.ext hDd10
        refine PW_nil ?_
        refine thenE_n ?_
        refine W_seq ?_
        refine W_region ?_
        refine WL_q rfl (ev_loads st25 sz25 rfl (cellsB hB3) rfl) ?_
        refine WL_m rfl (ev_call rfl (toNetwork_spec _ A _ hA (by omega) (by omega))) ?_
        rintro _ w44 ⟨h44, rfl, hF44, hE44⟩
        have hz44 := hE44.size
        replace hE := hE.trans hE44
        replace hA := hA.ext hE44
        replace hB := hB.ext hE44
        replace hm := hm.ext hE44
        replace hB3 := hB3.ext hE44
        replace hB4 := hB4.ext hE44
        replace hF35 := hF35.ext hE44
        replace hN35 := hN35.ext hE44
        replace hF37 := hF37.ext hE44
        replace hN37 := hN37.ext hE44
        replace hF39 := hF39.ext hE44
        replace hI39 := hI39.ext hE44
        replace hx40 := hx40.ext hE44
        have hN44 := hF44.is
        refine WL_m rfl (ev_alloc zr31) ?_
        rintro _ w10 ⟨rfl, hN10⟩
        have hz10 := hN10.size
        replace hE := hE.trans hN10.ext
        replace hA := hA.ext hN10.ext
        replace hB := hB.ext hN10.ext
        replace hm := hm.ext hN10.ext
        replace hB3 := hB3.ext hN10.ext
        replace hB4 := hB4.ext hN10.ext
        replace hF35 := hF35.ext hN10.ext
        replace hN35 := hN35.ext hN10.ext
        replace hF37 := hF37.ext hN10.ext
        replace hN37 := hN37.ext hN10.ext
        replace hF39 := hF39.ext hN10.ext
        replace hI39 := hI39.ext hN10.ext
        replace hx40 := hx40.ext hN10.ext
        replace hF44 := hF44.ext hN10.ext
        replace hN44 := hN44.ext hN10.ext
        have hB10 : Blk w10 _ _ [_, _, _] := hN10.blk
        refine WL_s (ev_stores sz31 rfl rfl rfl (by simp [Value.oneCell']) hB10 (by simp)) ?_
        rintro _ w11_3 hS11_3
        have hz11_3 := hS11_3.size
        replace hE := hE.sto hS11_3 (by omega)
        replace hA := hA.sto hS11_3 (by omega)
        replace hB := hB.sto hS11_3 (by omega)
        replace hm := hm.sto hS11_3 (by omega)
        replace hB3 := hB3.sto hS11_3 (by omega)
        replace hB4 := hB4.sto hS11_3 (by omega)
        replace hF35 := hF35.sto hS11_3 (by omega)
        replace hN35 := hN35.sto hS11_3 (by omega)
        replace hF37 := hF37.sto hS11_3 (by omega)
        replace hN37 := hN37.sto hS11_3 (by omega)
        replace hF39 := hF39.sto hS11_3 (by omega)
        replace hI39 := hI39.sto hS11_3 (by omega)
        replace hx40 := hx40.sto hS11_3 (by omega)
        replace hF44 := hF44.sto hS11_3 (by omega)
        replace hN44 := hN44.sto hS11_3 (by omega)
        replace hB10 : Blk w11_3 _ _ [_, _, _] := hS11_3.blk
        refine WL_nil ?_
        refine thenE_n ?_
        refine W_seq ?_
        refine W_region ?_
        refine WL_q rfl (ev_loads st25 sz25 rfl (cellsB hB4) rfl) ?_
        refine WL_m rfl (ev_call rfl (toNetwork_spec _ B _ hB (by omega) (by omega))) ?_
        rintro _ w46 ⟨h46, rfl, hF46, hE46⟩
        have hz46 := hE46.size
        replace hE := hE.trans hE46
        replace hA := hA.ext hE46
        replace hB := hB.ext hE46
        replace hm := hm.ext hE46
        replace hB3 := hB3.ext hE46
        replace hB4 := hB4.ext hE46
        replace hF35 := hF35.ext hE46
        replace hN35 := hN35.ext hE46
        replace hF37 := hF37.ext hE46
        replace hN37 := hN37.ext hE46
        replace hF39 := hF39.ext hE46
        replace hI39 := hI39.ext hE46
        replace hx40 := hx40.ext hE46
        replace hF44 := hF44.ext hE46
        replace hN44 := hN44.ext hE46
        replace hB10 := hB10.ext hE46
        have hN46 := hF46.is
        refine WL_m rfl (ev_alloc zr31) ?_
        rintro _ w11 ⟨rfl, hN11⟩
        have hz11 := hN11.size
        replace hE := hE.trans hN11.ext
        replace hA := hA.ext hN11.ext
        replace hB := hB.ext hN11.ext
        replace hm := hm.ext hN11.ext
        replace hB3 := hB3.ext hN11.ext
        replace hB4 := hB4.ext hN11.ext
        replace hF35 := hF35.ext hN11.ext
        replace hN35 := hN35.ext hN11.ext
        replace hF37 := hF37.ext hN11.ext
        replace hN37 := hN37.ext hN11.ext
        replace hF39 := hF39.ext hN11.ext
        replace hI39 := hI39.ext hN11.ext
        replace hx40 := hx40.ext hN11.ext
        replace hF44 := hF44.ext hN11.ext
        replace hN44 := hN44.ext hN11.ext
        replace hB10 := hB10.ext hN11.ext
        replace hF46 := hF46.ext hN11.ext
        replace hN46 := hN46.ext hN11.ext
        have hB11 : Blk w11 _ _ [_, _, _] := hN11.blk
        refine WL_s (ev_stores sz31 rfl rfl rfl (by simp [Value.oneCell']) hB11 (by simp)) ?_
        rintro _ w12_3 hS12_3
        have hz12_3 := hS12_3.size
        replace hE := hE.sto hS12_3 (by omega)
        replace hA := hA.sto hS12_3 (by omega)
        replace hB := hB.sto hS12_3 (by omega)
        replace hm := hm.sto hS12_3 (by omega)
        replace hB3 := hB3.sto hS12_3 (by omega)
        replace hB4 := hB4.sto hS12_3 (by omega)
        replace hF35 := hF35.sto hS12_3 (by omega)
        replace hN35 := hN35.sto hS12_3 (by omega)
        replace hF37 := hF37.sto hS12_3 (by omega)
        replace hN37 := hN37.sto hS12_3 (by omega)
        replace hF39 := hF39.sto hS12_3 (by omega)
        replace hI39 := hI39.sto hS12_3 (by omega)
        replace hx40 := hx40.sto hS12_3 (by omega)
        replace hF44 := hF44.sto hS12_3 (by omega)
        replace hN44 := hN44.sto hS12_3 (by omega)
        replace hB10 := hB10.sto hS12_3 (by omega)
        replace hF46 := hF46.sto hS12_3 (by omega)
        replace hN46 := hN46.sto hS12_3 (by omega)
        replace hB11 : Blk w12_3 _ _ [_, _, _] := hS12_3.blk
        refine WL_nil ?_
        refine thenE_n ?_
        refine W_seq ?_
        refine W_region ?_
        refine WL_q rfl (ev_move rfl) ?_
        refine WL_m rfl (ev_call rfl (toIntS_spec _ _ m _ hm (by omega) (by omega))) ?_
        rintro _ w48 ⟨a48, rfl, hF48, hE48⟩
        have hz48 := hE48.size
        replace hE := hE.trans hE48
        replace hA := hA.ext hE48
        replace hB := hB.ext hE48
        replace hm := hm.ext hE48
        replace hB3 := hB3.ext hE48
        replace hB4 := hB4.ext hE48
        replace hF35 := hF35.ext hE48
        replace hN35 := hN35.ext hE48
        replace hF37 := hF37.ext hE48
        replace hN37 := hN37.ext hE48
        replace hF39 := hF39.ext hE48
        replace hI39 := hI39.ext hE48
        replace hx40 := hx40.ext hE48
        replace hF44 := hF44.ext hE48
        replace hN44 := hN44.ext hE48
        replace hB10 := hB10.ext hE48
        replace hF46 := hF46.ext hE48
        replace hN46 := hN46.ext hE48
        replace hB11 := hB11.ext hE48
        have hI48 := hF48.is
        refine WL_q rfl (ev_assign rfl) ?_
        refine WL_nil ?_
        refine thenE_n ?_
        refine W_seq ?_
        refine W_region ?_
        refine WL_q rfl (ev_loads st31 sz31 rfl (cellsB hB10) rfl) ?_
        refine WL_q rfl (ev_loads st31 sz31 rfl (cellsB hB11) rfl) ?_
        refine WL_q rfl (ev_move rfl) ?_
        refine WL_m rfl (ev_call rfl (FibresOf_rows _ A _ B _ _ m _ hN44 (by omega) (by omega) hN46 (by omega) (by omega) hI48 (by omega) (by omega))) ?_
        rintro _ w53 ⟨a53, c53, y53, q53, rfl, hr53, hO53, ⟨hl53, hm53, ht53⟩, hE53⟩
        have hz53 := hE53.size
        replace hE := hE.trans hE53
        replace hA := hA.ext hE53
        replace hB := hB.ext hE53
        replace hm := hm.ext hE53
        replace hB3 := hB3.ext hE53
        replace hB4 := hB4.ext hE53
        replace hF35 := hF35.ext hE53
        replace hN35 := hN35.ext hE53
        replace hF37 := hF37.ext hE53
        replace hN37 := hN37.ext hE53
        replace hF39 := hF39.ext hE53
        replace hI39 := hI39.ext hE53
        replace hx40 := hx40.ext hE53
        replace hF44 := hF44.ext hE53
        replace hN44 := hN44.ext hE53
        replace hB10 := hB10.ext hE53
        replace hF46 := hF46.ext hE53
        replace hN46 := hN46.ext hE53
        replace hB11 := hB11.ext hE53
        replace hF48 := hF48.ext hE53
        replace hI48 := hI48.ext hE53
        refine WL_q rfl (ev_move rfl) ?_
        refine WL_q rfl (ev_extract rfl rfl) ?_
        refine WL_q rfl (ev_extract rfl rfl) ?_
        refine WL_q rfl (ev_assign rfl) ?_
        refine WL_q rfl (ev_assign rfl) ?_
        refine WL_nil ?_
        refine thenE_n ?_
        refine W_seq ?_
        refine W_seq ?_
        refine W_region ?_
        refine WL_q rfl (ev_move rfl) ?_
        refine WL_q rfl (ev_move rfl) ?_
        refine WL_m rfl (ev_call rfl (eqIntSS_spec _ _ _ _ y53 y40 _ (hO53.is) hx40 (by omega))) ?_
        rintro _ w58 ⟨rfl, hE58⟩
        have hz58 := hE58.size
        replace hE := hE.trans hE58
        replace hA := hA.ext hE58
        replace hB := hB.ext hE58
        replace hm := hm.ext hE58
        replace hB3 := hB3.ext hE58
        replace hB4 := hB4.ext hE58
        replace hF35 := hF35.ext hE58
        replace hN35 := hN35.ext hE58
        replace hF37 := hF37.ext hE58
        replace hN37 := hN37.ext hE58
        replace hF39 := hF39.ext hE58
        replace hI39 := hI39.ext hE58
        replace hx40 := hx40.ext hE58
        replace hF44 := hF44.ext hE58
        replace hN44 := hN44.ext hE58
        replace hB10 := hB10.ext hE58
        replace hF46 := hF46.ext hE58
        replace hN46 := hN46.ext hE58
        replace hB11 := hB11.ext hE58
        replace hF48 := hF48.ext hE58
        replace hI48 := hI48.ext hE58
        replace hO53 := hO53.ext hE58
        refine WL_q rfl (ev_not rfl) ?_
        refine WL_q rfl (ev_move rfl) ?_
        refine WL_splitv (t := 60) rfl (fun hg59 => ?_) (fun hg59 => ?_)
        · have hg58 := not_true hg59
          refine WL_no rfl rfl hg59 rfl ?_
          refine WL_no rfl rfl hg59 rfl ?_
          refine WL_no rfl rfl hg59 rfl ?_
          refine WL_q rfl (ev_pick_t rfl hg59 rfl) ?_
          refine WL_nil ?_
          refine thenE_n ?_
          refine W_cond_t rfl ?_
          refine W_seq ?_
          refine W_region ?_
          refine WL_q rfl (ev_assign rfl) ?_
          refine WL_nil ?_
          refine thenE_n ?_
          refine W_ret ?_
          refine thenE_r ?_
          refine ret1 rfl rfl ?_
          first | (exact ⟨rfl, hE⟩) | (exact (bneE hg58 (hr53.det1 hr40)).elim) | (exact absurd (hr53.det1 hr40) hp58) | (exact absurd (hr53.det1 hr40) (of_decide_eq_false hg58)) | (exact (bneE hg58 (hr53.det2 hr40)).elim) | (exact absurd (hr53.det2 hr40) hp58) | (exact absurd (hr53.det2 hr40) (of_decide_eq_false hg58)) | (exact (bneE hg58 (hr53.det3 hr40)).elim) | (exact absurd (hr53.det3 hr40) hp58) | (exact absurd (hr53.det3 hr40) (of_decide_eq_false hg58)) | (exact (tfX hg58).elim) | (exact (decF hg58).elim) | (exfalso; omega)
        · have hg58 := not_false hg59
          refine WL_qg rfl rfl hg59 rfl (ev_move rfl) ?_
          refine WL_qg rfl rfl hg59 rfl (ev_move rfl) ?_
          refine WL_qg rfl rfl hg59 rfl (ev_neq_b Try.underlying4 rfl rfl) ?_
          refine WL_q rfl (ev_pick_f rfl hg59 rfl) ?_
          refine WL_nil ?_
          refine thenE_n ?_
          refine W_cond rfl (fun hg63 => ?_) (fun hg63 => ?_)
          · refine W_seq ?_
            refine W_region ?_
            refine WL_q rfl (ev_assign rfl) ?_
            refine WL_nil ?_
            refine thenE_n ?_
            refine W_ret ?_
            refine thenE_r ?_
            refine ret1 rfl rfl ?_
            first | (exact ⟨rfl, hE⟩) | (exact (bneE hg63 (hr53.det1 hr40)).elim) | (exact absurd (hr53.det1 hr40) hp63) | (exact absurd (hr53.det1 hr40) (of_decide_eq_false hg63)) | (exact (bneE hg63 (hr53.det2 hr40)).elim) | (exact absurd (hr53.det2 hr40) hp63) | (exact absurd (hr53.det2 hr40) (of_decide_eq_false hg63)) | (exact (bneE hg63 (hr53.det3 hr40)).elim) | (exact absurd (hr53.det3 hr40) hp63) | (exact absurd (hr53.det3 hr40) (of_decide_eq_false hg63)) | (exact (tfX hg63).elim) | (exact (decF hg63).elim) | (exfalso; omega)
          · refine W_skip ?_
            refine thenE_n ?_
            refine W_seq ?_
            refine W_seq ?_
            refine W_drawE [(0, true), (1, true), (2, false), (3, false), (4, true)] mixed (by kernel_rfl) rfl (by kernel_rfl) ?_
            intro wd17 hEd17 hzd17
            replace hE := hE.trans hEd17
            replace hA := hA.ext hEd17
            replace hB := hB.ext hEd17
            replace hm := hm.ext hEd17
            replace hB3 := hB3.ext hEd17
            replace hB4 := hB4.ext hEd17
            replace hF35 := hF35.ext hEd17
            replace hN35 := hN35.ext hEd17
            replace hF37 := hF37.ext hEd17
            replace hN37 := hN37.ext hEd17
            replace hF39 := hF39.ext hEd17
            replace hI39 := hI39.ext hEd17
            replace hx40 := hx40.ext hEd17
            replace hF44 := hF44.ext hEd17
            replace hN44 := hN44.ext hEd17
            replace hB10 := hB10.ext hEd17
            replace hF46 := hF46.ext hEd17
            replace hN46 := hN46.ext hEd17
            replace hB11 := hB11.ext hEd17
            replace hF48 := hF48.ext hEd17
            replace hI48 := hI48.ext hEd17
            replace hO53 := hO53.ext hEd17
            have hDd17 := Ext.refl wd17
            refine PW_q rfl rfl (fun wq hq => ev_loads st31 sz31 rfl (cellsB (hq.blk hB10)) rfl) ?_
            refine PW_q rfl rfl (fun wq hq => ev_loads st25 sz25 rfl (cellsB (hq.blk hB3)) rfl) ?_
            refine PW_m rfl rfl (ev_call rfl (toNetwork_spec _ A _ hA (by omega) (by omega))) ?_
            rintro _ w67 ⟨h67, rfl, hF67, hE67⟩
            have hz67 := hE67.size
            replace hE := hE.trans hE67
            replace hDd17 := hDd17.trans hE67
            have hN67 := hF67.is
            refine ⟨hDd17, ?_⟩
            have hA_3 := hA.ext hDd17
            have hB_3 := hB.ext hDd17
            have hm_3 := hm.ext hDd17
            have hB3_3 := hB3.ext hDd17
            have hB4_3 := hB4.ext hDd17
            have hF35_3 := hF35.ext hDd17
            have hN35_3 := hN35.ext hDd17
            have hF37_3 := hF37.ext hDd17
            have hN37_3 := hN37.ext hDd17
            have hF39_3 := hF39.ext hDd17
            have hI39_3 := hI39.ext hDd17
            have hx40_3 := hx40.ext hDd17
            have hF44_3 := hF44.ext hDd17
            have hN44_3 := hN44.ext hDd17
            have hB10_3 := hB10.ext hDd17
            have hF46_3 := hF46.ext hDd17
            have hN46_3 := hN46.ext hDd17
            have hB11_3 := hB11.ext hDd17
            have hF48_3 := hF48.ext hDd17
            have hI48_3 := hI48.ext hDd17
            have hO53_3 := hO53.ext hDd17
            refine PW_m rfl rfl (ev_call rfl (eqNetwork_spec _ _ A _ hN44_3 hN67 (by omega))) ?_
            rintro _ w68 ⟨rfl, hE68⟩
            have hz68 := hE68.size
            replace hE := hE.trans hE68
            replace hDd17 := hDd17.trans hE68
            replace hF67 := hF67.ext hE68
            replace hN67 := hN67.ext hE68
            refine ⟨hDd17, ?_⟩
            refine PW_q rfl rfl (fun wq hq => ev_not rfl) ?_
            replace hA := hA.ext hDd17
            replace hB := hB.ext hDd17
            replace hm := hm.ext hDd17
            replace hB3 := hB3.ext hDd17
            replace hB4 := hB4.ext hDd17
            replace hF35 := hF35.ext hDd17
            replace hN35 := hN35.ext hDd17
            replace hF37 := hF37.ext hDd17
            replace hN37 := hN37.ext hDd17
            replace hF39 := hF39.ext hDd17
            replace hI39 := hI39.ext hDd17
            replace hx40 := hx40.ext hDd17
            replace hF44 := hF44.ext hDd17
            replace hN44 := hN44.ext hDd17
            replace hB10 := hB10.ext hDd17
            replace hF46 := hF46.ext hDd17
            replace hN46 := hN46.ext hDd17
            replace hB11 := hB11.ext hDd17
            replace hF48 := hF48.ext hDd17
            replace hI48 := hI48.ext hDd17
            replace hO53 := hO53.ext hDd17
            refine PW_nil ?_
            refine thenE_n ?_
            refine W_cond rfl (fun hg69 => ?_) (fun hg69 => ?_)
            · have hg68 := not_true hg69
              refine W_seq ?_
              refine W_region ?_
              refine WL_q rfl (ev_assign rfl) ?_
              refine WL_nil ?_
              refine thenE_n ?_
              refine W_ret ?_
              refine thenE_r ?_
              refine ret1 rfl rfl ?_
              first | (exact ⟨rfl, hE⟩) | (exact (bneE hg68 (hr53.det1 hr40)).elim) | (exact absurd (hr53.det1 hr40) hp68) | (exact absurd (hr53.det1 hr40) (of_decide_eq_false hg68)) | (exact (bneE hg68 (hr53.det2 hr40)).elim) | (exact absurd (hr53.det2 hr40) hp68) | (exact absurd (hr53.det2 hr40) (of_decide_eq_false hg68)) | (exact (bneE hg68 (hr53.det3 hr40)).elim) | (exact absurd (hr53.det3 hr40) hp68) | (exact absurd (hr53.det3 hr40) (of_decide_eq_false hg68)) | (exact (tfX hg68).elim) | (exact (decF hg68).elim) | (exfalso; omega)
            · have hg68 := not_false hg69
              refine W_skip ?_
              refine thenE_n ?_
              refine W_seq ?_
              refine W_seq ?_
              refine W_drawE [(0, true), (1, true), (2, false), (3, false), (4, true)] mixed (by kernel_rfl) rfl (by kernel_rfl) ?_
              intro wd19 hEd19 hzd19
              replace hE := hE.trans hEd19
              replace hA := hA.ext hEd19
              replace hB := hB.ext hEd19
              replace hm := hm.ext hEd19
              replace hB3 := hB3.ext hEd19
              replace hB4 := hB4.ext hEd19
              replace hF35 := hF35.ext hEd19
              replace hN35 := hN35.ext hEd19
              replace hF37 := hF37.ext hEd19
              replace hN37 := hN37.ext hEd19
              replace hF39 := hF39.ext hEd19
              replace hI39 := hI39.ext hEd19
              replace hx40 := hx40.ext hEd19
              replace hF44 := hF44.ext hEd19
              replace hN44 := hN44.ext hEd19
              replace hB10 := hB10.ext hEd19
              replace hF46 := hF46.ext hEd19
              replace hN46 := hN46.ext hEd19
              replace hB11 := hB11.ext hEd19
              replace hF48 := hF48.ext hEd19
              replace hI48 := hI48.ext hEd19
              replace hO53 := hO53.ext hEd19
              replace hF67 := hF67.ext hEd19
              replace hN67 := hN67.ext hEd19
              have hDd19 := Ext.refl wd19
              refine PW_q rfl rfl (fun wq hq => ev_loads st31 sz31 rfl (cellsB (hq.blk hB11)) rfl) ?_
              refine PW_q rfl rfl (fun wq hq => ev_loads st25 sz25 rfl (cellsB (hq.blk hB4)) rfl) ?_
              refine PW_m rfl rfl (ev_call rfl (toNetwork_spec _ B _ hB (by omega) (by omega))) ?_
              rintro _ w72 ⟨h72, rfl, hF72, hE72⟩
              have hz72 := hE72.size
              replace hE := hE.trans hE72
              replace hDd19 := hDd19.trans hE72
              have hN72 := hF72.is
              refine ⟨hDd19, ?_⟩
              have hA_3 := hA.ext hDd19
              have hB_3 := hB.ext hDd19
              have hm_3 := hm.ext hDd19
              have hB3_3 := hB3.ext hDd19
              have hB4_3 := hB4.ext hDd19
              have hF35_3 := hF35.ext hDd19
              have hN35_3 := hN35.ext hDd19
              have hF37_3 := hF37.ext hDd19
              have hN37_3 := hN37.ext hDd19
              have hF39_3 := hF39.ext hDd19
              have hI39_3 := hI39.ext hDd19
              have hx40_3 := hx40.ext hDd19
              have hF44_3 := hF44.ext hDd19
              have hN44_3 := hN44.ext hDd19
              have hB10_3 := hB10.ext hDd19
              have hF46_3 := hF46.ext hDd19
              have hN46_3 := hN46.ext hDd19
              have hB11_3 := hB11.ext hDd19
              have hF48_3 := hF48.ext hDd19
              have hI48_3 := hI48.ext hDd19
              have hO53_3 := hO53.ext hDd19
              have hF67_3 := hF67.ext hDd19
              have hN67_3 := hN67.ext hDd19
              refine PW_m rfl rfl (ev_call rfl (eqNetwork_spec _ _ B _ hN46_3 hN72 (by omega))) ?_
              rintro _ w73 ⟨rfl, hE73⟩
              have hz73 := hE73.size
              replace hE := hE.trans hE73
              replace hDd19 := hDd19.trans hE73
              replace hF72 := hF72.ext hE73
              replace hN72 := hN72.ext hE73
              refine ⟨hDd19, ?_⟩
              refine PW_q rfl rfl (fun wq hq => ev_not rfl) ?_
              replace hA := hA.ext hDd19
              replace hB := hB.ext hDd19
              replace hm := hm.ext hDd19
              replace hB3 := hB3.ext hDd19
              replace hB4 := hB4.ext hDd19
              replace hF35 := hF35.ext hDd19
              replace hN35 := hN35.ext hDd19
              replace hF37 := hF37.ext hDd19
              replace hN37 := hN37.ext hDd19
              replace hF39 := hF39.ext hDd19
              replace hI39 := hI39.ext hDd19
              replace hx40 := hx40.ext hDd19
              replace hF44 := hF44.ext hDd19
              replace hN44 := hN44.ext hDd19
              replace hB10 := hB10.ext hDd19
              replace hF46 := hF46.ext hDd19
              replace hN46 := hN46.ext hDd19
              replace hB11 := hB11.ext hDd19
              replace hF48 := hF48.ext hDd19
              replace hI48 := hI48.ext hDd19
              replace hO53 := hO53.ext hDd19
              replace hF67 := hF67.ext hDd19
              replace hN67 := hN67.ext hDd19
              refine PW_nil ?_
              refine thenE_n ?_
              refine W_cond rfl (fun hg74 => ?_) (fun hg74 => ?_)
              · have hg73 := not_true hg74
                refine W_seq ?_
                refine W_region ?_
                refine WL_q rfl (ev_assign rfl) ?_
                refine WL_nil ?_
                refine thenE_n ?_
                refine W_ret ?_
                refine thenE_r ?_
                refine ret1 rfl rfl ?_
                first | (exact ⟨rfl, hE⟩) | (exact (bneE hg73 (hr53.det1 hr40)).elim) | (exact absurd (hr53.det1 hr40) hp73) | (exact absurd (hr53.det1 hr40) (of_decide_eq_false hg73)) | (exact (bneE hg73 (hr53.det2 hr40)).elim) | (exact absurd (hr53.det2 hr40) hp73) | (exact absurd (hr53.det2 hr40) (of_decide_eq_false hg73)) | (exact (bneE hg73 (hr53.det3 hr40)).elim) | (exact absurd (hr53.det3 hr40) hp73) | (exact absurd (hr53.det3 hr40) (of_decide_eq_false hg73)) | (exact (tfX hg73).elim) | (exact (decF hg73).elim) | (exfalso; omega)
              · have hg73 := not_false hg74
                refine W_skip ?_
                refine thenE_n ?_
                refine W_seq ?_
                refine W_seq ?_
                refine W_region ?_
                refine WL_q rfl (ev_move rfl) ?_
                refine WL_q rfl (ev_move rfl) ?_
                refine WL_m rfl (ev_call rfl (toIntS_spec _ _ m _ hm (by omega) (by omega))) ?_
                rintro _ w77 ⟨a77, rfl, hF77, hE77⟩
                have hz77 := hE77.size
                replace hE := hE.trans hE77
                replace hA := hA.ext hE77
                replace hB := hB.ext hE77
                replace hm := hm.ext hE77
                replace hB3 := hB3.ext hE77
                replace hB4 := hB4.ext hE77
                replace hF35 := hF35.ext hE77
                replace hN35 := hN35.ext hE77
                replace hF37 := hF37.ext hE77
                replace hN37 := hN37.ext hE77
                replace hF39 := hF39.ext hE77
                replace hI39 := hI39.ext hE77
                replace hx40 := hx40.ext hE77
                replace hF44 := hF44.ext hE77
                replace hN44 := hN44.ext hE77
                replace hB10 := hB10.ext hE77
                replace hF46 := hF46.ext hE77
                replace hN46 := hN46.ext hE77
                replace hB11 := hB11.ext hE77
                replace hF48 := hF48.ext hE77
                replace hI48 := hI48.ext hE77
                replace hO53 := hO53.ext hE77
                replace hF67 := hF67.ext hE77
                replace hN67 := hN67.ext hE77
                replace hF72 := hF72.ext hE77
                replace hN72 := hN72.ext hE77
                have hI77 := hF77.is
                refine WL_m rfl (ev_call rfl (eqIntS_spec _ _ _ _ m m _ hI48 hI77 (by omega))) ?_
                rintro _ w78 ⟨rfl, hE78⟩
                have hz78 := hE78.size
                replace hE := hE.trans hE78
                replace hA := hA.ext hE78
                replace hB := hB.ext hE78
                replace hm := hm.ext hE78
                replace hB3 := hB3.ext hE78
                replace hB4 := hB4.ext hE78
                replace hF35 := hF35.ext hE78
                replace hN35 := hN35.ext hE78
                replace hF37 := hF37.ext hE78
                replace hN37 := hN37.ext hE78
                replace hF39 := hF39.ext hE78
                replace hI39 := hI39.ext hE78
                replace hx40 := hx40.ext hE78
                replace hF44 := hF44.ext hE78
                replace hN44 := hN44.ext hE78
                replace hB10 := hB10.ext hE78
                replace hF46 := hF46.ext hE78
                replace hN46 := hN46.ext hE78
                replace hB11 := hB11.ext hE78
                replace hF48 := hF48.ext hE78
                replace hI48 := hI48.ext hE78
                replace hO53 := hO53.ext hE78
                replace hF67 := hF67.ext hE78
                replace hN67 := hN67.ext hE78
                replace hF72 := hF72.ext hE78
                replace hN72 := hN72.ext hE78
                replace hF77 := hF77.ext hE78
                replace hI77 := hI77.ext hE78
                refine WL_q rfl (ev_not rfl) ?_
                refine WL_nil ?_
                refine thenE_n ?_
                refine W_cond rfl (fun hg79 => ?_) (fun hg79 => ?_)
                · have hg78 := not_true hg79
                  refine W_seq ?_
                  refine W_region ?_
                  refine WL_q rfl (ev_assign rfl) ?_
                  refine WL_nil ?_
                  refine thenE_n ?_
                  refine W_ret ?_
                  refine thenE_r ?_
                  refine ret1 rfl rfl ?_
                  first | (exact ⟨rfl, hE⟩) | (exact (bneE hg78 (hr53.det1 hr40)).elim) | (exact absurd (hr53.det1 hr40) hp78) | (exact absurd (hr53.det1 hr40) (of_decide_eq_false hg78)) | (exact (bneE hg78 (hr53.det2 hr40)).elim) | (exact absurd (hr53.det2 hr40) hp78) | (exact absurd (hr53.det2 hr40) (of_decide_eq_false hg78)) | (exact (bneE hg78 (hr53.det3 hr40)).elim) | (exact absurd (hr53.det3 hr40) hp78) | (exact absurd (hr53.det3 hr40) (of_decide_eq_false hg78)) | (exact (tfX hg78).elim) | (exact (decF hg78).elim) | (exfalso; omega)
                · have hg78 := not_false hg79
                  refine W_skip ?_
                  refine thenE_n ?_
                  refine W_seq ?_
                  refine W_region ?_
                  refine WL_q rfl (ev_assign rfl) ?_
                  refine WL_nil ?_
                  refine thenE_n ?_
                  refine W_seq ?_
                  refine W_region ?_
                  refine WL_q rfl (ev_loads st31 sz31 rfl (cellsB hB10) rfl) ?_
                  refine WL_q rfl (ev_move rfl) ?_
                  refine WL_m rfl (ev_call rfl (markNetwork_spec _ A _ _ hF44 (by omega) (by omega) (by omega))) ?_
                  rintro _ w82 ⟨r82, rfl, hr82, hK82⟩
                  have hz82 := hK82.size
                  replace hE := hE.mrk hK82 (by omega)
                  replace hA := hA.mrk hK82 (by omega)
                  replace hB := hB.mrk hK82 (by omega)
                  replace hm := hm.mrk hK82 (by omega)
                  replace hB3 := hB3.mrk hK82 (by omega)
                  replace hB4 := hB4.mrk hK82 (by omega)
                  replace hF35 := hF35.mrk hK82 (by omega)
                  replace hN35 := hN35.mrk hK82 (by omega)
                  replace hF37 := hF37.mrk hK82 (by omega)
                  replace hN37 := hN37.mrk hK82 (by omega)
                  replace hF39 := hF39.mrk hK82 (by omega)
                  replace hI39 := hI39.mrk hK82 (by omega)
                  replace hx40 := hx40.mrk hK82 (by omega)
                  replace hB10 := hB10.mrk hK82 (by omega)
                  replace hF46 := hF46.mrk hK82 (by omega)
                  replace hN46 := hN46.mrk hK82 (by omega)
                  replace hB11 := hB11.mrk hK82 (by omega)
                  replace hF48 := hF48.mrk hK82 (by omega)
                  replace hI48 := hI48.mrk hK82 (by omega)
                  replace hO53 := hO53.mrk hK82 (by omega)
                  replace hF67 := hF67.mrk hK82 (by omega)
                  replace hN67 := hN67.mrk hK82 (by omega)
                  replace hF72 := hF72.mrk hK82 (by omega)
                  replace hN72 := hN72.mrk hK82 (by omega)
                  replace hF77 := hF77.mrk hK82 (by omega)
                  replace hI77 := hI77.mrk hK82 (by omega)
                  refine WL_q rfl (ev_assign rfl) ?_
                  refine WL_nil ?_
                  refine thenE_n ?_
                  refine W_seq ?_
                  refine W_region ?_
                  refine WL_q rfl (ev_loads st31 sz31 rfl (cellsB hB11) rfl) ?_
                  refine WL_q rfl (ev_move rfl) ?_
                  refine WL_m rfl (ev_call rfl (markNetwork_spec _ B _ _ hF46 (by omega) (by omega) (by omega))) ?_
                  rintro _ w85 ⟨r85, rfl, hr85, hK85⟩
                  have hz85 := hK85.size
                  replace hE := hE.mrk hK85 (by omega)
                  replace hA := hA.mrk hK85 (by omega)
                  replace hB := hB.mrk hK85 (by omega)
                  replace hm := hm.mrk hK85 (by omega)
                  replace hB3 := hB3.mrk hK85 (by omega)
                  replace hB4 := hB4.mrk hK85 (by omega)
                  replace hF35 := hF35.mrk hK85 (by omega)
                  replace hN35 := hN35.mrk hK85 (by omega)
                  replace hF37 := hF37.mrk hK85 (by omega)
                  replace hN37 := hN37.mrk hK85 (by omega)
                  replace hF39 := hF39.mrk hK85 (by omega)
                  replace hI39 := hI39.mrk hK85 (by omega)
                  replace hx40 := hx40.mrk hK85 (by omega)
                  replace hB10 := hB10.mrk hK85 (by omega)
                  replace hB11 := hB11.mrk hK85 (by omega)
                  replace hF48 := hF48.mrk hK85 (by omega)
                  replace hI48 := hI48.mrk hK85 (by omega)
                  replace hO53 := hO53.mrk hK85 (by omega)
                  replace hF67 := hF67.mrk hK85 (by omega)
                  replace hN67 := hN67.mrk hK85 (by omega)
                  replace hF72 := hF72.mrk hK85 (by omega)
                  replace hN72 := hN72.mrk hK85 (by omega)
                  replace hF77 := hF77.mrk hK85 (by omega)
                  replace hI77 := hI77.mrk hK85 (by omega)
                  refine WL_q rfl (ev_assign rfl) ?_
                  refine WL_nil ?_
                  refine thenE_n ?_
                  refine W_seq ?_
                  refine W_region ?_
                  refine WL_q rfl (ev_move rfl) ?_
                  refine WL_q rfl (ev_move rfl) ?_
                  refine WL_m rfl (ev_call rfl (markIntS_arg hF48 (by omega) (by omega))) ?_
                  rintro _ w88 ⟨rfl, hK88⟩
                  have hz88 := hK88.size
                  replace hE := hE.mrk hK88 (by omega)
                  replace hA := hA.mrk hK88 (by omega)
                  replace hB := hB.mrk hK88 (by omega)
                  replace hm := hm.mrk hK88 (by omega)
                  replace hB3 := hB3.mrk hK88 (by omega)
                  replace hB4 := hB4.mrk hK88 (by omega)
                  replace hF35 := hF35.mrk hK88 (by omega)
                  replace hN35 := hN35.mrk hK88 (by omega)
                  replace hF37 := hF37.mrk hK88 (by omega)
                  replace hN37 := hN37.mrk hK88 (by omega)
                  replace hF39 := hF39.mrk hK88 (by omega)
                  replace hI39 := hI39.mrk hK88 (by omega)
                  replace hx40 := hx40.mrk hK88 (by omega)
                  replace hB10 := hB10.mrk hK88 (by omega)
                  replace hB11 := hB11.mrk hK88 (by omega)
                  replace hO53 := hO53.mrk hK88 (by omega)
                  replace hF67 := hF67.mrk hK88 (by omega)
                  replace hN67 := hN67.mrk hK88 (by omega)
                  replace hF72 := hF72.mrk hK88 (by omega)
                  replace hN72 := hN72.mrk hK88 (by omega)
                  replace hF77 := hF77.mrk hK88 (by omega)
                  replace hI77 := hI77.mrk hK88 (by omega)
                  refine WL_q rfl (ev_assign rfl) ?_
                  refine WL_nil ?_
                  refine thenE_n ?_
                  refine W_seq ?_
                  refine W_seq ?_
                  refine W_region ?_
                  refine WL_q rfl (ev_move rfl) ?_
                  refine WL_q rfl (ev_lss rfl rfl) ?_
                  refine WL_q rfl (ev_move rfl) ?_
                  refine WL_splitv (t := 91) rfl (fun hg90 => ?_) (fun hg90 => ?_)
                  · have hp90 := of_decide_eq_true hg90
                    refine WL_no rfl rfl hg90 rfl ?_
                    refine WL_no rfl rfl hg90 rfl ?_
                    refine WL_no rfl rfl hg90 rfl ?_
                    refine WL_no rfl rfl hg90 rfl ?_
                    refine WL_q rfl (ev_pick_t rfl hg90 rfl) ?_
                    refine WL_q rfl (ev_move rfl) ?_
                    refine WL_no rfl rfl rfl rfl ?_
                    refine WL_no rfl rfl rfl rfl ?_
                    refine WL_no rfl rfl rfl rfl ?_
                    refine WL_q rfl (ev_pick_t rfl rfl rfl) ?_
                    refine WL_nil ?_
                    refine thenE_n ?_
                    refine W_cond_t rfl ?_
                    refine W_seq ?_
                    refine W_region ?_
                    refine WL_q rfl (ev_assign rfl) ?_
                    refine WL_nil ?_
                    refine thenE_n ?_
                    refine W_ret ?_
                    refine thenE_r ?_
                    refine ret1 rfl rfl ?_
                    first | (exact ⟨rfl, hE⟩) | (exact (bneE hg90 (hr53.det1 hr40)).elim) | (exact absurd (hr53.det1 hr40) hp90) | (exact absurd (hr53.det1 hr40) (of_decide_eq_false hg90)) | (exact (bneE hg90 (hr53.det2 hr40)).elim) | (exact absurd (hr53.det2 hr40) hp90) | (exact absurd (hr53.det2 hr40) (of_decide_eq_false hg90)) | (exact (bneE hg90 (hr53.det3 hr40)).elim) | (exact absurd (hr53.det3 hr40) hp90) | (exact absurd (hr53.det3 hr40) (of_decide_eq_false hg90)) | (exact (tfX hg90).elim) | (exact (decF hg90).elim) | (exfalso; omega)
                  · have hp90 := of_decide_eq_false hg90
                    refine WL_qg rfl rfl hg90 rfl (ev_move rfl) ?_
                    refine WL_qg rfl rfl hg90 rfl (ev_move rfl) ?_
                    refine WL_mg rfl rfl hg90 rfl (ev_call rfl (eqIntSS_spec _ _ _ _ y53 y40 _ (hO53.is) hx40 (by omega))) ?_
                    rintro _ w94 ⟨rfl, hE94⟩
                    have hz94 := hE94.size
                    replace hE := hE.trans hE94
                    replace hA := hA.ext hE94
                    replace hB := hB.ext hE94
                    replace hm := hm.ext hE94
                    replace hB3 := hB3.ext hE94
                    replace hB4 := hB4.ext hE94
                    replace hF35 := hF35.ext hE94
                    replace hN35 := hN35.ext hE94
                    replace hF37 := hF37.ext hE94
                    replace hN37 := hN37.ext hE94
                    replace hF39 := hF39.ext hE94
                    replace hI39 := hI39.ext hE94
                    replace hx40 := hx40.ext hE94
                    replace hB10 := hB10.ext hE94
                    replace hB11 := hB11.ext hE94
                    replace hO53 := hO53.ext hE94
                    replace hF67 := hF67.ext hE94
                    replace hN67 := hN67.ext hE94
                    replace hF72 := hF72.ext hE94
                    replace hN72 := hN72.ext hE94
                    replace hF77 := hF77.ext hE94
                    replace hI77 := hI77.ext hE94
                    refine WL_qg rfl rfl hg90 rfl (ev_not rfl) ?_
                    refine WL_q rfl (ev_pick_f rfl hg90 rfl) ?_
                    refine WL_q rfl (ev_move rfl) ?_
                    refine WL_splitv (t := 97) rfl (fun hg95 => ?_) (fun hg95 => ?_)
                    · have hg94 := not_true hg95
                      refine WL_no rfl rfl hg95 rfl ?_
                      refine WL_no rfl rfl hg95 rfl ?_
                      refine WL_no rfl rfl hg95 rfl ?_
                      refine WL_q rfl (ev_pick_t rfl hg95 rfl) ?_
                      refine WL_nil ?_
                      refine thenE_n ?_
                      refine W_cond_t rfl ?_
                      refine W_seq ?_
                      refine W_region ?_
                      refine WL_q rfl (ev_assign rfl) ?_
                      refine WL_nil ?_
                      refine thenE_n ?_
                      refine W_ret ?_
                      refine thenE_r ?_
                      refine ret1 rfl rfl ?_
                      first | (exact ⟨rfl, hE⟩) | (exact (bneE hg94 (hr53.det1 hr40)).elim) | (exact absurd (hr53.det1 hr40) hp94) | (exact absurd (hr53.det1 hr40) (of_decide_eq_false hg94)) | (exact (bneE hg94 (hr53.det2 hr40)).elim) | (exact absurd (hr53.det2 hr40) hp94) | (exact absurd (hr53.det2 hr40) (of_decide_eq_false hg94)) | (exact (bneE hg94 (hr53.det3 hr40)).elim) | (exact absurd (hr53.det3 hr40) hp94) | (exact absurd (hr53.det3 hr40) (of_decide_eq_false hg94)) | (exact (tfX hg94).elim) | (exact (decF hg94).elim) | (exfalso; omega)
                    · have hg94 := not_false hg95
                      refine WL_qg rfl rfl hg95 rfl (ev_move rfl) ?_
                      refine WL_qg rfl rfl hg95 rfl (ev_move rfl) ?_
                      refine WL_qg rfl rfl hg95 rfl (ev_neq_b Try.underlying4 rfl rfl) ?_
                      refine WL_q rfl (ev_pick_f rfl hg95 rfl) ?_
                      refine WL_nil ?_
                      refine thenE_n ?_
                      refine W_cond rfl (fun hg100 => ?_) (fun hg100 => ?_)
                      · refine W_seq ?_
                        refine W_region ?_
                        refine WL_q rfl (ev_assign rfl) ?_
                        refine WL_nil ?_
                        refine thenE_n ?_
                        refine W_ret ?_
                        refine thenE_r ?_
                        refine ret1 rfl rfl ?_
                        first | (exact ⟨rfl, hE⟩) | (exact (bneE hg100 (hr53.det1 hr40)).elim) | (exact absurd (hr53.det1 hr40) hp100) | (exact absurd (hr53.det1 hr40) (of_decide_eq_false hg100)) | (exact (bneE hg100 (hr53.det2 hr40)).elim) | (exact absurd (hr53.det2 hr40) hp100) | (exact absurd (hr53.det2 hr40) (of_decide_eq_false hg100)) | (exact (bneE hg100 (hr53.det3 hr40)).elim) | (exact absurd (hr53.det3 hr40) hp100) | (exact absurd (hr53.det3 hr40) (of_decide_eq_false hg100)) | (exact (tfX hg100).elim) | (exact (decF hg100).elim) | (exfalso; omega)
                      · refine W_skip ?_
                        refine thenE_n ?_
                        refine W_seq ?_
                        refine W_region ?_
                        refine WL_q rfl (ev_assign rfl) ?_
                        refine WL_nil ?_
                        refine thenE_n ?_
                        refine W_seq ?_
                        refine W_region ?_
                        refine WL_q rfl (ev_move rfl) ?_
                        refine WL_q rfl (ev_move rfl) ?_
                        refine WL_m rfl (ev_call rfl (markIntSS_rows _ _ _ y53 _ _ hO53 (by omega) (by omega) (by omega) (by omega))) ?_
                        rintro _ w104 ⟨rfl, hO104, hK104⟩
                        have hz104 := hK104.size
                        have hR104 := hK104
                        replace hE := hE.rg hR104 (by omega)
                        replace hA := hA.rg hR104 (by omega)
                        replace hB := hB.rg hR104 (by omega)
                        replace hm := hm.rg hR104 (by omega)
                        replace hB3 := hB3.rg hR104 (by omega)
                        replace hB4 := hB4.rg hR104 (by omega)
                        replace hF35 := hF35.rg hR104 (by omega)
                        replace hN35 := hN35.rg hR104 (by omega)
                        replace hF37 := hF37.rg hR104 (by omega)
                        replace hN37 := hN37.rg hR104 (by omega)
                        replace hF39 := hF39.rg hR104 (by omega)
                        replace hI39 := hI39.rg hR104 (by omega)
                        replace hx40 := hx40.rg hR104 (by omega)
                        replace hB10 := hB10.rg hR104 (by omega)
                        replace hB11 := hB11.rg hR104 (by omega)
                        replace hF67 := hF67.rg hR104 (by omega)
                        replace hN67 := hN67.rg hR104 (by omega)
                        replace hF72 := hF72.rg hR104 (by omega)
                        replace hN72 := hN72.rg hR104 (by omega)
                        replace hF77 := hF77.rg hR104 (by omega)
                        replace hI77 := hI77.rg hR104 (by omega)
                        replace hO53 := hO104
                        refine WL_q rfl (ev_assign rfl) ?_
                        refine WL_nil ?_
                        refine thenE_n ?_
                        refine W_seq ?_
                        refine W_region ?_
                        refine WL_q rfl (ev_assign rfl) ?_
                        refine WL_nil ?_
                        refine thenE_n ?_
                        refine W_seq ?_
                        refine W_region ?_
                        refine WL_q rfl (ev_move rfl) ?_
                        refine WL_q rfl (ev_move rfl) ?_
                        refine WL_m rfl (ev_call rfl (heldIntSS_spec _ _ y53 _ _ hO53.is rfl (by omega) (by omega) (by omega))) ?_
                        rintro _ w107 ⟨rfl, hE107⟩
                        have hz107 := hE107.size
                        replace hE := hE.trans hE107
                        replace hA := hA.ext hE107
                        replace hB := hB.ext hE107
                        replace hm := hm.ext hE107
                        replace hB3 := hB3.ext hE107
                        replace hB4 := hB4.ext hE107
                        replace hF35 := hF35.ext hE107
                        replace hN35 := hN35.ext hE107
                        replace hF37 := hF37.ext hE107
                        replace hN37 := hN37.ext hE107
                        replace hF39 := hF39.ext hE107
                        replace hI39 := hI39.ext hE107
                        replace hx40 := hx40.ext hE107
                        replace hB10 := hB10.ext hE107
                        replace hB11 := hB11.ext hE107
                        replace hO53 := hO53.ext hE107
                        replace hF67 := hF67.ext hE107
                        replace hN67 := hN67.ext hE107
                        replace hF72 := hF72.ext hE107
                        replace hN72 := hN72.ext hE107
                        replace hF77 := hF77.ext hE107
                        replace hI77 := hI77.ext hE107
                        refine WL_q rfl (ev_assign rfl) ?_
                        refine WL_nil ?_
                        refine thenE_n ?_
                        refine W_seq ?_
                        refine W_seq ?_
                        refine W_region ?_
                        refine WL_q rfl (ev_move rfl) ?_
                        refine WL_q rfl (ev_lss rfl rfl) ?_
                        refine WL_nil ?_
                        refine thenE_n ?_
                        refine W_cond rfl (fun hg109 => ?_) (fun hg109 => ?_)
                        · have hp109 := of_decide_eq_true hg109
                          refine W_seq ?_
                          refine W_region ?_
                          refine WL_q rfl (ev_assign rfl) ?_
                          refine WL_nil ?_
                          refine thenE_n ?_
                          refine W_ret ?_
                          refine thenE_r ?_
                          refine ret1 rfl rfl ?_
                          first | (exact ⟨rfl, hE⟩) | (exact (bneE hg109 (hr53.det1 hr40)).elim) | (exact absurd (hr53.det1 hr40) hp109) | (exact absurd (hr53.det1 hr40) (of_decide_eq_false hg109)) | (exact (bneE hg109 (hr53.det2 hr40)).elim) | (exact absurd (hr53.det2 hr40) hp109) | (exact absurd (hr53.det2 hr40) (of_decide_eq_false hg109)) | (exact (bneE hg109 (hr53.det3 hr40)).elim) | (exact absurd (hr53.det3 hr40) hp109) | (exact absurd (hr53.det3 hr40) (of_decide_eq_false hg109)) | (exact (tfX hg109).elim) | (exact (decF hg109).elim) | (exfalso; omega)
                        · have hp109 := of_decide_eq_false hg109
                          refine W_skip ?_
                          refine thenE_n ?_
                          refine W_seq ?_
                          refine W_seq ?_
                          refine W_region ?_
                          refine WL_q rfl (ev_move rfl) ?_
                          refine WL_q rfl (ev_move rfl) ?_
                          refine WL_q rfl (ev_neq rfl rfl) ?_
                          refine WL_nil ?_
                          refine thenE_n ?_
                          refine W_cond rfl (fun hg112 => ?_) (fun hg112 => ?_)
                          · have hp112 := of_decide_eq_true hg112
                            refine W_seq ?_
                            refine W_region ?_
                            refine WL_q rfl (ev_assign rfl) ?_
                            refine WL_nil ?_
                            refine thenE_n ?_
                            refine W_ret ?_
                            refine thenE_r ?_
                            refine ret1 rfl rfl ?_
                            first | (exact ⟨rfl, hE⟩) | (exact (bneE hg112 (hr53.det1 hr40)).elim) | (exact absurd (hr53.det1 hr40) hp112) | (exact absurd (hr53.det1 hr40) (of_decide_eq_false hg112)) | (exact (bneE hg112 (hr53.det2 hr40)).elim) | (exact absurd (hr53.det2 hr40) hp112) | (exact absurd (hr53.det2 hr40) (of_decide_eq_false hg112)) | (exact (bneE hg112 (hr53.det3 hr40)).elim) | (exact absurd (hr53.det3 hr40) hp112) | (exact absurd (hr53.det3 hr40) (of_decide_eq_false hg112)) | (exact (tfX hg112).elim) | (exact (decF hg112).elim) | (exfalso; omega)
                          · have hp112 := of_decide_eq_false hg112
                            refine W_skip ?_
                            refine thenE_n ?_
                            refine W_seq ?_
                            refine W_drawE [(0, true), (2, true), (4, true), (1, false), (3, false), (5, false), (6, false), (7, true), (8, true), (9, true), (10, true), (11, true)] mixed (by kernel_rfl) rfl (by kernel_rfl) ?_
                            intro wd37 hEd37 hzd37
                            replace hE := hE.trans hEd37
                            replace hA := hA.ext hEd37
                            replace hB := hB.ext hEd37
                            replace hm := hm.ext hEd37
                            replace hB3 := hB3.ext hEd37
                            replace hB4 := hB4.ext hEd37
                            replace hF35 := hF35.ext hEd37
                            replace hN35 := hN35.ext hEd37
                            replace hF37 := hF37.ext hEd37
                            replace hN37 := hN37.ext hEd37
                            replace hF39 := hF39.ext hEd37
                            replace hI39 := hI39.ext hEd37
                            replace hx40 := hx40.ext hEd37
                            replace hB10 := hB10.ext hEd37
                            replace hB11 := hB11.ext hEd37
                            replace hO53 := hO53.ext hEd37
                            replace hF67 := hF67.ext hEd37
                            replace hN67 := hN67.ext hEd37
                            replace hF72 := hF72.ext hEd37
                            replace hN72 := hN72.ext hEd37
                            replace hF77 := hF77.ext hEd37
                            replace hI77 := hI77.ext hEd37
                            have hDd37 := Ext.refl wd37
                            refine PW_q rfl rfl (fun wq hq => ev_loads st25 sz25 rfl (cellsB (hq.blk hB3)) rfl) ?_
                            refine PW_q rfl rfl (fun wq hq => ev_loads st25 sz25 rfl (cellsB (hq.blk hB4)) rfl) ?_
                            refine PW_q rfl rfl (fun wq hq => ev_move rfl) ?_
                            refine PW_m rfl rfl (ev_call rfl (toNetwork_spec _ A _ hA (by omega) (by omega))) ?_
                            rintro _ w115 ⟨h115, rfl, hF115, hE115⟩
                            have hz115 := hE115.size
                            replace hE := hE.trans hE115
                            replace hDd37 := hDd37.trans hE115
                            have hN115 := hF115.is
                            refine ⟨hDd37, ?_⟩
                            have hA_3 := hA.ext hDd37
                            have hB_3 := hB.ext hDd37
                            have hm_3 := hm.ext hDd37
                            have hB3_3 := hB3.ext hDd37
                            have hB4_3 := hB4.ext hDd37
                            have hF35_3 := hF35.ext hDd37
                            have hN35_3 := hN35.ext hDd37
                            have hF37_3 := hF37.ext hDd37
                            have hN37_3 := hN37.ext hDd37
                            have hF39_3 := hF39.ext hDd37
                            have hI39_3 := hI39.ext hDd37
                            have hx40_3 := hx40.ext hDd37
                            have hB10_3 := hB10.ext hDd37
                            have hB11_3 := hB11.ext hDd37
                            have hO53_3 := hO53.ext hDd37
                            have hF67_3 := hF67.ext hDd37
                            have hN67_3 := hN67.ext hDd37
                            have hF72_3 := hF72.ext hDd37
                            have hN72_3 := hN72.ext hDd37
                            have hF77_3 := hF77.ext hDd37
                            have hI77_3 := hI77.ext hDd37
                            refine PW_m rfl rfl (ev_call rfl (toNetwork_spec _ B _ hB_3 (by omega) (by omega))) ?_
                            rintro _ w117 ⟨h117, rfl, hF117, hE117⟩
                            have hz117 := hE117.size
                            replace hE := hE.trans hE117
                            replace hDd37 := hDd37.trans hE117
                            replace hF115 := hF115.ext hE117
                            replace hN115 := hN115.ext hE117
                            have hN117 := hF117.is
                            refine ⟨hDd37, ?_⟩
                            have hA_5 := hA.ext hDd37
                            have hB_5 := hB.ext hDd37
                            have hm_5 := hm.ext hDd37
                            have hB3_5 := hB3.ext hDd37
                            have hB4_5 := hB4.ext hDd37
                            have hF35_5 := hF35.ext hDd37
                            have hN35_5 := hN35.ext hDd37
                            have hF37_5 := hF37.ext hDd37
                            have hN37_5 := hN37.ext hDd37
                            have hF39_5 := hF39.ext hDd37
                            have hI39_5 := hI39.ext hDd37
                            have hx40_5 := hx40.ext hDd37
                            have hB10_5 := hB10.ext hDd37
                            have hB11_5 := hB11.ext hDd37
                            have hO53_5 := hO53.ext hDd37
                            have hF67_5 := hF67.ext hDd37
                            have hN67_5 := hN67.ext hDd37
                            have hF72_5 := hF72.ext hDd37
                            have hN72_5 := hN72.ext hDd37
                            have hF77_5 := hF77.ext hDd37
                            have hI77_5 := hI77.ext hDd37
                            refine PW_m rfl rfl (ev_call rfl (toIntS_spec _ _ m _ hm_5 (by omega) (by omega))) ?_
                            rintro _ w119 ⟨a119, rfl, hF119, hE119⟩
                            have hz119 := hE119.size
                            replace hE := hE.trans hE119
                            replace hDd37 := hDd37.trans hE119
                            replace hF115 := hF115.ext hE119
                            replace hN115 := hN115.ext hE119
                            replace hF117 := hF117.ext hE119
                            replace hN117 := hN117.ext hE119
                            have hI119 := hF119.is
                            refine ⟨hDd37, ?_⟩
                            have hA_6 := hA.ext hDd37
                            have hB_6 := hB.ext hDd37
                            have hm_6 := hm.ext hDd37
                            have hB3_6 := hB3.ext hDd37
                            have hB4_6 := hB4.ext hDd37
                            have hF35_6 := hF35.ext hDd37
                            have hN35_6 := hN35.ext hDd37
                            have hF37_6 := hF37.ext hDd37
                            have hN37_6 := hN37.ext hDd37
                            have hF39_6 := hF39.ext hDd37
                            have hI39_6 := hI39.ext hDd37
                            have hx40_6 := hx40.ext hDd37
                            have hB10_6 := hB10.ext hDd37
                            have hB11_6 := hB11.ext hDd37
                            have hO53_6 := hO53.ext hDd37
                            have hF67_6 := hF67.ext hDd37
                            have hN67_6 := hN67.ext hDd37
                            have hF72_6 := hF72.ext hDd37
                            have hN72_6 := hN72.ext hDd37
                            have hF77_6 := hF77.ext hDd37
                            have hI77_6 := hI77.ext hDd37
                            refine PW_m rfl rfl (ev_call rfl (FibresOf_rows _ A _ B _ _ m _ hN115 (by omega) (by omega) hN117 (by omega) (by omega) hI119 (by omega) (by omega))) ?_
                            rintro _ w120 ⟨a120, c120, y120, q120, rfl, hr120, hO120, ⟨hl120, hm120, ht120⟩, hE120⟩
                            have hz120 := hE120.size
                            replace hE := hE.trans hE120
                            replace hDd37 := hDd37.trans hE120
                            replace hF115 := hF115.ext hE120
                            replace hN115 := hN115.ext hE120
                            replace hF117 := hF117.ext hE120
                            replace hN117 := hN117.ext hE120
                            replace hF119 := hF119.ext hE120
                            replace hI119 := hI119.ext hE120
                            refine ⟨hDd37, ?_⟩
                            refine PW_q rfl rfl (fun wq hq => ev_move rfl) ?_
                            refine PW_q rfl rfl (fun wq hq => ev_extract rfl rfl) ?_
                            refine PW_q rfl rfl (fun wq hq => ev_extract rfl rfl) ?_
                            refine PW_q rfl rfl (fun wq hq => ev_assign rfl) ?_
                            refine PW_q rfl rfl (fun wq hq => ev_assign rfl) ?_
                            replace hA := hA.ext hDd37
                            replace hB := hB.ext hDd37
                            replace hm := hm.ext hDd37
                            replace hB3 := hB3.ext hDd37
                            replace hB4 := hB4.ext hDd37
                            replace hF35 := hF35.ext hDd37
                            replace hN35 := hN35.ext hDd37
                            replace hF37 := hF37.ext hDd37
                            replace hN37 := hN37.ext hDd37
                            replace hF39 := hF39.ext hDd37
                            replace hI39 := hI39.ext hDd37
                            replace hx40 := hx40.ext hDd37
                            replace hB10 := hB10.ext hDd37
                            replace hB11 := hB11.ext hDd37
                            replace hO53 := hO53.ext hDd37
                            replace hF67 := hF67.ext hDd37
                            replace hN67 := hN67.ext hDd37
                            replace hF72 := hF72.ext hDd37
                            replace hN72 := hN72.ext hDd37
                            replace hF77 := hF77.ext hDd37
                            replace hI77 := hI77.ext hDd37
                            refine PW_nil ?_
                            refine thenE_n ?_
                            refine W_seq ?_
                            refine W_seq ?_
                            refine W_region ?_
                            refine WL_q rfl (ev_move rfl) ?_
                            refine WL_q rfl (ev_move rfl) ?_
                            refine WL_m rfl (ev_call rfl (eqIntSS_spec _ _ _ _ y120 y40 _ (hO120.is) hx40 (by omega))) ?_
                            rintro _ w125 ⟨rfl, hE125⟩
                            have hz125 := hE125.size
                            replace hE := hE.trans hE125
                            replace hA := hA.ext hE125
                            replace hB := hB.ext hE125
                            replace hm := hm.ext hE125
                            replace hB3 := hB3.ext hE125
                            replace hB4 := hB4.ext hE125
                            replace hF35 := hF35.ext hE125
                            replace hN35 := hN35.ext hE125
                            replace hF37 := hF37.ext hE125
                            replace hN37 := hN37.ext hE125
                            replace hF39 := hF39.ext hE125
                            replace hI39 := hI39.ext hE125
                            replace hx40 := hx40.ext hE125
                            replace hB10 := hB10.ext hE125
                            replace hB11 := hB11.ext hE125
                            replace hO53 := hO53.ext hE125
                            replace hF67 := hF67.ext hE125
                            replace hN67 := hN67.ext hE125
                            replace hF72 := hF72.ext hE125
                            replace hN72 := hN72.ext hE125
                            replace hF77 := hF77.ext hE125
                            replace hI77 := hI77.ext hE125
                            replace hF115 := hF115.ext hE125
                            replace hN115 := hN115.ext hE125
                            replace hF117 := hF117.ext hE125
                            replace hN117 := hN117.ext hE125
                            replace hF119 := hF119.ext hE125
                            replace hI119 := hI119.ext hE125
                            replace hO120 := hO120.ext hE125
                            refine WL_q rfl (ev_not rfl) ?_
                            refine WL_q rfl (ev_move rfl) ?_
                            refine WL_splitv (t := 127) rfl (fun hg126 => ?_) (fun hg126 => ?_)
                            · have hg125 := not_true hg126
                              refine WL_no rfl rfl hg126 rfl ?_
                              refine WL_no rfl rfl hg126 rfl ?_
                              refine WL_no rfl rfl hg126 rfl ?_
                              refine WL_q rfl (ev_pick_t rfl hg126 rfl) ?_
                              refine WL_nil ?_
                              refine thenE_n ?_
                              refine W_cond_t rfl ?_
                              refine W_seq ?_
                              refine W_region ?_
                              refine WL_q rfl (ev_assign rfl) ?_
                              refine WL_nil ?_
                              refine thenE_n ?_
                              refine W_ret ?_
                              refine thenE_r ?_
                              refine ret1 rfl rfl ?_
                              first | (exact ⟨rfl, hE⟩) | (exact (bneE hg125 (hr120.det1 hr40)).elim) | (exact absurd (hr120.det1 hr40) hp125) | (exact absurd (hr120.det1 hr40) (of_decide_eq_false hg125)) | (exact (bneE hg125 (hr120.det2 hr40)).elim) | (exact absurd (hr120.det2 hr40) hp125) | (exact absurd (hr120.det2 hr40) (of_decide_eq_false hg125)) | (exact (bneE hg125 (hr120.det3 hr40)).elim) | (exact absurd (hr120.det3 hr40) hp125) | (exact absurd (hr120.det3 hr40) (of_decide_eq_false hg125)) | (exact (bneE hg125 (hr53.det1 hr40)).elim) | (exact absurd (hr53.det1 hr40) hp125) | (exact absurd (hr53.det1 hr40) (of_decide_eq_false hg125)) | (exact (bneE hg125 (hr53.det2 hr40)).elim) | (exact absurd (hr53.det2 hr40) hp125) | (exact absurd (hr53.det2 hr40) (of_decide_eq_false hg125)) | (exact (bneE hg125 (hr53.det3 hr40)).elim) | (exact absurd (hr53.det3 hr40) hp125) | (exact absurd (hr53.det3 hr40) (of_decide_eq_false hg125)) | (exact (tfX hg125).elim) | (exact (decF hg125).elim) | (exfalso; omega)
                            · have hg125 := not_false hg126
                              refine WL_qg rfl rfl hg126 rfl (ev_move rfl) ?_
                              refine WL_qg rfl rfl hg126 rfl (ev_move rfl) ?_
                              refine WL_qg rfl rfl hg126 rfl (ev_neq_b Try.underlying4 rfl rfl) ?_
                              refine WL_q rfl (ev_pick_f rfl hg126 rfl) ?_
                              refine WL_nil ?_
                              refine thenE_n ?_
                              refine W_cond rfl (fun hg130 => ?_) (fun hg130 => ?_)
                              · refine W_seq ?_
                                refine W_region ?_
                                refine WL_q rfl (ev_assign rfl) ?_
                                refine WL_nil ?_
                                refine thenE_n ?_
                                refine W_ret ?_
                                refine thenE_r ?_
                                refine ret1 rfl rfl ?_
                                first | (exact ⟨rfl, hE⟩) | (exact (bneE hg130 (hr120.det1 hr40)).elim) | (exact absurd (hr120.det1 hr40) hp130) | (exact absurd (hr120.det1 hr40) (of_decide_eq_false hg130)) | (exact (bneE hg130 (hr120.det2 hr40)).elim) | (exact absurd (hr120.det2 hr40) hp130) | (exact absurd (hr120.det2 hr40) (of_decide_eq_false hg130)) | (exact (bneE hg130 (hr120.det3 hr40)).elim) | (exact absurd (hr120.det3 hr40) hp130) | (exact absurd (hr120.det3 hr40) (of_decide_eq_false hg130)) | (exact (bneE hg130 (hr53.det1 hr40)).elim) | (exact absurd (hr53.det1 hr40) hp130) | (exact absurd (hr53.det1 hr40) (of_decide_eq_false hg130)) | (exact (bneE hg130 (hr53.det2 hr40)).elim) | (exact absurd (hr53.det2 hr40) hp130) | (exact absurd (hr53.det2 hr40) (of_decide_eq_false hg130)) | (exact (bneE hg130 (hr53.det3 hr40)).elim) | (exact absurd (hr53.det3 hr40) hp130) | (exact absurd (hr53.det3 hr40) (of_decide_eq_false hg130)) | (exact (tfX hg130).elim) | (exact (decF hg130).elim) | (exfalso; omega)
                              · refine W_skip ?_
                                refine thenE_n ?_
                                refine W_seq ?_
                                refine W_region ?_
                                refine WL_q rfl (ev_assign rfl) ?_
                                refine WL_nil ?_
                                refine thenE_n ?_
                                refine W_seq ?_
                                refine W_region ?_
                                refine WL_q rfl (ev_move rfl) ?_
                                refine WL_q rfl (ev_move rfl) ?_
                                refine WL_m rfl (ev_call rfl (heldIntSS_spec _ _ y53 _ _ hO53.is rfl (by omega) (by omega) (by omega))) ?_
                                rintro _ w134 ⟨rfl, hE134⟩
                                have hz134 := hE134.size
                                replace hE := hE.trans hE134
                                replace hA := hA.ext hE134
                                replace hB := hB.ext hE134
                                replace hm := hm.ext hE134
                                replace hB3 := hB3.ext hE134
                                replace hB4 := hB4.ext hE134
                                replace hF35 := hF35.ext hE134
                                replace hN35 := hN35.ext hE134
                                replace hF37 := hF37.ext hE134
                                replace hN37 := hN37.ext hE134
                                replace hF39 := hF39.ext hE134
                                replace hI39 := hI39.ext hE134
                                replace hx40 := hx40.ext hE134
                                replace hB10 := hB10.ext hE134
                                replace hB11 := hB11.ext hE134
                                replace hO53 := hO53.ext hE134
                                replace hF67 := hF67.ext hE134
                                replace hN67 := hN67.ext hE134
                                replace hF72 := hF72.ext hE134
                                replace hN72 := hN72.ext hE134
                                replace hF77 := hF77.ext hE134
                                replace hI77 := hI77.ext hE134
                                replace hF115 := hF115.ext hE134
                                replace hN115 := hN115.ext hE134
                                replace hF117 := hF117.ext hE134
                                replace hN117 := hN117.ext hE134
                                replace hF119 := hF119.ext hE134
                                replace hI119 := hI119.ext hE134
                                replace hO120 := hO120.ext hE134
                                refine WL_q rfl (ev_assign rfl) ?_
                                refine WL_nil ?_
                                refine thenE_n ?_
                                refine W_seq ?_
                                refine W_seq ?_
                                refine W_region ?_
                                refine WL_q rfl (ev_move rfl) ?_
                                refine WL_q rfl (ev_lss rfl rfl) ?_
                                refine WL_nil ?_
                                refine thenE_n ?_
                                refine W_cond rfl (fun hg136 => ?_) (fun hg136 => ?_)
                                · have hp136 := of_decide_eq_true hg136
                                  refine W_seq ?_
                                  refine W_region ?_
                                  refine WL_q rfl (ev_assign rfl) ?_
                                  refine WL_nil ?_
                                  refine thenE_n ?_
                                  refine W_ret ?_
                                  refine thenE_r ?_
                                  refine ret1 rfl rfl ?_
                                  first | (exact ⟨rfl, hE⟩) | (exact (bneE hg136 (hr120.det1 hr40)).elim) | (exact absurd (hr120.det1 hr40) hp136) | (exact absurd (hr120.det1 hr40) (of_decide_eq_false hg136)) | (exact (bneE hg136 (hr120.det2 hr40)).elim) | (exact absurd (hr120.det2 hr40) hp136) | (exact absurd (hr120.det2 hr40) (of_decide_eq_false hg136)) | (exact (bneE hg136 (hr120.det3 hr40)).elim) | (exact absurd (hr120.det3 hr40) hp136) | (exact absurd (hr120.det3 hr40) (of_decide_eq_false hg136)) | (exact (bneE hg136 (hr53.det1 hr40)).elim) | (exact absurd (hr53.det1 hr40) hp136) | (exact absurd (hr53.det1 hr40) (of_decide_eq_false hg136)) | (exact (bneE hg136 (hr53.det2 hr40)).elim) | (exact absurd (hr53.det2 hr40) hp136) | (exact absurd (hr53.det2 hr40) (of_decide_eq_false hg136)) | (exact (bneE hg136 (hr53.det3 hr40)).elim) | (exact absurd (hr53.det3 hr40) hp136) | (exact absurd (hr53.det3 hr40) (of_decide_eq_false hg136)) | (exact (tfX hg136).elim) | (exact (decF hg136).elim) | (exfalso; omega)
                                · have hp136 := of_decide_eq_false hg136
                                  refine W_skip ?_
                                  refine thenE_n ?_
                                  refine W_seq ?_
                                  refine W_seq ?_
                                  refine W_region ?_
                                  refine WL_q rfl (ev_move rfl) ?_
                                  refine WL_q rfl (ev_move rfl) ?_
                                  refine WL_q rfl (ev_neq rfl rfl) ?_
                                  refine WL_nil ?_
                                  refine thenE_n ?_
                                  refine W_cond rfl (fun hg139 => ?_) (fun hg139 => ?_)
                                  · have hp139 := of_decide_eq_true hg139
                                    refine W_seq ?_
                                    refine W_region ?_
                                    refine WL_q rfl (ev_assign rfl) ?_
                                    refine WL_nil ?_
                                    refine thenE_n ?_
                                    refine W_ret ?_
                                    refine thenE_r ?_
                                    refine ret1 rfl rfl ?_
                                    first | (exact ⟨rfl, hE⟩) | (exact (bneE hg139 (hr120.det1 hr40)).elim) | (exact absurd (hr120.det1 hr40) hp139) | (exact absurd (hr120.det1 hr40) (of_decide_eq_false hg139)) | (exact (bneE hg139 (hr120.det2 hr40)).elim) | (exact absurd (hr120.det2 hr40) hp139) | (exact absurd (hr120.det2 hr40) (of_decide_eq_false hg139)) | (exact (bneE hg139 (hr120.det3 hr40)).elim) | (exact absurd (hr120.det3 hr40) hp139) | (exact absurd (hr120.det3 hr40) (of_decide_eq_false hg139)) | (exact (bneE hg139 (hr53.det1 hr40)).elim) | (exact absurd (hr53.det1 hr40) hp139) | (exact absurd (hr53.det1 hr40) (of_decide_eq_false hg139)) | (exact (bneE hg139 (hr53.det2 hr40)).elim) | (exact absurd (hr53.det2 hr40) hp139) | (exact absurd (hr53.det2 hr40) (of_decide_eq_false hg139)) | (exact (bneE hg139 (hr53.det3 hr40)).elim) | (exact absurd (hr53.det3 hr40) hp139) | (exact absurd (hr53.det3 hr40) (of_decide_eq_false hg139)) | (exact (tfX hg139).elim) | (exact (decF hg139).elim) | (exfalso; omega)
                                  · have hp139 := of_decide_eq_false hg139
                                    refine W_skip ?_
                                    refine thenE_n ?_
                                    refine W_seq ?_
                                    refine W_region ?_
                                    refine WL_q rfl (ev_assign rfl) ?_
                                    refine WL_nil ?_
                                    refine thenE_n ?_
                                    refine W_ret ?_
                                    refine ret1 rfl rfl ?_
                                    first | (exact ⟨rfl, hE⟩) | (exact (bneE hg139 (hr120.det1 hr40)).elim) | (exact absurd (hr120.det1 hr40) hp139) | (exact absurd (hr120.det1 hr40) (of_decide_eq_false hg139)) | (exact (bneE hg139 (hr120.det2 hr40)).elim) | (exact absurd (hr120.det2 hr40) hp139) | (exact absurd (hr120.det2 hr40) (of_decide_eq_false hg139)) | (exact (bneE hg139 (hr120.det3 hr40)).elim) | (exact absurd (hr120.det3 hr40) hp139) | (exact absurd (hr120.det3 hr40) (of_decide_eq_false hg139)) | (exact (bneE hg139 (hr53.det1 hr40)).elim) | (exact absurd (hr53.det1 hr40) hp139) | (exact absurd (hr53.det1 hr40) (of_decide_eq_false hg139)) | (exact (bneE hg139 (hr53.det2 hr40)).elim) | (exact absurd (hr53.det2 hr40) hp139) | (exact absurd (hr53.det2 hr40) (of_decide_eq_false hg139)) | (exact (bneE hg139 (hr53.det3 hr40)).elim) | (exact absurd (hr53.det3 hr40) hp139) | (exact absurd (hr53.det3 hr40) (of_decide_eq_false hg139)) | (exact (tfX hg139).elim) | (exact (decF hg139).elim) | (exfalso; omega)

end Go.Proofs.Ytgnlfhggebijcaa
