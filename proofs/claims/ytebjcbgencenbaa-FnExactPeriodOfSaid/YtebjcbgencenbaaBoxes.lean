/- Contracts of InboxesOf, of the program and of the reference; the walk of FnExactInboxesOf. -/
import Derived.Test.YtebjcbgencenbaaHalt
import Derived.Test.YtebjcbgencenbaaMark2
import Derived.Test.YtebjcbgencenbaaRowsF
namespace Go.Proofs.Ytebjcbgencenbaa
open Go Go.RowKit

theorem bxs_bd {m : Mach} {A : Net} {S : List Int} (h : Fits m A) : sumL (bxs m A S) ≤ 240 ∧ (bxs m A S).length ≤ 40 := by
  have h1 := h.2.1.nodes
  have h2 := bxs_len m A S
  have h3 : sumL (bxs m A S) ≤ (bxs m A S).length * 6 := sumL_bd fun x hx => by
    obtain ⟨v, hv, rfl⟩ := List.mem_iff_getElem.1 hx
    have hv2 : v < A.ends.length := by omega
    have h4 := h.2.2.1 v hv2
    have h5 := h.1.deg
    rw [bxs_at, inbox_len hv2]; omega
  omega
theorem bxs_tot {m : Mach} {A : Net} {S : List Int} (h : Fits m A) : sumL (bxs m A S) ≤ 1048576 ∧ (bxs m A S).length ≤ 1048576 ∧ totL (bxs m A S) ≤ 1048576 := by
  have h1 := bxs_bd (S := S) h
  have h2 := totL_sum (bxs m A S)
  omega
theorem bxs_take {m : Mach} {A : Net} {S : List Int} {i : Nat} (h : i < (bxs m A S).length) : (bxs m A S).take i ++ [inbox m A S i] = (bxs m A S).take (i + 1) := by
  rw [← List.take_append_getElem h, bxs_at]

set_option maxRecDepth 100000 in
theorem InboxesOf_spec {lom him : Nat} (nm : MA) (m : Mach) {loA hiA : Nat} (nA : NA) (A : Net) {loS hiS : Nat} (aS : Option Addr) (cS : Nat) (S : List Int) (w : World) (hm : IsMach lom him w nm m) (hhim : him ≤ w.heap.size) (hnm : totM m ≤ 1048576) (hA : IsNet loA hiA w nA A) (hhiA : hiA ≤ w.heap.size) (hnA : totN A ≤ 1048576) (hS : Ints loS hiS w aS cS S) (hhiS : hiS ≤ w.heap.size) (hnS : S.length ≤ 1048576) :
    Fn Try.prog 29 #[machV nm m, netV nA A, .slice aS S.length cS] w (fun o9 w' => ∃ a' c' ys q, o9 = .tuple #[.slice a' ys.length c', VB q] ∧ RV [] (opt (Fits m A ∧ SOk m A S) (bxs m A S)) ys q ∧ RowsH w.heap.size w'.heap.size w' 3 a' c' ys ∧ (sumL ys ≤ 1048576 ∧ ys.length ≤ 1048576 ∧ totL ys ≤ 1048576) ∧ Ext w w') := by
  have hmm : totL m.start + totL m.send + totC m.clauses + m.output.length ≤ 1048576 := hnm
  have hqA := totL_len A.ends
  have hmA : totL A.ends + A.ids.length + A.inputs.length ≤ 1048576 := hnA
  have hxl := bxs_len m A S
  have hE := Ext.refl w
  refine Fn_of Try.func29 rfl rfl (by kernel_rfl) rfl ?_
  refine W_seq ?_
  refine W_region ?_
  refine WL_m rfl (ev_box rfl) ?_
  rintro _ w3 ⟨rfl, hN3⟩
  have hz3 := hN3.size
  replace hE := hE.trans hN3.ext
  replace hm := hm.ext hN3.ext
  replace hA := hA.ext hN3.ext
  replace hS := hS.ext hN3.ext
  have hB3 : Blk w3 _ _ [_, _, _, _, _, _, _] := hN3.blk
  refine WL_m rfl (ev_box rfl) ?_
  rintro _ w4 ⟨rfl, hN4⟩
  have hz4 := hN4.size
  replace hE := hE.trans hN4.ext
  replace hm := hm.ext hN4.ext
  replace hA := hA.ext hN4.ext
  replace hS := hS.ext hN4.ext
  replace hB3 := hB3.ext hN4.ext
  have hB4 : Blk w4 _ _ [_, _, _] := hN4.blk
  refine WL_q rfl (ev_assign rfl) ?_
  refine WL_q rfl (ev_assign rfl) ?_
  refine WL_nil ?_
  refine thenE_n ?_
  refine W_seq ?_
  refine W_seq ?_
  refine W_region ?_
  refine WL_q rfl (ev_loads st36 sz36 rfl (cellsB hB3) rfl) ?_
  refine WL_q rfl (ev_loads st40 sz40 rfl (cellsB hB4) rfl) ?_
  refine WL_m rfl (ev_call rfl (fits_spec _ m _ A _ hm (by omega) (by omega) hA (by omega) (by omega))) ?_
  rintro _ w10 ⟨b10, rfl, hb10, hE10⟩
  have hz10 := hE10.size
  replace hE := hE.trans hE10
  replace hm := hm.ext hE10
  replace hA := hA.ext hE10
  replace hS := hS.ext hE10
  replace hB3 := hB3.ext hE10
  replace hB4 := hB4.ext hE10
  refine WL_q rfl (ev_not rfl) ?_
  refine WL_q rfl (ev_move rfl) ?_
  refine WL_splitv (t := 12) rfl (fun hg11 => ?_) (fun hg11 => ?_)
  · have hg10 := not_true hg11
    have hp10 := ttN hb10 hg10
    refine WL_no rfl rfl hg11 rfl ?_
    refine WL_no rfl rfl hg11 rfl ?_
    refine WL_no rfl rfl hg11 rfl ?_
    refine WL_no rfl rfl hg11 rfl ?_
    refine WL_no rfl rfl hg11 rfl ?_
    refine WL_q rfl (ev_pick_t rfl hg11 rfl) ?_
    refine WL_nil ?_
    refine thenE_n ?_
    refine W_cond_t rfl ?_
    refine W_seq ?_
    refine W_region ?_
    refine WL_q rfl (ev_assign rfl) ?_
    refine WL_q rfl (ev_assign rfl) ?_
    refine WL_nil ?_
    refine thenE_n ?_
    refine W_ret ?_
    refine thenE_r ?_
    refine ret2 rfl rfl rfl ?_
    first | (exact ⟨none, 0, [], _, rfl, .no (fun h => hp10 h.1), RowsH.nil, ⟨by simp [sumL], by simp, by simp [totL]⟩, hE⟩) | (exact ⟨none, 0, [], _, rfl, .no (fun h => hp16 h.2), RowsH.nil, ⟨by simp [sumL], by simp, by simp [totL]⟩, hE⟩) | (exact ⟨_, _, _, _, rfl, .yes ⟨hp10, hp16⟩ rfl, hR22.up (by omega) (Nat.le_refl _), bxs_tot hp10, hE⟩)
  · have hg10 := not_false hg11
    have hp10 := hb10.1 hg10
    refine WL_qg rfl rfl hg11 rfl (ev_loads st36 sz36 rfl (cellsB hB3) rfl) ?_
    refine WL_qg rfl rfl hg11 rfl (ev_loads st40 sz40 rfl (cellsB hB4) rfl) ?_
    refine WL_qg rfl rfl hg11 rfl (ev_move rfl) ?_
    have hkm9 := hp10.1
    refine WL_mg rfl rfl hg11 rfl (ev_call rfl (statesOk_spec _ m _ A _ _ S _ hm (by omega) (by omega) hA (by omega) (by omega) hS (by omega) (by omega) (by first | assumption | exact (hp10 : Fits _ _).1 | exact Fits.mo (by assumption)))) ?_
    rintro _ w16 ⟨b16, rfl, hb16, hE16⟩
    have hz16 := hE16.size
    replace hE := hE.trans hE16
    replace hm := hm.ext hE16
    replace hA := hA.ext hE16
    replace hS := hS.ext hE16
    replace hB3 := hB3.ext hE16
    replace hB4 := hB4.ext hE16
    refine WL_qg rfl rfl hg11 rfl (ev_not rfl) ?_
    refine WL_q rfl (ev_pick_f rfl hg11 rfl) ?_
    refine WL_nil ?_
    refine thenE_n ?_
    refine W_cond rfl (fun hg17 => ?_) (fun hg17 => ?_)
    · have hg16 := not_true hg17
      have hp16 := ttN hb16 hg16
      refine W_seq ?_
      refine W_region ?_
      refine WL_q rfl (ev_assign rfl) ?_
      refine WL_q rfl (ev_assign rfl) ?_
      refine WL_nil ?_
      refine thenE_n ?_
      refine W_ret ?_
      refine thenE_r ?_
      refine ret2 rfl rfl rfl ?_
      first | (exact ⟨none, 0, [], _, rfl, .no (fun h => hp10 h.1), RowsH.nil, ⟨by simp [sumL], by simp, by simp [totL]⟩, hE⟩) | (exact ⟨none, 0, [], _, rfl, .no (fun h => hp16 h.2), RowsH.nil, ⟨by simp [sumL], by simp, by simp [totL]⟩, hE⟩) | (exact ⟨_, _, _, _, rfl, .yes ⟨hp10, hp16⟩ rfl, hR22.up (by omega) (Nat.le_refl _), bxs_tot hp10, hE⟩)
    · have hg16 := not_false hg17
      have hp16 := hb16.1 hg16
      refine W_skip ?_
      refine thenE_n ?_
      refine W_seq ?_
      refine W_region ?_
      refine WL_q rfl (ev_loads st36 sz36 rfl (cellsB hB3) rfl) ?_
      refine WL_q rfl (ev_loads st40 sz40 rfl (cellsB hB4) rfl) ?_
      refine WL_q rfl (ev_move rfl) ?_
      refine WL_m rfl (ev_call rfl (inboxes_spec _ m _ A _ _ S _ hm (by omega) (by omega) hA (by omega) (by omega) hS (by omega) (by omega) (by assumption) (by assumption))) ?_
      rintro _ w22 ⟨a22, rfl, hR22, hE22⟩
      have hz22 := hE22.size
      replace hE := hE.trans hE22
      replace hm := hm.ext hE22
      replace hA := hA.ext hE22
      replace hS := hS.ext hE22
      replace hB3 := hB3.ext hE22
      replace hB4 := hB4.ext hE22
      have hI22 := hR22.is
      refine WL_q rfl (ev_assign rfl) ?_
      refine WL_q rfl (ev_assign rfl) ?_
      refine WL_nil ?_
      refine thenE_n ?_
      refine W_ret ?_
      refine ret2 rfl rfl rfl ?_
      first | (exact ⟨none, 0, [], _, rfl, .no (fun h => hp10 h.1), RowsH.nil, ⟨by simp [sumL], by simp, by simp [totL]⟩, hE⟩) | (exact ⟨none, 0, [], _, rfl, .no (fun h => hp16 h.2), RowsH.nil, ⟨by simp [sumL], by simp, by simp [totL]⟩, hE⟩) | (exact ⟨_, _, _, _, rfl, .yes ⟨hp10, hp16⟩ rfl, hR22.up (by omega) (Nat.le_refl _), bxs_tot hp10, hE⟩)

set_option maxRecDepth 100000 in
theorem sInboxesOf_spec {lom him : Nat} (nm : MA) (m : Mach) {loA hiA : Nat} (nA : NA) (A : Net) {loS hiS : Nat} (aS : Option Addr) (cS : Nat) (S : List Int) (w : World) (hm : IsMach lom him w nm m) (hhim : him ≤ w.heap.size) (hnm : totM m ≤ 1048576) (hA : IsNet loA hiA w nA A) (hhiA : hiA ≤ w.heap.size) (hnA : totN A ≤ 1048576) (hS : Ints loS hiS w aS cS S) (hhiS : hiS ≤ w.heap.size) (hnS : S.length ≤ 1048576) :
    Fn Try.prog 27 #[machV nm m, netV nA A, .slice aS S.length cS] w (fun o9 w' => ∃ a' c' ys q, o9 = .tuple #[.slice a' ys.length c', VB q] ∧ RV [] (opt (Fits m A ∧ SOk m A S) (bxs m A S)) ys q ∧ Intss 0 w'.heap.size w' a' c' ys ∧ (ys.length ≤ 1048576 ∧ totL ys ≤ 1048576) ∧ Ext w w') := by
  have hmm : totL m.start + totL m.send + totC m.clauses + m.output.length ≤ 1048576 := hnm
  have hqA := totL_len A.ends
  have hmA : totL A.ends + A.ids.length + A.inputs.length ≤ 1048576 := hnA
  have hxl := bxs_len m A S
  have hE := Ext.refl w
  refine Fn_of Try.func27 rfl rfl (by kernel_rfl) rfl ?_
  refine W_seq ?_
  refine W_region ?_
  refine WL_m rfl (ev_box rfl) ?_
  rintro _ w3 ⟨rfl, hN3⟩
  have hz3 := hN3.size
  replace hE := hE.trans hN3.ext
  replace hm := hm.ext hN3.ext
  replace hA := hA.ext hN3.ext
  replace hS := hS.ext hN3.ext
  have hB3 : Blk w3 _ _ [_, _, _, _, _, _, _] := hN3.blk
  refine WL_m rfl (ev_box rfl) ?_
  rintro _ w4 ⟨rfl, hN4⟩
  have hz4 := hN4.size
  replace hE := hE.trans hN4.ext
  replace hm := hm.ext hN4.ext
  replace hA := hA.ext hN4.ext
  replace hS := hS.ext hN4.ext
  replace hB3 := hB3.ext hN4.ext
  have hB4 : Blk w4 _ _ [_, _, _] := hN4.blk
  refine WL_q rfl (ev_assign rfl) ?_
  refine WL_q rfl (ev_assign rfl) ?_
  refine WL_nil ?_
  refine thenE_n ?_
  refine W_seq ?_
  refine W_seq ?_
  refine W_region ?_
  refine WL_q rfl (ev_loads st36 sz36 rfl (cellsB hB3) rfl) ?_
  refine WL_q rfl (ev_loads st40 sz40 rfl (cellsB hB4) rfl) ?_
  refine WL_q rfl (ev_move rfl) ?_
  refine WL_m rfl (ev_call rfl (maStates_spec _ m _ A _ _ S _ hm (by omega) (by omega) hA (by omega) (by omega) hS (by omega) (by omega))) ?_
  rintro _ w13 ⟨b13, rfl, hb13, hE13⟩
  have hz13 := hE13.size
  replace hE := hE.trans hE13
  replace hm := hm.ext hE13
  replace hA := hA.ext hE13
  replace hS := hS.ext hE13
  replace hB3 := hB3.ext hE13
  replace hB4 := hB4.ext hE13
  refine WL_q rfl (ev_not rfl) ?_
  refine WL_nil ?_
  refine thenE_n ?_
  refine W_cond rfl (fun hg14 => ?_) (fun hg14 => ?_)
  · have hg13 := not_true hg14
    have hp13 := ttN hb13 hg13
    refine W_seq ?_
    refine W_region ?_
    refine WL_q rfl (ev_assign rfl) ?_
    refine WL_q rfl (ev_assign rfl) ?_
    refine WL_nil ?_
    refine thenE_n ?_
    refine W_ret ?_
    refine thenE_r ?_
    refine ret2 rfl rfl rfl ?_
    first | (exact ⟨none, 0, [], _, rfl, .no (fun h => hp13 h), Nest.nil, ⟨by simp, by simp [totL]⟩, hE⟩) | (have hi9 : i = (bxs m A S).length := (by omega); subst hi9; rw [List.take_length] at hR; exact ⟨_, _, _, _, by rw [List.take_length], .yes ⟨hf9, hso9⟩ rfl, hR.is.mono (Nat.zero_le _) (Nat.le_refl _), (bxs_tot hf9).2, hE⟩)
  · have hg13 := not_false hg14
    have hp13 := hb13.1 hg13
    refine W_skip ?_
    refine thenE_n ?_
    refine W_seq ?_
    refine W_region ?_
    refine WL_q rfl (ev_assign rfl) ?_
    refine WL_nil ?_
    refine thenE_n ?_
    refine W_seq ?_
    refine W_seq ?_
    refine W_region ?_
    obtain ⟨hf9, hso9⟩ := hp13
    have hnd9 := hf9.2.1.nodes
    refine WL_q rfl (ev_fieldAddr fo40_0 rfl) ?_
    refine WL_q rfl (ev_load one38 rfl (hB4.cell rfl)) ?_
    refine WL_q rfl (ev_len Try.underlying38 rfl) ?_
    refine WL_q rfl (ev_move rfl) ?_
    refine WL_nil ?_
    refine thenE_n ?_
    refine W_block ?_
    refine W_loopC (G := Nat × Option Addr × Nat) [(2, _), (3, _), (4, _), (17, _)] ((Subs.c rfl (Subs.c rfl (Subs.c rfl (Subs.c rfl Subs.n))))) (fun ⟨i, a, c⟩ => [(8, .slice a ((bxs m A S).take i).length c), (18, VI (i : Int))]) (fun ⟨i, a, c⟩ w' => Lo (w4.heap.size) w13 w' ∧ i ≤ A.ends.length ∧ RowsF w4.heap.size w'.heap.size w' 3 24 a c ((bxs m A S).take i)) (fun g => A.ends.length - g.1) (0, none, 0) ((Subs.c rfl (Subs.c (lkI rfl (by omega)) Subs.n))) (⟨Lo.refl (by omega), ⟨Nat.zero_le _, RowsF.nil⟩⟩) ?_
    rintro ⟨i, a, c⟩ wL0 ⟨hRL0, hi', hR⟩
    have hzL0 := hRL0.size
    replace hm := hm.lo hRL0 (by omega)
    replace hA := hA.lo hRL0 (by omega)
    replace hS := hS.lo hRL0 (by omega)
    replace hB3 := hB3.lo hRL0 (by omega)
    replace hB4 := hB4.lo hRL0 (by omega)
    replace hE := hE.lo hRL0 (by omega)
    have htk : ((bxs m A S).take i).length = i := by rw [List.length_take]; omega
    refine W_seq ?_
    refine W_region ?_
    refine WL_q rfl (ev_lss rfl rfl) ?_
    refine WL_nil ?_
    refine thenE_n ?_
    refine W_seq ?_
    refine W_cond rfl (fun hg19 => ?_) (fun hg19 => ?_)
    · have hp19 := of_decide_eq_true hg19
      refine W_skip ?_
      refine thenE_n ?_
      refine W_seq ?_
      refine W_block ?_
      refine W_seq ?_
      refine W_region ?_
      refine WL_q rfl (ev_move rfl) ?_
      refine WL_q rfl (ev_assign rfl) ?_
      refine WL_nil ?_
      refine thenE_n ?_
      refine W_region ?_
      refine WL_q rfl (ev_move rfl) ?_
      refine WL_q rfl (ev_loads st36 sz36 rfl (cellsB hB3) rfl) ?_
      refine WL_q rfl (ev_loads st40 sz40 rfl (cellsB hB4) rfl) ?_
      refine WL_q rfl (ev_move rfl) ?_
      refine WL_q rfl (ev_move rfl) ?_
      have hlt : i < A.ends.length := by omega
      have hil := inbox_len (m := m) (S := S) hlt
      refine WL_m rfl (ev_call rfl (maInbox_spec _ m _ A _ _ S _ _ hm (by omega) (by omega) hA (by omega) (by omega) hS (by omega) (by omega) (by assumption) (by assumption) (by omega) (by omega))) ?_
      rintro _ w26 ⟨a26, c26, rfl, hO26, hE26⟩
      have hz26 := hE26.size
      replace hE := hE.trans hE26
      replace hRL0 := hRL0.trans hE26
      replace hm := hm.ext hE26
      replace hA := hA.ext hE26
      replace hS := hS.ext hE26
      replace hB3 := hB3.ext hE26
      replace hB4 := hB4.ext hE26
      replace hR := hR.ext hE26
      refine WL_m rfl (ev_lit1 Try.underlying22 el24 (by decide) (by decide) rfl rfl) ?_
      rintro _ w27 ⟨rfl, hN27⟩
      have hz27 := hN27.size
      replace hE := hE.trans hN27.ext
      replace hRL0 := hRL0.trans hN27.ext
      replace hm := hm.ext hN27.ext
      replace hA := hA.ext hN27.ext
      replace hS := hS.ext hN27.ext
      replace hB3 := hB3.ext hN27.ext
      replace hB4 := hB4.ext hN27.ext
      replace hR := hR.ext hN27.ext
      replace hO26 := hO26.ext hN27.ext
      have hB27 := hN27.blk
      obtain ⟨vs28, hA28⟩ := hR
      have hP28 := hA28.out
      refine WL_m rfl (ev_append Try.underlying22 el24 rfl (by decide) rfl rfl hP28 (SAt.of_blk (cs := [_]) (ds := []) hB27) rfl (by simp [Value.oneCell']) (by omega) (by unfold maxLen; omega) (by omega)) ?_
      rintro _ w28 ⟨a28, c28, rfl, hO28, hK28, hQ28⟩
      have hz28 := hK28.size
      replace hE := hE.app hK28 (fun q hq => by have h1 := (hP28.block q hq).1; have h2 := hA28.otop q hq; omega)
      replace hRL0 := hRL0.app hK28 (fun q hq => by have h1 := (hP28.block q hq).1; have h2 := hA28.otop q hq; omega)
      replace hm := hm.app hK28 (hP28) (by omega)
      replace hA := hA.app hK28 (hP28) (by omega)
      replace hS := hS.app hK28 (hP28) (by omega)
      replace hB3 := hB3.app hK28 (hP28) (by omega)
      replace hB4 := hB4.app hK28 (hP28) (by omega)
      have hP28 := hO28
      have hR := rowsf_snoc hA28 hO26 (by omega) (by omega) hK28 hP28 rfl hQ28 (by omega)
      refine WL_q rfl (ev_assign rfl) ?_
      refine WL_nil ?_
      refine blockE_n ?_
      refine thenE_n ?_
      refine W_region ?_
      refine WL_q rfl (ev_add rfl rfl (by omega)) ?_
      refine WL_q rfl (ev_move rfl) ?_
      refine WL_nil ?_
      refine thenE_n ?_
      have hne := bxs_take (m := m) (A := A) (S := S) (i := i) (by omega)
      exact ⟨(i + 1, a28, c28), (Subs.c rfl (Subs.c rfl (Subs.c rfl (Subs.c rfl Subs.n)))), (Subs.c (lkS rfl (by rw [← hne]; simp)) (Subs.c (lkI rfl (by omega)) Subs.n)), ⟨hRL0, ⟨by omega, hR.to hne⟩⟩, by first | omega | (dsimp only; omega)⟩
    · have hp19 := of_decide_eq_false hg19
      refine W_exit ?_
      refine thenE_x ?_
      refine thenE_x ?_
      refine blockE_hit ?_
      refine thenE_n ?_
      refine W_seq ?_
      refine W_region ?_
      refine WL_q rfl (ev_move rfl) ?_
      refine WL_q rfl (ev_assign rfl) ?_
      refine WL_q rfl (ev_assign rfl) ?_
      refine WL_nil ?_
      refine thenE_n ?_
      refine W_ret ?_
      refine ret2 rfl rfl rfl ?_
      first | (exact ⟨none, 0, [], _, rfl, .no (fun h => hp13 h), Nest.nil, ⟨by simp, by simp [totL]⟩, hE⟩) | (have hi9 : i = (bxs m A S).length := (by omega); subst hi9; rw [List.take_length] at hR; exact ⟨_, _, _, _, by rw [List.take_length], .yes ⟨hf9, hso9⟩ rfl, hR.is.mono (Nat.zero_le _) (Nat.le_refl _), (bxs_tot hf9).2, hE⟩)

set_option maxRecDepth 100000 in
theorem law_InboxesOf (nm : MA) (m : Mach) (nA : NA) (A : Net) (aS : Option Addr) (cS : Nat) (S : List Int) (w : World) (hm : IsMach 0 w.heap.size w nm m) (hsm : SmM m) (hA : IsNet 0 w.heap.size w nA A) (hsA : SmN A) (hS : Ints 0 w.heap.size w aS cS S) :
    Fn Try.prog 5 #[machV nm m, netV nA A, .slice aS S.length cS] w (fun v w' => v = VB true ∧ Ext w w') := by
  have hE := Ext.refl w
  refine Fn_of Try.func5 rfl rfl (by kernel_rfl) rfl ?_
  refine W_seq ?_
  refine W_region ?_
  refine WL_m rfl (ev_box rfl) ?_
  rintro _ w3 ⟨rfl, hN3⟩
  have hz3 := hN3.size
  replace hE := hE.trans hN3.ext
  replace hm := hm.ext hN3.ext
  replace hA := hA.ext hN3.ext
  replace hS := hS.ext hN3.ext
  have hB3 : Blk w3 _ _ [_, _, _, _, _, _, _] := hN3.blk
  refine WL_m rfl (ev_box rfl) ?_
  rintro _ w4 ⟨rfl, hN4⟩
  have hz4 := hN4.size
  replace hE := hE.trans hN4.ext
  replace hm := hm.ext hN4.ext
  replace hA := hA.ext hN4.ext
  replace hS := hS.ext hN4.ext
  replace hB3 := hB3.ext hN4.ext
  have hB4 : Blk w4 _ _ [_, _, _] := hN4.blk
  refine WL_q rfl (ev_assign rfl) ?_
  refine WL_nil ?_
  refine thenE_n ?_
  refine W_seq ?_
  refine W_seq ?_
  refine W_region ?_
  refine WL_q rfl (ev_move rfl) ?_
  refine WL_q rfl (ev_len Try.underlying24 rfl) ?_
  refine WL_q rfl (ev_gtr rfl rfl) ?_
  refine WL_nil ?_
  refine thenE_n ?_
  refine W_cond rfl (fun hg22 => ?_) (fun hg22 => ?_)
  · have hp22 := of_decide_eq_true hg22
    refine W_seq ?_
    refine W_region ?_
    refine WL_q rfl (ev_assign rfl) ?_
    refine WL_nil ?_
    refine thenE_n ?_
    refine W_ret ?_
    refine thenE_r ?_
    refine ret1 rfl rfl ?_
    first | (exact ⟨rfl, hE⟩) | (exact (tfX hg22).elim) | (exact (decF hg22).elim) | (exfalso; omega)
  · have hp22 := of_decide_eq_false hg22
    refine W_skip ?_
    refine thenE_n ?_
    refine W_seq ?_
    refine W_region ?_
    refine WL_q rfl (ev_assign rfl) ?_
    refine WL_nil ?_
    refine thenE_n ?_
    refine W_seq ?_
    refine W_region ?_
    refine WL_q rfl (ev_loads st26 sz26 rfl (cellsB hB3) rfl) ?_
    refine WL_q rfl (ev_move rfl) ?_
    refine WL_m rfl (ev_call rfl (szMachine_spec _ m _ _ hm (by omega) hsm)) ?_
    rintro _ w25 ⟨r25, rfl, hE25, hr25⟩
    have hz25 := hE25.size
    replace hE := hE.trans hE25
    replace hm := hm.ext hE25
    replace hA := hA.ext hE25
    replace hS := hS.ext hE25
    replace hB3 := hB3.ext hE25
    replace hB4 := hB4.ext hE25
    refine WL_q rfl (ev_assign rfl) ?_
    refine WL_nil ?_
    refine thenE_n ?_
    refine W_seq ?_
    refine W_seq ?_
    refine W_region ?_
    refine WL_q rfl (ev_move rfl) ?_
    refine WL_q rfl (ev_lss rfl rfl) ?_
    refine WL_nil ?_
    refine thenE_n ?_
    refine W_cond rfl (fun hg27 => ?_) (fun hg27 => ?_)
    · have hp27 := of_decide_eq_true hg27
      refine W_seq ?_
      refine W_region ?_
      refine WL_q rfl (ev_assign rfl) ?_
      refine WL_nil ?_
      refine thenE_n ?_
      refine W_ret ?_
      refine thenE_r ?_
      refine ret1 rfl rfl ?_
      first | (exact ⟨rfl, hE⟩) | (exact (tfX hg27).elim) | (exact (decF hg27).elim) | (exfalso; omega)
    · have hp27 := of_decide_eq_false hg27
      refine W_skip ?_
      refine thenE_n ?_
      refine W_seq ?_
      refine W_region ?_
      refine WL_q rfl (ev_loads st29 sz29 rfl (cellsB hB4) rfl) ?_
      refine WL_q rfl (ev_move rfl) ?_
      refine WL_m rfl (ev_call rfl (szNetwork_spec _ A _ _ hA (by omega) hsA)) ?_
      rintro _ w30 ⟨r30, rfl, hE30, hr30⟩
      have hz30 := hE30.size
      replace hE := hE.trans hE30
      replace hm := hm.ext hE30
      replace hA := hA.ext hE30
      replace hS := hS.ext hE30
      replace hB3 := hB3.ext hE30
      replace hB4 := hB4.ext hE30
      refine WL_q rfl (ev_assign rfl) ?_
      refine WL_nil ?_
      refine thenE_n ?_
      refine W_seq ?_
      refine W_seq ?_
      refine W_region ?_
      refine WL_q rfl (ev_move rfl) ?_
      refine WL_q rfl (ev_lss rfl rfl) ?_
      refine WL_nil ?_
      refine thenE_n ?_
      refine W_cond rfl (fun hg32 => ?_) (fun hg32 => ?_)
      · have hp32 := of_decide_eq_true hg32
        refine W_seq ?_
        refine W_region ?_
        refine WL_q rfl (ev_assign rfl) ?_
        refine WL_nil ?_
        refine thenE_n ?_
        refine W_ret ?_
        refine thenE_r ?_
        refine ret1 rfl rfl ?_
        first | (exact ⟨rfl, hE⟩) | (exact (tfX hg32).elim) | (exact (decF hg32).elim) | (exfalso; omega)
      · have hp32 := of_decide_eq_false hg32
        refine W_skip ?_
        refine thenE_n ?_
        refine W_seq ?_
        refine W_drawE [(0, true), (2, true), (4, true), (1, false), (3, false), (5, false), (6, false), (7, true), (8, true), (9, true), (10, true), (11, true)] mixed (by kernel_rfl) rfl (by kernel_rfl) ?_
        intro wd10 hEd10 hzd10
        replace hE := hE.trans hEd10
        replace hm := hm.ext hEd10
        replace hA := hA.ext hEd10
        replace hS := hS.ext hEd10
        replace hB3 := hB3.ext hEd10
        replace hB4 := hB4.ext hEd10
        have hDd10 := Ext.refl wd10
        refine PW_q rfl rfl (fun wq hq => ev_loads st26 sz26 rfl (cellsB (hq.blk hB3)) rfl) ?_
        refine PW_q rfl rfl (fun wq hq => ev_loads st29 sz29 rfl (cellsB (hq.blk hB4)) rfl) ?_
        refine PW_q rfl rfl (fun wq hq => ev_move rfl) ?_
        refine PW_m rfl rfl (ev_call rfl (toMachine_spec _ m _ hm (by omega) (by omega))) ?_
        rintro _ w35 ⟨h35, rfl, hF35, hE35⟩
        have hz35 := hE35.size
        replace hE := hE.trans hE35
        replace hDd10 := hDd10.trans hE35
        have hM35 := hF35.is
        refine ⟨hDd10, ?_⟩
        have hm_3 := hm.ext hDd10
        have hA_3 := hA.ext hDd10
        have hS_3 := hS.ext hDd10
        have hB3_3 := hB3.ext hDd10
        have hB4_3 := hB4.ext hDd10
        refine PW_m rfl rfl (ev_call rfl (toNetwork_spec _ A _ hA_3 (by omega) (by omega))) ?_
        rintro _ w37 ⟨h37, rfl, hF37, hE37⟩
        have hz37 := hE37.size
        replace hE := hE.trans hE37
        replace hDd10 := hDd10.trans hE37
        replace hF35 := hF35.ext hE37
        replace hM35 := hM35.ext hE37
        have hN37 := hF37.is
        refine ⟨hDd10, ?_⟩
        have hm_5 := hm.ext hDd10
        have hA_5 := hA.ext hDd10
        have hS_5 := hS.ext hDd10
        have hB3_5 := hB3.ext hDd10
        have hB4_5 := hB4.ext hDd10
        refine PW_m rfl rfl (ev_call rfl (toIntS_spec _ _ S _ hS_5 (by omega) (by omega))) ?_
        rintro _ w39 ⟨a39, rfl, hF39, hE39⟩
        have hz39 := hE39.size
        replace hE := hE.trans hE39
        replace hDd10 := hDd10.trans hE39
        replace hF35 := hF35.ext hE39
        replace hM35 := hM35.ext hE39
        replace hF37 := hF37.ext hE39
        replace hN37 := hN37.ext hE39
        have hI39 := hF39.is
        refine ⟨hDd10, ?_⟩
        have hm_6 := hm.ext hDd10
        have hA_6 := hA.ext hDd10
        have hS_6 := hS.ext hDd10
        have hB3_6 := hB3.ext hDd10
        have hB4_6 := hB4.ext hDd10
        refine PW_m rfl rfl (ev_call rfl (sInboxesOf_spec _ m _ A _ _ S _ hM35 (by omega) (by omega) hN37 (by omega) (by omega) hI39 (by omega) (by omega))) ?_
        rintro _ w40 ⟨a40, c40, y40, q40, rfl, hr40, hx40, ⟨hm40, ht40⟩, hE40⟩
        have hz40 := hE40.size
        replace hE := hE.trans hE40
        replace hDd10 := hDd10.trans hE40
        replace hF35 := hF35.ext hE40
        replace hM35 := hM35.ext hE40
        replace hF37 := hF37.ext hE40
        replace hN37 := hN37.ext hE40
        replace hF39 := hF39.ext hE40
        replace hI39 := hI39.ext hE40
        refine ⟨hDd10, ?_⟩
        refine PW_q rfl rfl (fun wq hq => ev_move rfl) ?_
        refine PW_q rfl rfl (fun wq hq => ev_extract rfl rfl) ?_
        refine PW_q rfl rfl (fun wq hq => ev_extract rfl rfl) ?_
        refine PW_q rfl rfl (fun wq hq => ev_assign rfl) ?_
        refine PW_q rfl rfl (fun wq hq => ev_assign rfl) ?_
        replace hm := hm.ext hDd10
        replace hA := hA.ext hDd10
        replace hS := hS.ext hDd10
        replace hB3 := hB3.ext hDd10
        replace hB4 := hB4.ext hDd10
        refine PW_nil ?_
        refine thenE_n ?_
        refine W_seq ?_
        refine W_region ?_
        refine WL_q rfl (ev_loads st26 sz26 rfl (cellsB hB3) rfl) ?_
        refine WL_m rfl (ev_call rfl (toMachine_spec _ m _ hm (by omega) (by omega))) ?_
        rintro _ w44 ⟨h44, rfl, hF44, hE44⟩
        have hz44 := hE44.size
        replace hE := hE.trans hE44
        replace hm := hm.ext hE44
        replace hA := hA.ext hE44
        replace hS := hS.ext hE44
        replace hB3 := hB3.ext hE44
        replace hB4 := hB4.ext hE44
        replace hF35 := hF35.ext hE44
        replace hM35 := hM35.ext hE44
        replace hF37 := hF37.ext hE44
        replace hN37 := hN37.ext hE44
        replace hF39 := hF39.ext hE44
        replace hI39 := hI39.ext hE44
        replace hx40 := hx40.ext hE44
        have hM44 := hF44.is
        refine WL_m rfl (ev_alloc zr36) ?_
        rintro _ w10 ⟨rfl, hN10⟩
        have hz10 := hN10.size
        replace hE := hE.trans hN10.ext
        replace hm := hm.ext hN10.ext
        replace hA := hA.ext hN10.ext
        replace hS := hS.ext hN10.ext
        replace hB3 := hB3.ext hN10.ext
        replace hB4 := hB4.ext hN10.ext
        replace hF35 := hF35.ext hN10.ext
        replace hM35 := hM35.ext hN10.ext
        replace hF37 := hF37.ext hN10.ext
        replace hN37 := hN37.ext hN10.ext
        replace hF39 := hF39.ext hN10.ext
        replace hI39 := hI39.ext hN10.ext
        replace hx40 := hx40.ext hN10.ext
        replace hF44 := hF44.ext hN10.ext
        replace hM44 := hM44.ext hN10.ext
        have hB10 : Blk w10 _ _ [_, _, _, _, _, _, _] := hN10.blk
        refine WL_s (ev_stores sz36 rfl rfl rfl (by simp [Value.oneCell']) hB10 (by simp)) ?_
        rintro _ w11_3 hS11_3
        have hz11_3 := hS11_3.size
        replace hE := hE.sto hS11_3 (by omega)
        replace hm := hm.sto hS11_3 (by omega)
        replace hA := hA.sto hS11_3 (by omega)
        replace hS := hS.sto hS11_3 (by omega)
        replace hB3 := hB3.sto hS11_3 (by omega)
        replace hB4 := hB4.sto hS11_3 (by omega)
        replace hF35 := hF35.sto hS11_3 (by omega)
        replace hM35 := hM35.sto hS11_3 (by omega)
        replace hF37 := hF37.sto hS11_3 (by omega)
        replace hN37 := hN37.sto hS11_3 (by omega)
        replace hF39 := hF39.sto hS11_3 (by omega)
        replace hI39 := hI39.sto hS11_3 (by omega)
        replace hx40 := hx40.sto hS11_3 (by omega)
        replace hF44 := hF44.sto hS11_3 (by omega)
        replace hM44 := hM44.sto hS11_3 (by omega)
        replace hB10 : Blk w11_3 _ _ [_, _, _, _, _, _, _] := hS11_3.blk
        refine WL_nil ?_
        refine thenE_n ?_
        refine W_seq ?_
        refine W_region ?_
        refine WL_q rfl (ev_loads st29 sz29 rfl (cellsB hB4) rfl) ?_
        refine WL_m rfl (ev_call rfl (toNetwork_spec _ A _ hA (by omega) (by omega))) ?_
        rintro _ w46 ⟨h46, rfl, hF46, hE46⟩
        have hz46 := hE46.size
        replace hE := hE.trans hE46
        replace hm := hm.ext hE46
        replace hA := hA.ext hE46
        replace hS := hS.ext hE46
        replace hB3 := hB3.ext hE46
        replace hB4 := hB4.ext hE46
        replace hF35 := hF35.ext hE46
        replace hM35 := hM35.ext hE46
        replace hF37 := hF37.ext hE46
        replace hN37 := hN37.ext hE46
        replace hF39 := hF39.ext hE46
        replace hI39 := hI39.ext hE46
        replace hx40 := hx40.ext hE46
        replace hF44 := hF44.ext hE46
        replace hM44 := hM44.ext hE46
        replace hB10 := hB10.ext hE46
        have hN46 := hF46.is
        refine WL_m rfl (ev_alloc zr40) ?_
        rintro _ w11 ⟨rfl, hN11⟩
        have hz11 := hN11.size
        replace hE := hE.trans hN11.ext
        replace hm := hm.ext hN11.ext
        replace hA := hA.ext hN11.ext
        replace hS := hS.ext hN11.ext
        replace hB3 := hB3.ext hN11.ext
        replace hB4 := hB4.ext hN11.ext
        replace hF35 := hF35.ext hN11.ext
        replace hM35 := hM35.ext hN11.ext
        replace hF37 := hF37.ext hN11.ext
        replace hN37 := hN37.ext hN11.ext
        replace hF39 := hF39.ext hN11.ext
        replace hI39 := hI39.ext hN11.ext
        replace hx40 := hx40.ext hN11.ext
        replace hF44 := hF44.ext hN11.ext
        replace hM44 := hM44.ext hN11.ext
        replace hB10 := hB10.ext hN11.ext
        replace hF46 := hF46.ext hN11.ext
        replace hN46 := hN46.ext hN11.ext
        have hB11 : Blk w11 _ _ [_, _, _] := hN11.blk
        refine WL_s (ev_stores sz40 rfl rfl rfl (by simp [Value.oneCell']) hB11 (by simp)) ?_
        rintro _ w12_3 hS12_3
        have hz12_3 := hS12_3.size
        replace hE := hE.sto hS12_3 (by omega)
        replace hm := hm.sto hS12_3 (by omega)
        replace hA := hA.sto hS12_3 (by omega)
        replace hS := hS.sto hS12_3 (by omega)
        replace hB3 := hB3.sto hS12_3 (by omega)
        replace hB4 := hB4.sto hS12_3 (by omega)
        replace hF35 := hF35.sto hS12_3 (by omega)
        replace hM35 := hM35.sto hS12_3 (by omega)
        replace hF37 := hF37.sto hS12_3 (by omega)
        replace hN37 := hN37.sto hS12_3 (by omega)
        replace hF39 := hF39.sto hS12_3 (by omega)
        replace hI39 := hI39.sto hS12_3 (by omega)
        replace hx40 := hx40.sto hS12_3 (by omega)
        replace hF44 := hF44.sto hS12_3 (by omega)
        replace hM44 := hM44.sto hS12_3 (by omega)
        replace hB10 := hB10.sto hS12_3 (by omega)
        replace hF46 := hF46.sto hS12_3 (by omega)
        replace hN46 := hN46.sto hS12_3 (by omega)
        replace hB11 : Blk w12_3 _ _ [_, _, _] := hS12_3.blk
        refine WL_nil ?_
        refine thenE_n ?_
        refine W_seq ?_
        refine W_region ?_
        refine WL_q rfl (ev_move rfl) ?_
        refine WL_m rfl (ev_call rfl (toIntS_spec _ _ S _ hS (by omega) (by omega))) ?_
        rintro _ w48 ⟨a48, rfl, hF48, hE48⟩
        have hz48 := hE48.size
        replace hE := hE.trans hE48
        replace hm := hm.ext hE48
        replace hA := hA.ext hE48
        replace hS := hS.ext hE48
        replace hB3 := hB3.ext hE48
        replace hB4 := hB4.ext hE48
        replace hF35 := hF35.ext hE48
        replace hM35 := hM35.ext hE48
        replace hF37 := hF37.ext hE48
        replace hN37 := hN37.ext hE48
        replace hF39 := hF39.ext hE48
        replace hI39 := hI39.ext hE48
        replace hx40 := hx40.ext hE48
        replace hF44 := hF44.ext hE48
        replace hM44 := hM44.ext hE48
        replace hB10 := hB10.ext hE48
        replace hF46 := hF46.ext hE48
        replace hN46 := hN46.ext hE48
        replace hB11 := hB11.ext hE48
        have hI48 := hF48.is
        refine WL_q rfl (ev_assign rfl) ?_
        refine WL_nil ?_
        refine thenE_n ?_
        refine W_seq ?_
        refine W_region ?_
        refine WL_q rfl (ev_loads st36 sz36 rfl (cellsB hB10) rfl) ?_
        refine WL_q rfl (ev_loads st40 sz40 rfl (cellsB hB11) rfl) ?_
        refine WL_q rfl (ev_move rfl) ?_
        refine WL_m rfl (ev_call rfl (InboxesOf_spec _ m _ A _ _ S _ hM44 (by omega) (by omega) hN46 (by omega) (by omega) hI48 (by omega) (by omega))) ?_
        rintro _ w53 ⟨a53, c53, y53, q53, rfl, hr53, hO53, ⟨hl53, hm53, ht53⟩, hE53⟩
        have hz53 := hE53.size
        replace hE := hE.trans hE53
        replace hm := hm.ext hE53
        replace hA := hA.ext hE53
        replace hS := hS.ext hE53
        replace hB3 := hB3.ext hE53
        replace hB4 := hB4.ext hE53
        replace hF35 := hF35.ext hE53
        replace hM35 := hM35.ext hE53
        replace hF37 := hF37.ext hE53
        replace hN37 := hN37.ext hE53
        replace hF39 := hF39.ext hE53
        replace hI39 := hI39.ext hE53
        replace hx40 := hx40.ext hE53
        replace hF44 := hF44.ext hE53
        replace hM44 := hM44.ext hE53
        replace hB10 := hB10.ext hE53
        replace hF46 := hF46.ext hE53
        replace hN46 := hN46.ext hE53
        replace hB11 := hB11.ext hE53
        replace hF48 := hF48.ext hE53
        replace hI48 := hI48.ext hE53
        refine WL_q rfl (ev_move rfl) ?_
        refine WL_q rfl (ev_extract rfl rfl) ?_
        refine WL_q rfl (ev_extract rfl rfl) ?_
        refine WL_q rfl (ev_assign rfl) ?_
        refine WL_q rfl (ev_assign rfl) ?_
        refine WL_nil ?_
        refine thenE_n ?_
        refine W_seq ?_
        refine W_seq ?_
        refine W_region ?_
        refine WL_q rfl (ev_move rfl) ?_
        refine WL_q rfl (ev_move rfl) ?_
        refine WL_m rfl (ev_call rfl (eqIntSS_spec _ _ _ _ y53 y40 _ (hO53.is) hx40 (by omega))) ?_
        rintro _ w58 ⟨rfl, hE58⟩
        have hz58 := hE58.size
        replace hE := hE.trans hE58
        replace hm := hm.ext hE58
        replace hA := hA.ext hE58
        replace hS := hS.ext hE58
        replace hB3 := hB3.ext hE58
        replace hB4 := hB4.ext hE58
        replace hF35 := hF35.ext hE58
        replace hM35 := hM35.ext hE58
        replace hF37 := hF37.ext hE58
        replace hN37 := hN37.ext hE58
        replace hF39 := hF39.ext hE58
        replace hI39 := hI39.ext hE58
        replace hx40 := hx40.ext hE58
        replace hF44 := hF44.ext hE58
        replace hM44 := hM44.ext hE58
        replace hB10 := hB10.ext hE58
        replace hF46 := hF46.ext hE58
        replace hN46 := hN46.ext hE58
        replace hB11 := hB11.ext hE58
        replace hF48 := hF48.ext hE58
        replace hI48 := hI48.ext hE58
        replace hO53 := hO53.ext hE58
        refine WL_q rfl (ev_not rfl) ?_
        refine WL_q rfl (ev_move rfl) ?_
        refine WL_splitv (t := 60) rfl (fun hg59 => ?_) (fun hg59 => ?_)
        · have hg58 := not_true hg59
          refine WL_no rfl rfl hg59 rfl ?_
          refine WL_no rfl rfl hg59 rfl ?_
          refine WL_no rfl rfl hg59 rfl ?_
          refine WL_q rfl (ev_pick_t rfl hg59 rfl) ?_
          refine WL_nil ?_
          refine thenE_n ?_
          refine W_cond_t rfl ?_
          refine W_seq ?_
          refine W_region ?_
          refine WL_q rfl (ev_assign rfl) ?_
          refine WL_nil ?_
          refine thenE_n ?_
          refine W_ret ?_
          refine thenE_r ?_
          refine ret1 rfl rfl ?_
          first | (exact ⟨rfl, hE⟩) | (exact (bneE hg58 (hr53.det1 hr40)).elim) | (exact absurd (hr53.det1 hr40) hp58) | (exact absurd (hr53.det1 hr40) (of_decide_eq_false hg58)) | (exact (bneE hg58 (hr53.det2 hr40)).elim) | (exact absurd (hr53.det2 hr40) hp58) | (exact absurd (hr53.det2 hr40) (of_decide_eq_false hg58)) | (exact (bneE hg58 (hr53.det3 hr40)).elim) | (exact absurd (hr53.det3 hr40) hp58) | (exact absurd (hr53.det3 hr40) (of_decide_eq_false hg58)) | (exact (tfX hg58).elim) | (exact (decF hg58).elim) | (exfalso; omega)
        · have hg58 := not_false hg59
          refine WL_qg rfl rfl hg59 rfl (ev_move rfl) ?_
          refine WL_qg rfl rfl hg59 rfl (ev_move rfl) ?_
          refine WL_qg rfl rfl hg59 rfl (ev_neq_b Try.underlying4 rfl rfl) ?_
          refine WL_q rfl (ev_pick_f rfl hg59 rfl) ?_
          refine WL_nil ?_
          refine thenE_n ?_
          refine W_cond rfl (fun hg63 => ?_) (fun hg63 => ?_)
          · refine W_seq ?_
            refine W_region ?_
            refine WL_q rfl (ev_assign rfl) ?_
            refine WL_nil ?_
            refine thenE_n ?_
            refine W_ret ?_
            refine thenE_r ?_
            refine ret1 rfl rfl ?_
            first | (exact ⟨rfl, hE⟩) | (exact (bneE hg63 (hr53.det1 hr40)).elim) | (exact absurd (hr53.det1 hr40) hp63) | (exact absurd (hr53.det1 hr40) (of_decide_eq_false hg63)) | (exact (bneE hg63 (hr53.det2 hr40)).elim) | (exact absurd (hr53.det2 hr40) hp63) | (exact absurd (hr53.det2 hr40) (of_decide_eq_false hg63)) | (exact (bneE hg63 (hr53.det3 hr40)).elim) | (exact absurd (hr53.det3 hr40) hp63) | (exact absurd (hr53.det3 hr40) (of_decide_eq_false hg63)) | (exact (tfX hg63).elim) | (exact (decF hg63).elim) | (exfalso; omega)
          · refine W_skip ?_
            refine thenE_n ?_
            refine W_seq ?_
            refine W_seq ?_
            refine W_drawE [(0, true), (1, true), (2, false), (3, false), (4, true)] mixed (by kernel_rfl) rfl (by kernel_rfl) ?_
            intro wd17 hEd17 hzd17
            replace hE := hE.trans hEd17
            replace hm := hm.ext hEd17
            replace hA := hA.ext hEd17
            replace hS := hS.ext hEd17
            replace hB3 := hB3.ext hEd17
            replace hB4 := hB4.ext hEd17
            replace hF35 := hF35.ext hEd17
            replace hM35 := hM35.ext hEd17
            replace hF37 := hF37.ext hEd17
            replace hN37 := hN37.ext hEd17
            replace hF39 := hF39.ext hEd17
            replace hI39 := hI39.ext hEd17
            replace hx40 := hx40.ext hEd17
            replace hF44 := hF44.ext hEd17
            replace hM44 := hM44.ext hEd17
            replace hB10 := hB10.ext hEd17
            replace hF46 := hF46.ext hEd17
            replace hN46 := hN46.ext hEd17
            replace hB11 := hB11.ext hEd17
            replace hF48 := hF48.ext hEd17
            replace hI48 := hI48.ext hEd17
            replace hO53 := hO53.ext hEd17
            have hDd17 := Ext.refl wd17
            refine PW_q rfl rfl (fun wq hq => ev_loads st36 sz36 rfl (cellsB (hq.blk hB10)) rfl) ?_
            refine PW_q rfl rfl (fun wq hq => ev_loads st26 sz26 rfl (cellsB (hq.blk hB3)) rfl) ?_
            refine PW_m rfl rfl (ev_call rfl (toMachine_spec _ m _ hm (by omega) (by omega))) ?_
            rintro _ w67 ⟨h67, rfl, hF67, hE67⟩
            have hz67 := hE67.size
            replace hE := hE.trans hE67
            replace hDd17 := hDd17.trans hE67
            have hM67 := hF67.is
            refine ⟨hDd17, ?_⟩
            have hm_3 := hm.ext hDd17
            have hA_3 := hA.ext hDd17
            have hS_3 := hS.ext hDd17
            have hB3_3 := hB3.ext hDd17
            have hB4_3 := hB4.ext hDd17
            have hF35_3 := hF35.ext hDd17
            have hM35_3 := hM35.ext hDd17
            have hF37_3 := hF37.ext hDd17
            have hN37_3 := hN37.ext hDd17
            have hF39_3 := hF39.ext hDd17
            have hI39_3 := hI39.ext hDd17
            have hx40_3 := hx40.ext hDd17
            have hF44_3 := hF44.ext hDd17
            have hM44_3 := hM44.ext hDd17
            have hB10_3 := hB10.ext hDd17
            have hF46_3 := hF46.ext hDd17
            have hN46_3 := hN46.ext hDd17
            have hB11_3 := hB11.ext hDd17
            have hF48_3 := hF48.ext hDd17
            have hI48_3 := hI48.ext hDd17
            have hO53_3 := hO53.ext hDd17
            refine PW_m rfl rfl (ev_call rfl (eqMachine_spec _ _ m _ hM44_3 hM67 (by omega))) ?_
            rintro _ w68 ⟨rfl, hE68⟩
            have hz68 := hE68.size
            replace hE := hE.trans hE68
            replace hDd17 := hDd17.trans hE68
            replace hF67 := hF67.ext hE68
            replace hM67 := hM67.ext hE68
            refine ⟨hDd17, ?_⟩
            refine PW_q rfl rfl (fun wq hq => ev_not rfl) ?_
            replace hm := hm.ext hDd17
            replace hA := hA.ext hDd17
            replace hS := hS.ext hDd17
            replace hB3 := hB3.ext hDd17
            replace hB4 := hB4.ext hDd17
            replace hF35 := hF35.ext hDd17
            replace hM35 := hM35.ext hDd17
            replace hF37 := hF37.ext hDd17
            replace hN37 := hN37.ext hDd17
            replace hF39 := hF39.ext hDd17
            replace hI39 := hI39.ext hDd17
            replace hx40 := hx40.ext hDd17
            replace hF44 := hF44.ext hDd17
            replace hM44 := hM44.ext hDd17
            replace hB10 := hB10.ext hDd17
            replace hF46 := hF46.ext hDd17
            replace hN46 := hN46.ext hDd17
            replace hB11 := hB11.ext hDd17
            replace hF48 := hF48.ext hDd17
            replace hI48 := hI48.ext hDd17
            replace hO53 := hO53.ext hDd17
            refine PW_nil ?_
            refine thenE_n ?_
            refine W_cond rfl (fun hg69 => ?_) (fun hg69 => ?_)
            · have hg68 := not_true hg69
              refine W_seq ?_
              refine W_region ?_
              refine WL_q rfl (ev_assign rfl) ?_
              refine WL_nil ?_
              refine thenE_n ?_
              refine W_ret ?_
              refine thenE_r ?_
              refine ret1 rfl rfl ?_
              first | (exact ⟨rfl, hE⟩) | (exact (bneE hg68 (hr53.det1 hr40)).elim) | (exact absurd (hr53.det1 hr40) hp68) | (exact absurd (hr53.det1 hr40) (of_decide_eq_false hg68)) | (exact (bneE hg68 (hr53.det2 hr40)).elim) | (exact absurd (hr53.det2 hr40) hp68) | (exact absurd (hr53.det2 hr40) (of_decide_eq_false hg68)) | (exact (bneE hg68 (hr53.det3 hr40)).elim) | (exact absurd (hr53.det3 hr40) hp68) | (exact absurd (hr53.det3 hr40) (of_decide_eq_false hg68)) | (exact (tfX hg68).elim) | (exact (decF hg68).elim) | (exfalso; omega)
            · have hg68 := not_false hg69
              refine W_skip ?_
              refine thenE_n ?_
              refine W_seq ?_
              refine W_seq ?_
              refine W_drawE [(0, true), (1, true), (2, false), (3, false), (4, true)] mixed (by kernel_rfl) rfl (by kernel_rfl) ?_
              intro wd19 hEd19 hzd19
              replace hE := hE.trans hEd19
              replace hm := hm.ext hEd19
              replace hA := hA.ext hEd19
              replace hS := hS.ext hEd19
              replace hB3 := hB3.ext hEd19
              replace hB4 := hB4.ext hEd19
              replace hF35 := hF35.ext hEd19
              replace hM35 := hM35.ext hEd19
              replace hF37 := hF37.ext hEd19
              replace hN37 := hN37.ext hEd19
              replace hF39 := hF39.ext hEd19
              replace hI39 := hI39.ext hEd19
              replace hx40 := hx40.ext hEd19
              replace hF44 := hF44.ext hEd19
              replace hM44 := hM44.ext hEd19
              replace hB10 := hB10.ext hEd19
              replace hF46 := hF46.ext hEd19
              replace hN46 := hN46.ext hEd19
              replace hB11 := hB11.ext hEd19
              replace hF48 := hF48.ext hEd19
              replace hI48 := hI48.ext hEd19
              replace hO53 := hO53.ext hEd19
              replace hF67 := hF67.ext hEd19
              replace hM67 := hM67.ext hEd19
              have hDd19 := Ext.refl wd19
              refine PW_q rfl rfl (fun wq hq => ev_loads st40 sz40 rfl (cellsB (hq.blk hB11)) rfl) ?_
              refine PW_q rfl rfl (fun wq hq => ev_loads st29 sz29 rfl (cellsB (hq.blk hB4)) rfl) ?_
              refine PW_m rfl rfl (ev_call rfl (toNetwork_spec _ A _ hA (by omega) (by omega))) ?_
              rintro _ w72 ⟨h72, rfl, hF72, hE72⟩
              have hz72 := hE72.size
              replace hE := hE.trans hE72
              replace hDd19 := hDd19.trans hE72
              have hN72 := hF72.is
              refine ⟨hDd19, ?_⟩
              have hm_3 := hm.ext hDd19
              have hA_3 := hA.ext hDd19
              have hS_3 := hS.ext hDd19
              have hB3_3 := hB3.ext hDd19
              have hB4_3 := hB4.ext hDd19
              have hF35_3 := hF35.ext hDd19
              have hM35_3 := hM35.ext hDd19
              have hF37_3 := hF37.ext hDd19
              have hN37_3 := hN37.ext hDd19
              have hF39_3 := hF39.ext hDd19
              have hI39_3 := hI39.ext hDd19
              have hx40_3 := hx40.ext hDd19
              have hF44_3 := hF44.ext hDd19
              have hM44_3 := hM44.ext hDd19
              have hB10_3 := hB10.ext hDd19
              have hF46_3 := hF46.ext hDd19
              have hN46_3 := hN46.ext hDd19
              have hB11_3 := hB11.ext hDd19
              have hF48_3 := hF48.ext hDd19
              have hI48_3 := hI48.ext hDd19
              have hO53_3 := hO53.ext hDd19
              have hF67_3 := hF67.ext hDd19
              have hM67_3 := hM67.ext hDd19
              refine PW_m rfl rfl (ev_call rfl (eqNetwork_spec _ _ A _ hN46_3 hN72 (by omega))) ?_
              rintro _ w73 ⟨rfl, hE73⟩
              have hz73 := hE73.size
              replace hE := hE.trans hE73
              replace hDd19 := hDd19.trans hE73
              replace hF72 := hF72.ext hE73
              replace hN72 := hN72.ext hE73
              refine ⟨hDd19, ?_⟩
              refine PW_q rfl rfl (fun wq hq => ev_not rfl) ?_
              replace hm := hm.ext hDd19
              replace hA := hA.ext hDd19
              replace hS := hS.ext hDd19
              replace hB3 := hB3.ext hDd19
              replace hB4 := hB4.ext hDd19
              replace hF35 := hF35.ext hDd19
              replace hM35 := hM35.ext hDd19
              replace hF37 := hF37.ext hDd19
              replace hN37 := hN37.ext hDd19
              replace hF39 := hF39.ext hDd19
              replace hI39 := hI39.ext hDd19
              replace hx40 := hx40.ext hDd19
              replace hF44 := hF44.ext hDd19
              replace hM44 := hM44.ext hDd19
              replace hB10 := hB10.ext hDd19
              replace hF46 := hF46.ext hDd19
              replace hN46 := hN46.ext hDd19
              replace hB11 := hB11.ext hDd19
              replace hF48 := hF48.ext hDd19
              replace hI48 := hI48.ext hDd19
              replace hO53 := hO53.ext hDd19
              replace hF67 := hF67.ext hDd19
              replace hM67 := hM67.ext hDd19
              refine PW_nil ?_
              refine thenE_n ?_
              refine W_cond rfl (fun hg74 => ?_) (fun hg74 => ?_)
              · have hg73 := not_true hg74
                refine W_seq ?_
                refine W_region ?_
                refine WL_q rfl (ev_assign rfl) ?_
                refine WL_nil ?_
                refine thenE_n ?_
                refine W_ret ?_
                refine thenE_r ?_
                refine ret1 rfl rfl ?_
                first | (exact ⟨rfl, hE⟩) | (exact (bneE hg73 (hr53.det1 hr40)).elim) | (exact absurd (hr53.det1 hr40) hp73) | (exact absurd (hr53.det1 hr40) (of_decide_eq_false hg73)) | (exact (bneE hg73 (hr53.det2 hr40)).elim) | (exact absurd (hr53.det2 hr40) hp73) | (exact absurd (hr53.det2 hr40) (of_decide_eq_false hg73)) | (exact (bneE hg73 (hr53.det3 hr40)).elim) | (exact absurd (hr53.det3 hr40) hp73) | (exact absurd (hr53.det3 hr40) (of_decide_eq_false hg73)) | (exact (tfX hg73).elim) | (exact (decF hg73).elim) | (exfalso; omega)
              · have hg73 := not_false hg74
                refine W_skip ?_
                refine thenE_n ?_
                refine W_seq ?_
                refine W_seq ?_
                refine W_region ?_
                refine WL_q rfl (ev_move rfl) ?_
                refine WL_q rfl (ev_move rfl) ?_
                refine WL_m rfl (ev_call rfl (toIntS_spec _ _ S _ hS (by omega) (by omega))) ?_
                rintro _ w77 ⟨a77, rfl, hF77, hE77⟩
                have hz77 := hE77.size
                replace hE := hE.trans hE77
                replace hm := hm.ext hE77
                replace hA := hA.ext hE77
                replace hS := hS.ext hE77
                replace hB3 := hB3.ext hE77
                replace hB4 := hB4.ext hE77
                replace hF35 := hF35.ext hE77
                replace hM35 := hM35.ext hE77
                replace hF37 := hF37.ext hE77
                replace hN37 := hN37.ext hE77
                replace hF39 := hF39.ext hE77
                replace hI39 := hI39.ext hE77
                replace hx40 := hx40.ext hE77
                replace hF44 := hF44.ext hE77
                replace hM44 := hM44.ext hE77
                replace hB10 := hB10.ext hE77
                replace hF46 := hF46.ext hE77
                replace hN46 := hN46.ext hE77
                replace hB11 := hB11.ext hE77
                replace hF48 := hF48.ext hE77
                replace hI48 := hI48.ext hE77
                replace hO53 := hO53.ext hE77
                replace hF67 := hF67.ext hE77
                replace hM67 := hM67.ext hE77
                replace hF72 := hF72.ext hE77
                replace hN72 := hN72.ext hE77
                have hI77 := hF77.is
                refine WL_m rfl (ev_call rfl (eqIntS_spec _ _ _ _ S S _ hI48 hI77 (by omega))) ?_
                rintro _ w78 ⟨rfl, hE78⟩
                have hz78 := hE78.size
                replace hE := hE.trans hE78
                replace hm := hm.ext hE78
                replace hA := hA.ext hE78
                replace hS := hS.ext hE78
                replace hB3 := hB3.ext hE78
                replace hB4 := hB4.ext hE78
                replace hF35 := hF35.ext hE78
                replace hM35 := hM35.ext hE78
                replace hF37 := hF37.ext hE78
                replace hN37 := hN37.ext hE78
                replace hF39 := hF39.ext hE78
                replace hI39 := hI39.ext hE78
                replace hx40 := hx40.ext hE78
                replace hF44 := hF44.ext hE78
                replace hM44 := hM44.ext hE78
                replace hB10 := hB10.ext hE78
                replace hF46 := hF46.ext hE78
                replace hN46 := hN46.ext hE78
                replace hB11 := hB11.ext hE78
                replace hF48 := hF48.ext hE78
                replace hI48 := hI48.ext hE78
                replace hO53 := hO53.ext hE78
                replace hF67 := hF67.ext hE78
                replace hM67 := hM67.ext hE78
                replace hF72 := hF72.ext hE78
                replace hN72 := hN72.ext hE78
                replace hF77 := hF77.ext hE78
                replace hI77 := hI77.ext hE78
                refine WL_q rfl (ev_not rfl) ?_
                refine WL_nil ?_
                refine thenE_n ?_
                refine W_cond rfl (fun hg79 => ?_) (fun hg79 => ?_)
                · have hg78 := not_true hg79
                  refine W_seq ?_
                  refine W_region ?_
                  refine WL_q rfl (ev_assign rfl) ?_
                  refine WL_nil ?_
                  refine thenE_n ?_
                  refine W_ret ?_
                  refine thenE_r ?_
                  refine ret1 rfl rfl ?_
                  first | (exact ⟨rfl, hE⟩) | (exact (bneE hg78 (hr53.det1 hr40)).elim) | (exact absurd (hr53.det1 hr40) hp78) | (exact absurd (hr53.det1 hr40) (of_decide_eq_false hg78)) | (exact (bneE hg78 (hr53.det2 hr40)).elim) | (exact absurd (hr53.det2 hr40) hp78) | (exact absurd (hr53.det2 hr40) (of_decide_eq_false hg78)) | (exact (bneE hg78 (hr53.det3 hr40)).elim) | (exact absurd (hr53.det3 hr40) hp78) | (exact absurd (hr53.det3 hr40) (of_decide_eq_false hg78)) | (exact (tfX hg78).elim) | (exact (decF hg78).elim) | (exfalso; omega)
                · have hg78 := not_false hg79
                  refine W_skip ?_
                  refine thenE_n ?_
                  refine W_seq ?_
                  refine W_region ?_
                  refine WL_q rfl (ev_assign rfl) ?_
                  refine WL_nil ?_
                  refine thenE_n ?_
                  refine W_seq ?_
                  refine W_region ?_
                  refine WL_q rfl (ev_loads st36 sz36 rfl (cellsB hB10) rfl) ?_
                  refine WL_q rfl (ev_move rfl) ?_
                  refine WL_m rfl (ev_call rfl (markMachine_spec _ m _ _ hF44 (by omega) (by omega) (by omega))) ?_
                  rintro _ w82 ⟨r82, rfl, hr82, hK82⟩
                  have hz82 := hK82.size
                  replace hE := hE.mrk hK82 (by omega)
                  replace hm := hm.mrk hK82 (by omega)
                  replace hA := hA.mrk hK82 (by omega)
                  replace hS := hS.mrk hK82 (by omega)
                  replace hB3 := hB3.mrk hK82 (by omega)
                  replace hB4 := hB4.mrk hK82 (by omega)
                  replace hF35 := hF35.mrk hK82 (by omega)
                  replace hM35 := hM35.mrk hK82 (by omega)
                  replace hF37 := hF37.mrk hK82 (by omega)
                  replace hN37 := hN37.mrk hK82 (by omega)
                  replace hF39 := hF39.mrk hK82 (by omega)
                  replace hI39 := hI39.mrk hK82 (by omega)
                  replace hx40 := hx40.mrk hK82 (by omega)
                  replace hB10 := hB10.mrk hK82 (by omega)
                  replace hF46 := hF46.mrk hK82 (by omega)
                  replace hN46 := hN46.mrk hK82 (by omega)
                  replace hB11 := hB11.mrk hK82 (by omega)
                  replace hF48 := hF48.mrk hK82 (by omega)
                  replace hI48 := hI48.mrk hK82 (by omega)
                  replace hO53 := hO53.mrk hK82 (by omega)
                  replace hF67 := hF67.mrk hK82 (by omega)
                  replace hM67 := hM67.mrk hK82 (by omega)
                  replace hF72 := hF72.mrk hK82 (by omega)
                  replace hN72 := hN72.mrk hK82 (by omega)
                  replace hF77 := hF77.mrk hK82 (by omega)
                  replace hI77 := hI77.mrk hK82 (by omega)
                  refine WL_q rfl (ev_assign rfl) ?_
                  refine WL_nil ?_
                  refine thenE_n ?_
                  refine W_seq ?_
                  refine W_region ?_
                  refine WL_q rfl (ev_loads st40 sz40 rfl (cellsB hB11) rfl) ?_
                  refine WL_q rfl (ev_move rfl) ?_
                  refine WL_m rfl (ev_call rfl (markNetwork_spec _ A _ _ hF46 (by omega) (by omega) (by omega))) ?_
                  rintro _ w85 ⟨r85, rfl, hr85, hK85⟩
                  have hz85 := hK85.size
                  replace hE := hE.mrk hK85 (by omega)
                  replace hm := hm.mrk hK85 (by omega)
                  replace hA := hA.mrk hK85 (by omega)
                  replace hS := hS.mrk hK85 (by omega)
                  replace hB3 := hB3.mrk hK85 (by omega)
                  replace hB4 := hB4.mrk hK85 (by omega)
                  replace hF35 := hF35.mrk hK85 (by omega)
                  replace hM35 := hM35.mrk hK85 (by omega)
                  replace hF37 := hF37.mrk hK85 (by omega)
                  replace hN37 := hN37.mrk hK85 (by omega)
                  replace hF39 := hF39.mrk hK85 (by omega)
                  replace hI39 := hI39.mrk hK85 (by omega)
                  replace hx40 := hx40.mrk hK85 (by omega)
                  replace hB10 := hB10.mrk hK85 (by omega)
                  replace hB11 := hB11.mrk hK85 (by omega)
                  replace hF48 := hF48.mrk hK85 (by omega)
                  replace hI48 := hI48.mrk hK85 (by omega)
                  replace hO53 := hO53.mrk hK85 (by omega)
                  replace hF67 := hF67.mrk hK85 (by omega)
                  replace hM67 := hM67.mrk hK85 (by omega)
                  replace hF72 := hF72.mrk hK85 (by omega)
                  replace hN72 := hN72.mrk hK85 (by omega)
                  replace hF77 := hF77.mrk hK85 (by omega)
                  replace hI77 := hI77.mrk hK85 (by omega)
                  refine WL_q rfl (ev_assign rfl) ?_
                  refine WL_nil ?_
                  refine thenE_n ?_
                  refine W_seq ?_
                  refine W_region ?_
                  refine WL_q rfl (ev_move rfl) ?_
                  refine WL_q rfl (ev_move rfl) ?_
                  refine WL_m rfl (ev_call rfl (markIntS_arg hF48 (by omega) (by omega))) ?_
                  rintro _ w88 ⟨rfl, hK88⟩
                  have hz88 := hK88.size
                  replace hE := hE.mrk hK88 (by omega)
                  replace hm := hm.mrk hK88 (by omega)
                  replace hA := hA.mrk hK88 (by omega)
                  replace hS := hS.mrk hK88 (by omega)
                  replace hB3 := hB3.mrk hK88 (by omega)
                  replace hB4 := hB4.mrk hK88 (by omega)
                  replace hF35 := hF35.mrk hK88 (by omega)
                  replace hM35 := hM35.mrk hK88 (by omega)
                  replace hF37 := hF37.mrk hK88 (by omega)
                  replace hN37 := hN37.mrk hK88 (by omega)
                  replace hF39 := hF39.mrk hK88 (by omega)
                  replace hI39 := hI39.mrk hK88 (by omega)
                  replace hx40 := hx40.mrk hK88 (by omega)
                  replace hB10 := hB10.mrk hK88 (by omega)
                  replace hB11 := hB11.mrk hK88 (by omega)
                  replace hO53 := hO53.mrk hK88 (by omega)
                  replace hF67 := hF67.mrk hK88 (by omega)
                  replace hM67 := hM67.mrk hK88 (by omega)
                  replace hF72 := hF72.mrk hK88 (by omega)
                  replace hN72 := hN72.mrk hK88 (by omega)
                  replace hF77 := hF77.mrk hK88 (by omega)
                  replace hI77 := hI77.mrk hK88 (by omega)
                  refine WL_q rfl (ev_assign rfl) ?_
                  refine WL_nil ?_
                  refine thenE_n ?_
                  refine W_seq ?_
                  refine W_seq ?_
                  refine W_region ?_
                  refine WL_q rfl (ev_move rfl) ?_
                  refine WL_q rfl (ev_lss rfl rfl) ?_
                  refine WL_q rfl (ev_move rfl) ?_
                  refine WL_splitv (t := 91) rfl (fun hg90 => ?_) (fun hg90 => ?_)
                  · have hp90 := of_decide_eq_true hg90
                    refine WL_no rfl rfl hg90 rfl ?_
                    refine WL_no rfl rfl hg90 rfl ?_
                    refine WL_no rfl rfl hg90 rfl ?_
                    refine WL_no rfl rfl hg90 rfl ?_
                    refine WL_q rfl (ev_pick_t rfl hg90 rfl) ?_
                    refine WL_q rfl (ev_move rfl) ?_
                    refine WL_no rfl rfl rfl rfl ?_
                    refine WL_no rfl rfl rfl rfl ?_
                    refine WL_no rfl rfl rfl rfl ?_
                    refine WL_q rfl (ev_pick_t rfl rfl rfl) ?_
                    refine WL_nil ?_
                    refine thenE_n ?_
                    refine W_cond_t rfl ?_
                    refine W_seq ?_
                    refine W_region ?_
                    refine WL_q rfl (ev_assign rfl) ?_
                    refine WL_nil ?_
                    refine thenE_n ?_
                    refine W_ret ?_
                    refine thenE_r ?_
                    refine ret1 rfl rfl ?_
                    first | (exact ⟨rfl, hE⟩) | (exact (bneE hg90 (hr53.det1 hr40)).elim) | (exact absurd (hr53.det1 hr40) hp90) | (exact absurd (hr53.det1 hr40) (of_decide_eq_false hg90)) | (exact (bneE hg90 (hr53.det2 hr40)).elim) | (exact absurd (hr53.det2 hr40) hp90) | (exact absurd (hr53.det2 hr40) (of_decide_eq_false hg90)) | (exact (bneE hg90 (hr53.det3 hr40)).elim) | (exact absurd (hr53.det3 hr40) hp90) | (exact absurd (hr53.det3 hr40) (of_decide_eq_false hg90)) | (exact (tfX hg90).elim) | (exact (decF hg90).elim) | (exfalso; omega)
                  · have hp90 := of_decide_eq_false hg90
                    refine WL_qg rfl rfl hg90 rfl (ev_move rfl) ?_
                    refine WL_qg rfl rfl hg90 rfl (ev_move rfl) ?_
                    refine WL_mg rfl rfl hg90 rfl (ev_call rfl (eqIntSS_spec _ _ _ _ y53 y40 _ (hO53.is) hx40 (by omega))) ?_
                    rintro _ w94 ⟨rfl, hE94⟩
                    have hz94 := hE94.size
                    replace hE := hE.trans hE94
                    replace hm := hm.ext hE94
                    replace hA := hA.ext hE94
                    replace hS := hS.ext hE94
                    replace hB3 := hB3.ext hE94
                    replace hB4 := hB4.ext hE94
                    replace hF35 := hF35.ext hE94
                    replace hM35 := hM35.ext hE94
                    replace hF37 := hF37.ext hE94
                    replace hN37 := hN37.ext hE94
                    replace hF39 := hF39.ext hE94
                    replace hI39 := hI39.ext hE94
                    replace hx40 := hx40.ext hE94
                    replace hB10 := hB10.ext hE94
                    replace hB11 := hB11.ext hE94
                    replace hO53 := hO53.ext hE94
                    replace hF67 := hF67.ext hE94
                    replace hM67 := hM67.ext hE94
                    replace hF72 := hF72.ext hE94
                    replace hN72 := hN72.ext hE94
                    replace hF77 := hF77.ext hE94
                    replace hI77 := hI77.ext hE94
                    refine WL_qg rfl rfl hg90 rfl (ev_not rfl) ?_
                    refine WL_q rfl (ev_pick_f rfl hg90 rfl) ?_
                    refine WL_q rfl (ev_move rfl) ?_
                    refine WL_splitv (t := 97) rfl (fun hg95 => ?_) (fun hg95 => ?_)
                    · have hg94 := not_true hg95
                      refine WL_no rfl rfl hg95 rfl ?_
                      refine WL_no rfl rfl hg95 rfl ?_
                      refine WL_no rfl rfl hg95 rfl ?_
                      refine WL_q rfl (ev_pick_t rfl hg95 rfl) ?_
                      refine WL_nil ?_
                      refine thenE_n ?_
                      refine W_cond_t rfl ?_
                      refine W_seq ?_
                      refine W_region ?_
                      refine WL_q rfl (ev_assign rfl) ?_
                      refine WL_nil ?_
                      refine thenE_n ?_
                      refine W_ret ?_
                      refine thenE_r ?_
                      refine ret1 rfl rfl ?_
                      first | (exact ⟨rfl, hE⟩) | (exact (bneE hg94 (hr53.det1 hr40)).elim) | (exact absurd (hr53.det1 hr40) hp94) | (exact absurd (hr53.det1 hr40) (of_decide_eq_false hg94)) | (exact (bneE hg94 (hr53.det2 hr40)).elim) | (exact absurd (hr53.det2 hr40) hp94) | (exact absurd (hr53.det2 hr40) (of_decide_eq_false hg94)) | (exact (bneE hg94 (hr53.det3 hr40)).elim) | (exact absurd (hr53.det3 hr40) hp94) | (exact absurd (hr53.det3 hr40) (of_decide_eq_false hg94)) | (exact (tfX hg94).elim) | (exact (decF hg94).elim) | (exfalso; omega)
                    · have hg94 := not_false hg95
                      refine WL_qg rfl rfl hg95 rfl (ev_move rfl) ?_
                      refine WL_qg rfl rfl hg95 rfl (ev_move rfl) ?_
                      refine WL_qg rfl rfl hg95 rfl (ev_neq_b Try.underlying4 rfl rfl) ?_
                      refine WL_q rfl (ev_pick_f rfl hg95 rfl) ?_
                      refine WL_nil ?_
                      refine thenE_n ?_
                      refine W_cond rfl (fun hg100 => ?_) (fun hg100 => ?_)
                      · refine W_seq ?_
                        refine W_region ?_
                        refine WL_q rfl (ev_assign rfl) ?_
                        refine WL_nil ?_
                        refine thenE_n ?_
                        refine W_ret ?_
                        refine thenE_r ?_
                        refine ret1 rfl rfl ?_
                        first | (exact ⟨rfl, hE⟩) | (exact (bneE hg100 (hr53.det1 hr40)).elim) | (exact absurd (hr53.det1 hr40) hp100) | (exact absurd (hr53.det1 hr40) (of_decide_eq_false hg100)) | (exact (bneE hg100 (hr53.det2 hr40)).elim) | (exact absurd (hr53.det2 hr40) hp100) | (exact absurd (hr53.det2 hr40) (of_decide_eq_false hg100)) | (exact (bneE hg100 (hr53.det3 hr40)).elim) | (exact absurd (hr53.det3 hr40) hp100) | (exact absurd (hr53.det3 hr40) (of_decide_eq_false hg100)) | (exact (tfX hg100).elim) | (exact (decF hg100).elim) | (exfalso; omega)
                      · refine W_skip ?_
                        refine thenE_n ?_
                        refine W_seq ?_
                        refine W_region ?_
                        refine WL_q rfl (ev_assign rfl) ?_
                        refine WL_nil ?_
                        refine thenE_n ?_
                        refine W_seq ?_
                        refine W_region ?_
                        refine WL_q rfl (ev_move rfl) ?_
                        refine WL_q rfl (ev_move rfl) ?_
                        refine WL_m rfl (ev_call rfl (markIntSS_rows _ _ _ y53 _ _ hO53 (by omega) (by omega) (by omega) (by omega))) ?_
                        rintro _ w104 ⟨rfl, hO104, hK104⟩
                        have hz104 := hK104.size
                        have hR104 := hK104
                        replace hE := hE.rg hR104 (by omega)
                        replace hm := hm.rg hR104 (by omega)
                        replace hA := hA.rg hR104 (by omega)
                        replace hS := hS.rg hR104 (by omega)
                        replace hB3 := hB3.rg hR104 (by omega)
                        replace hB4 := hB4.rg hR104 (by omega)
                        replace hF35 := hF35.rg hR104 (by omega)
                        replace hM35 := hM35.rg hR104 (by omega)
                        replace hF37 := hF37.rg hR104 (by omega)
                        replace hN37 := hN37.rg hR104 (by omega)
                        replace hF39 := hF39.rg hR104 (by omega)
                        replace hI39 := hI39.rg hR104 (by omega)
                        replace hx40 := hx40.rg hR104 (by omega)
                        replace hB10 := hB10.rg hR104 (by omega)
                        replace hB11 := hB11.rg hR104 (by omega)
                        replace hF67 := hF67.rg hR104 (by omega)
                        replace hM67 := hM67.rg hR104 (by omega)
                        replace hF72 := hF72.rg hR104 (by omega)
                        replace hN72 := hN72.rg hR104 (by omega)
                        replace hF77 := hF77.rg hR104 (by omega)
                        replace hI77 := hI77.rg hR104 (by omega)
                        replace hO53 := hO104
                        refine WL_q rfl (ev_assign rfl) ?_
                        refine WL_nil ?_
                        refine thenE_n ?_
                        refine W_seq ?_
                        refine W_region ?_
                        refine WL_q rfl (ev_assign rfl) ?_
                        refine WL_nil ?_
                        refine thenE_n ?_
                        refine W_seq ?_
                        refine W_region ?_
                        refine WL_q rfl (ev_move rfl) ?_
                        refine WL_q rfl (ev_move rfl) ?_
                        refine WL_m rfl (ev_call rfl (heldIntSS_spec _ _ y53 _ _ hO53.is rfl (by omega) (by omega) (by omega))) ?_
                        rintro _ w107 ⟨rfl, hE107⟩
                        have hz107 := hE107.size
                        replace hE := hE.trans hE107
                        replace hm := hm.ext hE107
                        replace hA := hA.ext hE107
                        replace hS := hS.ext hE107
                        replace hB3 := hB3.ext hE107
                        replace hB4 := hB4.ext hE107
                        replace hF35 := hF35.ext hE107
                        replace hM35 := hM35.ext hE107
                        replace hF37 := hF37.ext hE107
                        replace hN37 := hN37.ext hE107
                        replace hF39 := hF39.ext hE107
                        replace hI39 := hI39.ext hE107
                        replace hx40 := hx40.ext hE107
                        replace hB10 := hB10.ext hE107
                        replace hB11 := hB11.ext hE107
                        replace hO53 := hO53.ext hE107
                        replace hF67 := hF67.ext hE107
                        replace hM67 := hM67.ext hE107
                        replace hF72 := hF72.ext hE107
                        replace hN72 := hN72.ext hE107
                        replace hF77 := hF77.ext hE107
                        replace hI77 := hI77.ext hE107
                        refine WL_q rfl (ev_assign rfl) ?_
                        refine WL_nil ?_
                        refine thenE_n ?_
                        refine W_seq ?_
                        refine W_seq ?_
                        refine W_region ?_
                        refine WL_q rfl (ev_move rfl) ?_
                        refine WL_q rfl (ev_lss rfl rfl) ?_
                        refine WL_nil ?_
                        refine thenE_n ?_
                        refine W_cond rfl (fun hg109 => ?_) (fun hg109 => ?_)
                        · have hp109 := of_decide_eq_true hg109
                          refine W_seq ?_
                          refine W_region ?_
                          refine WL_q rfl (ev_assign rfl) ?_
                          refine WL_nil ?_
                          refine thenE_n ?_
                          refine W_ret ?_
                          refine thenE_r ?_
                          refine ret1 rfl rfl ?_
                          first | (exact ⟨rfl, hE⟩) | (exact (bneE hg109 (hr53.det1 hr40)).elim) | (exact absurd (hr53.det1 hr40) hp109) | (exact absurd (hr53.det1 hr40) (of_decide_eq_false hg109)) | (exact (bneE hg109 (hr53.det2 hr40)).elim) | (exact absurd (hr53.det2 hr40) hp109) | (exact absurd (hr53.det2 hr40) (of_decide_eq_false hg109)) | (exact (bneE hg109 (hr53.det3 hr40)).elim) | (exact absurd (hr53.det3 hr40) hp109) | (exact absurd (hr53.det3 hr40) (of_decide_eq_false hg109)) | (exact (tfX hg109).elim) | (exact (decF hg109).elim) | (exfalso; omega)
                        · have hp109 := of_decide_eq_false hg109
                          refine W_skip ?_
                          refine thenE_n ?_
                          refine W_seq ?_
                          refine W_seq ?_
                          refine W_region ?_
                          refine WL_q rfl (ev_move rfl) ?_
                          refine WL_q rfl (ev_move rfl) ?_
                          refine WL_q rfl (ev_neq rfl rfl) ?_
                          refine WL_nil ?_
                          refine thenE_n ?_
                          refine W_cond rfl (fun hg112 => ?_) (fun hg112 => ?_)
                          · have hp112 := of_decide_eq_true hg112
                            refine W_seq ?_
                            refine W_region ?_
                            refine WL_q rfl (ev_assign rfl) ?_
                            refine WL_nil ?_
                            refine thenE_n ?_
                            refine W_ret ?_
                            refine thenE_r ?_
                            refine ret1 rfl rfl ?_
                            first | (exact ⟨rfl, hE⟩) | (exact (bneE hg112 (hr53.det1 hr40)).elim) | (exact absurd (hr53.det1 hr40) hp112) | (exact absurd (hr53.det1 hr40) (of_decide_eq_false hg112)) | (exact (bneE hg112 (hr53.det2 hr40)).elim) | (exact absurd (hr53.det2 hr40) hp112) | (exact absurd (hr53.det2 hr40) (of_decide_eq_false hg112)) | (exact (bneE hg112 (hr53.det3 hr40)).elim) | (exact absurd (hr53.det3 hr40) hp112) | (exact absurd (hr53.det3 hr40) (of_decide_eq_false hg112)) | (exact (tfX hg112).elim) | (exact (decF hg112).elim) | (exfalso; omega)
                          · have hp112 := of_decide_eq_false hg112
                            refine W_skip ?_
                            refine thenE_n ?_
                            refine W_seq ?_
                            refine W_drawE [(0, true), (2, true), (4, true), (1, false), (3, false), (5, false), (6, false), (7, true), (8, true), (9, true), (10, true), (11, true)] mixed (by kernel_rfl) rfl (by kernel_rfl) ?_
                            intro wd37 hEd37 hzd37
                            replace hE := hE.trans hEd37
                            replace hm := hm.ext hEd37
                            replace hA := hA.ext hEd37
                            replace hS := hS.ext hEd37
                            replace hB3 := hB3.ext hEd37
                            replace hB4 := hB4.ext hEd37
                            replace hF35 := hF35.ext hEd37
                            replace hM35 := hM35.ext hEd37
                            replace hF37 := hF37.ext hEd37
                            replace hN37 := hN37.ext hEd37
                            replace hF39 := hF39.ext hEd37
                            replace hI39 := hI39.ext hEd37
                            replace hx40 := hx40.ext hEd37
                            replace hB10 := hB10.ext hEd37
                            replace hB11 := hB11.ext hEd37
                            replace hO53 := hO53.ext hEd37
                            replace hF67 := hF67.ext hEd37
                            replace hM67 := hM67.ext hEd37
                            replace hF72 := hF72.ext hEd37
                            replace hN72 := hN72.ext hEd37
                            replace hF77 := hF77.ext hEd37
                            replace hI77 := hI77.ext hEd37
                            have hDd37 := Ext.refl wd37
                            refine PW_q rfl rfl (fun wq hq => ev_loads st26 sz26 rfl (cellsB (hq.blk hB3)) rfl) ?_
                            refine PW_q rfl rfl (fun wq hq => ev_loads st29 sz29 rfl (cellsB (hq.blk hB4)) rfl) ?_
                            refine PW_q rfl rfl (fun wq hq => ev_move rfl) ?_
                            refine PW_m rfl rfl (ev_call rfl (toMachine_spec _ m _ hm (by omega) (by omega))) ?_
                            rintro _ w115 ⟨h115, rfl, hF115, hE115⟩
                            have hz115 := hE115.size
                            replace hE := hE.trans hE115
                            replace hDd37 := hDd37.trans hE115
                            have hM115 := hF115.is
                            refine ⟨hDd37, ?_⟩
                            have hm_3 := hm.ext hDd37
                            have hA_3 := hA.ext hDd37
                            have hS_3 := hS.ext hDd37
                            have hB3_3 := hB3.ext hDd37
                            have hB4_3 := hB4.ext hDd37
                            have hF35_3 := hF35.ext hDd37
                            have hM35_3 := hM35.ext hDd37
                            have hF37_3 := hF37.ext hDd37
                            have hN37_3 := hN37.ext hDd37
                            have hF39_3 := hF39.ext hDd37
                            have hI39_3 := hI39.ext hDd37
                            have hx40_3 := hx40.ext hDd37
                            have hB10_3 := hB10.ext hDd37
                            have hB11_3 := hB11.ext hDd37
                            have hO53_3 := hO53.ext hDd37
                            have hF67_3 := hF67.ext hDd37
                            have hM67_3 := hM67.ext hDd37
                            have hF72_3 := hF72.ext hDd37
                            have hN72_3 := hN72.ext hDd37
                            have hF77_3 := hF77.ext hDd37
                            have hI77_3 := hI77.ext hDd37
                            refine PW_m rfl rfl (ev_call rfl (toNetwork_spec _ A _ hA_3 (by omega) (by omega))) ?_
                            rintro _ w117 ⟨h117, rfl, hF117, hE117⟩
                            have hz117 := hE117.size
                            replace hE := hE.trans hE117
                            replace hDd37 := hDd37.trans hE117
                            replace hF115 := hF115.ext hE117
                            replace hM115 := hM115.ext hE117
                            have hN117 := hF117.is
                            refine ⟨hDd37, ?_⟩
                            have hm_5 := hm.ext hDd37
                            have hA_5 := hA.ext hDd37
                            have hS_5 := hS.ext hDd37
                            have hB3_5 := hB3.ext hDd37
                            have hB4_5 := hB4.ext hDd37
                            have hF35_5 := hF35.ext hDd37
                            have hM35_5 := hM35.ext hDd37
                            have hF37_5 := hF37.ext hDd37
                            have hN37_5 := hN37.ext hDd37
                            have hF39_5 := hF39.ext hDd37
                            have hI39_5 := hI39.ext hDd37
                            have hx40_5 := hx40.ext hDd37
                            have hB10_5 := hB10.ext hDd37
                            have hB11_5 := hB11.ext hDd37
                            have hO53_5 := hO53.ext hDd37
                            have hF67_5 := hF67.ext hDd37
                            have hM67_5 := hM67.ext hDd37
                            have hF72_5 := hF72.ext hDd37
                            have hN72_5 := hN72.ext hDd37
                            have hF77_5 := hF77.ext hDd37
                            have hI77_5 := hI77.ext hDd37
                            refine PW_m rfl rfl (ev_call rfl (toIntS_spec _ _ S _ hS_5 (by omega) (by omega))) ?_
                            rintro _ w119 ⟨a119, rfl, hF119, hE119⟩
                            have hz119 := hE119.size
                            replace hE := hE.trans hE119
                            replace hDd37 := hDd37.trans hE119
                            replace hF115 := hF115.ext hE119
                            replace hM115 := hM115.ext hE119
                            replace hF117 := hF117.ext hE119
                            replace hN117 := hN117.ext hE119
                            have hI119 := hF119.is
                            refine ⟨hDd37, ?_⟩
                            have hm_6 := hm.ext hDd37
                            have hA_6 := hA.ext hDd37
                            have hS_6 := hS.ext hDd37
                            have hB3_6 := hB3.ext hDd37
                            have hB4_6 := hB4.ext hDd37
                            have hF35_6 := hF35.ext hDd37
                            have hM35_6 := hM35.ext hDd37
                            have hF37_6 := hF37.ext hDd37
                            have hN37_6 := hN37.ext hDd37
                            have hF39_6 := hF39.ext hDd37
                            have hI39_6 := hI39.ext hDd37
                            have hx40_6 := hx40.ext hDd37
                            have hB10_6 := hB10.ext hDd37
                            have hB11_6 := hB11.ext hDd37
                            have hO53_6 := hO53.ext hDd37
                            have hF67_6 := hF67.ext hDd37
                            have hM67_6 := hM67.ext hDd37
                            have hF72_6 := hF72.ext hDd37
                            have hN72_6 := hN72.ext hDd37
                            have hF77_6 := hF77.ext hDd37
                            have hI77_6 := hI77.ext hDd37
                            refine PW_m rfl rfl (ev_call rfl (InboxesOf_spec _ m _ A _ _ S _ hM115 (by omega) (by omega) hN117 (by omega) (by omega) hI119 (by omega) (by omega))) ?_
                            rintro _ w120 ⟨a120, c120, y120, q120, rfl, hr120, hO120, ⟨hl120, hm120, ht120⟩, hE120⟩
                            have hz120 := hE120.size
                            replace hE := hE.trans hE120
                            replace hDd37 := hDd37.trans hE120
                            replace hF115 := hF115.ext hE120
                            replace hM115 := hM115.ext hE120
                            replace hF117 := hF117.ext hE120
                            replace hN117 := hN117.ext hE120
                            replace hF119 := hF119.ext hE120
                            replace hI119 := hI119.ext hE120
                            refine ⟨hDd37, ?_⟩
                            refine PW_q rfl rfl (fun wq hq => ev_move rfl) ?_
                            refine PW_q rfl rfl (fun wq hq => ev_extract rfl rfl) ?_
                            refine PW_q rfl rfl (fun wq hq => ev_extract rfl rfl) ?_
                            refine PW_q rfl rfl (fun wq hq => ev_assign rfl) ?_
                            refine PW_q rfl rfl (fun wq hq => ev_assign rfl) ?_
                            replace hm := hm.ext hDd37
                            replace hA := hA.ext hDd37
                            replace hS := hS.ext hDd37
                            replace hB3 := hB3.ext hDd37
                            replace hB4 := hB4.ext hDd37
                            replace hF35 := hF35.ext hDd37
                            replace hM35 := hM35.ext hDd37
                            replace hF37 := hF37.ext hDd37
                            replace hN37 := hN37.ext hDd37
                            replace hF39 := hF39.ext hDd37
                            replace hI39 := hI39.ext hDd37
                            replace hx40 := hx40.ext hDd37
                            replace hB10 := hB10.ext hDd37
                            replace hB11 := hB11.ext hDd37
                            replace hO53 := hO53.ext hDd37
                            replace hF67 := hF67.ext hDd37
                            replace hM67 := hM67.ext hDd37
                            replace hF72 := hF72.ext hDd37
                            replace hN72 := hN72.ext hDd37
                            replace hF77 := hF77.ext hDd37
                            replace hI77 := hI77.ext hDd37
                            refine PW_nil ?_
                            refine thenE_n ?_
                            refine W_seq ?_
                            refine W_seq ?_
                            refine W_region ?_
                            refine WL_q rfl (ev_move rfl) ?_
                            refine WL_q rfl (ev_move rfl) ?_
                            refine WL_m rfl (ev_call rfl (eqIntSS_spec _ _ _ _ y120 y40 _ (hO120.is) hx40 (by omega))) ?_
                            rintro _ w125 ⟨rfl, hE125⟩
                            have hz125 := hE125.size
                            replace hE := hE.trans hE125
                            replace hm := hm.ext hE125
                            replace hA := hA.ext hE125
                            replace hS := hS.ext hE125
                            replace hB3 := hB3.ext hE125
                            replace hB4 := hB4.ext hE125
                            replace hF35 := hF35.ext hE125
                            replace hM35 := hM35.ext hE125
                            replace hF37 := hF37.ext hE125
                            replace hN37 := hN37.ext hE125
                            replace hF39 := hF39.ext hE125
                            replace hI39 := hI39.ext hE125
                            replace hx40 := hx40.ext hE125
                            replace hB10 := hB10.ext hE125
                            replace hB11 := hB11.ext hE125
                            replace hO53 := hO53.ext hE125
                            replace hF67 := hF67.ext hE125
                            replace hM67 := hM67.ext hE125
                            replace hF72 := hF72.ext hE125
                            replace hN72 := hN72.ext hE125
                            replace hF77 := hF77.ext hE125
                            replace hI77 := hI77.ext hE125
                            replace hF115 := hF115.ext hE125
                            replace hM115 := hM115.ext hE125
                            replace hF117 := hF117.ext hE125
                            replace hN117 := hN117.ext hE125
                            replace hF119 := hF119.ext hE125
                            replace hI119 := hI119.ext hE125
                            replace hO120 := hO120.ext hE125
                            refine WL_q rfl (ev_not rfl) ?_
                            refine WL_q rfl (ev_move rfl) ?_
                            refine WL_splitv (t := 127) rfl (fun hg126 => ?_) (fun hg126 => ?_)
                            · have hg125 := not_true hg126
                              refine WL_no rfl rfl hg126 rfl ?_
                              refine WL_no rfl rfl hg126 rfl ?_
                              refine WL_no rfl rfl hg126 rfl ?_
                              refine WL_q rfl (ev_pick_t rfl hg126 rfl) ?_
                              refine WL_nil ?_
                              refine thenE_n ?_
                              refine W_cond_t rfl ?_
                              refine W_seq ?_
                              refine W_region ?_
                              refine WL_q rfl (ev_assign rfl) ?_
                              refine WL_nil ?_
                              refine thenE_n ?_
                              refine W_ret ?_
                              refine thenE_r ?_
                              refine ret1 rfl rfl ?_
                              first | (exact ⟨rfl, hE⟩) | (exact (bneE hg125 (hr120.det1 hr40)).elim) | (exact absurd (hr120.det1 hr40) hp125) | (exact absurd (hr120.det1 hr40) (of_decide_eq_false hg125)) | (exact (bneE hg125 (hr120.det2 hr40)).elim) | (exact absurd (hr120.det2 hr40) hp125) | (exact absurd (hr120.det2 hr40) (of_decide_eq_false hg125)) | (exact (bneE hg125 (hr120.det3 hr40)).elim) | (exact absurd (hr120.det3 hr40) hp125) | (exact absurd (hr120.det3 hr40) (of_decide_eq_false hg125)) | (exact (bneE hg125 (hr53.det1 hr40)).elim) | (exact absurd (hr53.det1 hr40) hp125) | (exact absurd (hr53.det1 hr40) (of_decide_eq_false hg125)) | (exact (bneE hg125 (hr53.det2 hr40)).elim) | (exact absurd (hr53.det2 hr40) hp125) | (exact absurd (hr53.det2 hr40) (of_decide_eq_false hg125)) | (exact (bneE hg125 (hr53.det3 hr40)).elim) | (exact absurd (hr53.det3 hr40) hp125) | (exact absurd (hr53.det3 hr40) (of_decide_eq_false hg125)) | (exact (tfX hg125).elim) | (exact (decF hg125).elim) | (exfalso; omega)
                            · have hg125 := not_false hg126
                              refine WL_qg rfl rfl hg126 rfl (ev_move rfl) ?_
                              refine WL_qg rfl rfl hg126 rfl (ev_move rfl) ?_
                              refine WL_qg rfl rfl hg126 rfl (ev_neq_b Try.underlying4 rfl rfl) ?_
                              refine WL_q rfl (ev_pick_f rfl hg126 rfl) ?_
                              refine WL_nil ?_
                              refine thenE_n ?_
                              refine W_cond rfl (fun hg130 => ?_) (fun hg130 => ?_)
                              · refine W_seq ?_
                                refine W_region ?_
                                refine WL_q rfl (ev_assign rfl) ?_
                                refine WL_nil ?_
                                refine thenE_n ?_
                                refine W_ret ?_
                                refine thenE_r ?_
                                refine ret1 rfl rfl ?_
                                first | (exact ⟨rfl, hE⟩) | (exact (bneE hg130 (hr120.det1 hr40)).elim) | (exact absurd (hr120.det1 hr40) hp130) | (exact absurd (hr120.det1 hr40) (of_decide_eq_false hg130)) | (exact (bneE hg130 (hr120.det2 hr40)).elim) | (exact absurd (hr120.det2 hr40) hp130) | (exact absurd (hr120.det2 hr40) (of_decide_eq_false hg130)) | (exact (bneE hg130 (hr120.det3 hr40)).elim) | (exact absurd (hr120.det3 hr40) hp130) | (exact absurd (hr120.det3 hr40) (of_decide_eq_false hg130)) | (exact (bneE hg130 (hr53.det1 hr40)).elim) | (exact absurd (hr53.det1 hr40) hp130) | (exact absurd (hr53.det1 hr40) (of_decide_eq_false hg130)) | (exact (bneE hg130 (hr53.det2 hr40)).elim) | (exact absurd (hr53.det2 hr40) hp130) | (exact absurd (hr53.det2 hr40) (of_decide_eq_false hg130)) | (exact (bneE hg130 (hr53.det3 hr40)).elim) | (exact absurd (hr53.det3 hr40) hp130) | (exact absurd (hr53.det3 hr40) (of_decide_eq_false hg130)) | (exact (tfX hg130).elim) | (exact (decF hg130).elim) | (exfalso; omega)
                              · refine W_skip ?_
                                refine thenE_n ?_
                                refine W_seq ?_
                                refine W_region ?_
                                refine WL_q rfl (ev_assign rfl) ?_
                                refine WL_nil ?_
                                refine thenE_n ?_
                                refine W_seq ?_
                                refine W_region ?_
                                refine WL_q rfl (ev_move rfl) ?_
                                refine WL_q rfl (ev_move rfl) ?_
                                refine WL_m rfl (ev_call rfl (heldIntSS_spec _ _ y53 _ _ hO53.is rfl (by omega) (by omega) (by omega))) ?_
                                rintro _ w134 ⟨rfl, hE134⟩
                                have hz134 := hE134.size
                                replace hE := hE.trans hE134
                                replace hm := hm.ext hE134
                                replace hA := hA.ext hE134
                                replace hS := hS.ext hE134
                                replace hB3 := hB3.ext hE134
                                replace hB4 := hB4.ext hE134
                                replace hF35 := hF35.ext hE134
                                replace hM35 := hM35.ext hE134
                                replace hF37 := hF37.ext hE134
                                replace hN37 := hN37.ext hE134
                                replace hF39 := hF39.ext hE134
                                replace hI39 := hI39.ext hE134
                                replace hx40 := hx40.ext hE134
                                replace hB10 := hB10.ext hE134
                                replace hB11 := hB11.ext hE134
                                replace hO53 := hO53.ext hE134
                                replace hF67 := hF67.ext hE134
                                replace hM67 := hM67.ext hE134
                                replace hF72 := hF72.ext hE134
                                replace hN72 := hN72.ext hE134
                                replace hF77 := hF77.ext hE134
                                replace hI77 := hI77.ext hE134
                                replace hF115 := hF115.ext hE134
                                replace hM115 := hM115.ext hE134
                                replace hF117 := hF117.ext hE134
                                replace hN117 := hN117.ext hE134
                                replace hF119 := hF119.ext hE134
                                replace hI119 := hI119.ext hE134
                                replace hO120 := hO120.ext hE134
                                refine WL_q rfl (ev_assign rfl) ?_
                                refine WL_nil ?_
                                refine thenE_n ?_
                                refine W_seq ?_
                                refine W_seq ?_
                                refine W_region ?_
                                refine WL_q rfl (ev_move rfl) ?_
                                refine WL_q rfl (ev_lss rfl rfl) ?_
                                refine WL_nil ?_
                                refine thenE_n ?_
                                refine W_cond rfl (fun hg136 => ?_) (fun hg136 => ?_)
                                · have hp136 := of_decide_eq_true hg136
                                  refine W_seq ?_
                                  refine W_region ?_
                                  refine WL_q rfl (ev_assign rfl) ?_
                                  refine WL_nil ?_
                                  refine thenE_n ?_
                                  refine W_ret ?_
                                  refine thenE_r ?_
                                  refine ret1 rfl rfl ?_
                                  first | (exact ⟨rfl, hE⟩) | (exact (bneE hg136 (hr120.det1 hr40)).elim) | (exact absurd (hr120.det1 hr40) hp136) | (exact absurd (hr120.det1 hr40) (of_decide_eq_false hg136)) | (exact (bneE hg136 (hr120.det2 hr40)).elim) | (exact absurd (hr120.det2 hr40) hp136) | (exact absurd (hr120.det2 hr40) (of_decide_eq_false hg136)) | (exact (bneE hg136 (hr120.det3 hr40)).elim) | (exact absurd (hr120.det3 hr40) hp136) | (exact absurd (hr120.det3 hr40) (of_decide_eq_false hg136)) | (exact (bneE hg136 (hr53.det1 hr40)).elim) | (exact absurd (hr53.det1 hr40) hp136) | (exact absurd (hr53.det1 hr40) (of_decide_eq_false hg136)) | (exact (bneE hg136 (hr53.det2 hr40)).elim) | (exact absurd (hr53.det2 hr40) hp136) | (exact absurd (hr53.det2 hr40) (of_decide_eq_false hg136)) | (exact (bneE hg136 (hr53.det3 hr40)).elim) | (exact absurd (hr53.det3 hr40) hp136) | (exact absurd (hr53.det3 hr40) (of_decide_eq_false hg136)) | (exact (tfX hg136).elim) | (exact (decF hg136).elim) | (exfalso; omega)
                                · have hp136 := of_decide_eq_false hg136
                                  refine W_skip ?_
                                  refine thenE_n ?_
                                  refine W_seq ?_
                                  refine W_seq ?_
                                  refine W_region ?_
                                  refine WL_q rfl (ev_move rfl) ?_
                                  refine WL_q rfl (ev_move rfl) ?_
                                  refine WL_q rfl (ev_neq rfl rfl) ?_
                                  refine WL_nil ?_
                                  refine thenE_n ?_
                                  refine W_cond rfl (fun hg139 => ?_) (fun hg139 => ?_)
                                  · have hp139 := of_decide_eq_true hg139
                                    refine W_seq ?_
                                    refine W_region ?_
                                    refine WL_q rfl (ev_assign rfl) ?_
                                    refine WL_nil ?_
                                    refine thenE_n ?_
                                    refine W_ret ?_
                                    refine thenE_r ?_
                                    refine ret1 rfl rfl ?_
                                    first | (exact ⟨rfl, hE⟩) | (exact (bneE hg139 (hr120.det1 hr40)).elim) | (exact absurd (hr120.det1 hr40) hp139) | (exact absurd (hr120.det1 hr40) (of_decide_eq_false hg139)) | (exact (bneE hg139 (hr120.det2 hr40)).elim) | (exact absurd (hr120.det2 hr40) hp139) | (exact absurd (hr120.det2 hr40) (of_decide_eq_false hg139)) | (exact (bneE hg139 (hr120.det3 hr40)).elim) | (exact absurd (hr120.det3 hr40) hp139) | (exact absurd (hr120.det3 hr40) (of_decide_eq_false hg139)) | (exact (bneE hg139 (hr53.det1 hr40)).elim) | (exact absurd (hr53.det1 hr40) hp139) | (exact absurd (hr53.det1 hr40) (of_decide_eq_false hg139)) | (exact (bneE hg139 (hr53.det2 hr40)).elim) | (exact absurd (hr53.det2 hr40) hp139) | (exact absurd (hr53.det2 hr40) (of_decide_eq_false hg139)) | (exact (bneE hg139 (hr53.det3 hr40)).elim) | (exact absurd (hr53.det3 hr40) hp139) | (exact absurd (hr53.det3 hr40) (of_decide_eq_false hg139)) | (exact (tfX hg139).elim) | (exact (decF hg139).elim) | (exfalso; omega)
                                  · have hp139 := of_decide_eq_false hg139
                                    refine W_skip ?_
                                    refine thenE_n ?_
                                    refine W_seq ?_
                                    refine W_region ?_
                                    refine WL_q rfl (ev_assign rfl) ?_
                                    refine WL_nil ?_
                                    refine thenE_n ?_
                                    refine W_ret ?_
                                    refine ret1 rfl rfl ?_
                                    first | (exact ⟨rfl, hE⟩) | (exact (bneE hg139 (hr120.det1 hr40)).elim) | (exact absurd (hr120.det1 hr40) hp139) | (exact absurd (hr120.det1 hr40) (of_decide_eq_false hg139)) | (exact (bneE hg139 (hr120.det2 hr40)).elim) | (exact absurd (hr120.det2 hr40) hp139) | (exact absurd (hr120.det2 hr40) (of_decide_eq_false hg139)) | (exact (bneE hg139 (hr120.det3 hr40)).elim) | (exact absurd (hr120.det3 hr40) hp139) | (exact absurd (hr120.det3 hr40) (of_decide_eq_false hg139)) | (exact (bneE hg139 (hr53.det1 hr40)).elim) | (exact absurd (hr53.det1 hr40) hp139) | (exact absurd (hr53.det1 hr40) (of_decide_eq_false hg139)) | (exact (bneE hg139 (hr53.det2 hr40)).elim) | (exact absurd (hr53.det2 hr40) hp139) | (exact absurd (hr53.det2 hr40) (of_decide_eq_false hg139)) | (exact (bneE hg139 (hr53.det3 hr40)).elim) | (exact absurd (hr53.det3 hr40) hp139) | (exact absurd (hr53.det3 hr40) (of_decide_eq_false hg139)) | (exact (tfX hg139).elim) | (exact (decF hg139).elim) | (exfalso; omega)

end Go.Proofs.Ytebjcbgencenbaa
