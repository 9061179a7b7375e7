/- Contracts of PortMapsBetween, of the program and of the reference; the walk of its law. -/
import Derived.Test.YtjnkkadbfigmpaaPull
import Derived.Test.YtjnkkadbfigmpaaExtm
namespace Go.Proofs.Ytjnkkadbfigmpaa
open Go Go.RowKit

open Classical in
/-- The maps among those of the first k nodes. -/
noncomputable def pmN (A B : Net) : Nat → List (List Int)
  | 0 => []
  | k + 1 => if EV A B (k : Int) then pmN A B k ++ [extM A.ends B.ends (k : Int)] else pmN A B k
theorem pmN_yes {A B : Net} {k : Nat} {ys : List Int} (h : EV A B (k : Int)) (e : ys = extM A.ends B.ends (k : Int)) : pmN A B k ++ [ys] = pmN A B (k + 1) := by rw [e, pmN, if_pos h]
theorem pmN_no {A B : Net} {k : Nat} (h : ¬ EV A B (k : Int)) : pmN A B k = pmN A B (k + 1) := by rw [pmN, if_neg h]
theorem pmN_bd {A B : Net} (hA : NOk A) (hB : NOk B) : ∀ k, k ≤ B.ends.length → (pmN A B k).length ≤ k ∧ ∀ r ∈ pmN A B k, r.length ≤ 64 := by
  intro k
  induction k with
  | zero => intro _; exact ⟨Nat.zero_le _, fun r h => by cases h⟩
  | succ k ih =>
    intro hk
    have ih := ih (by omega)
    by_cases e : EV A B (k : Int)
    · rw [← pmN_yes e rfl]
      refine ⟨by simp; exact ih.1, fun r hr => ?_⟩
      rcases List.mem_append.1 hr with h | h
      · exact ih.2 r h
      · have h9 := extM_len hA hB (x := (k : Int)) ⟨by omega, by omega⟩ e
        have h8 := hA.nodes
        rw [List.mem_singleton.1 h]; omega
    · rw [← pmN_no e]; exact ⟨by omega, ih.2⟩
theorem pmN_tot {A B : Net} (hA : NOk A) (hB : NOk B) : sumL (pmN A B B.ends.length) ≤ 1048576 ∧ (pmN A B B.ends.length).length ≤ 1048576 ∧ totL (pmN A B B.ends.length) ≤ 1048576 := by
  have h1 := pmN_bd hA hB _ (Nat.le_refl _)
  have h2 := hB.nodes
  have h3 : sumL (pmN A B B.ends.length) ≤ (pmN A B B.ends.length).length * 64 := sumL_bd h1.2
  have h5 := totL_sum (pmN A B B.ends.length)
  omega

set_option maxHeartbeats 4000000 in
set_option maxRecDepth 100000 in
theorem PortMapsBetween_spec {loA hiA : Nat} (nA : NA) (A : Net) {loB hiB : Nat} (nB : NA) (B : Net) (w : World) (hA : IsNet loA hiA w nA A) (hhiA : hiA ≤ w.heap.size) (hnA : totN A ≤ 1048576) (hB : IsNet loB hiB w nB B) (hhiB : hiB ≤ w.heap.size) (hnB : totN B ≤ 1048576) :
    Fn Try.prog 31 #[netV nA A, netV nB B] w (fun o9 w' => ∃ a' c' ys q, o9 = .tuple #[.slice a' ys.length c', VB q] ∧ RV [] (opt ((NOk A ∧ NOk B) ∧ Conn A) (pmN A B B.ends.length)) ys q ∧ RowsH w.heap.size w'.heap.size w' 3 a' c' ys ∧ (sumL ys ≤ 1048576 ∧ ys.length ≤ 1048576 ∧ totL ys ≤ 1048576) ∧ Ext w w') := by
  have hqA := totL_len A.ends
  have hmA : totL A.ends + A.ids.length + A.inputs.length ≤ 1048576 := hnA
  have hqB := totL_len B.ends
  have hmB : totL B.ends + B.ids.length + B.inputs.length ≤ 1048576 := hnB
  have hE := Ext.refl w
  refine Fn_of Try.func31 rfl rfl (by kernel_rfl) rfl ?_
  refine W_seq ?_
  refine W_region ?_
  refine WL_m rfl (ev_box rfl) ?_
  rintro _ w2 ⟨rfl, hN2⟩
  have hz2 := hN2.size
  replace hE := hE.trans hN2.ext
  replace hA := hA.ext hN2.ext
  replace hB := hB.ext hN2.ext
  have hB2 : Blk w2 _ _ [_, _, _] := hN2.blk
  refine WL_m rfl (ev_box rfl) ?_
  rintro _ w3 ⟨rfl, hN3⟩
  have hz3 := hN3.size
  replace hE := hE.trans hN3.ext
  replace hA := hA.ext hN3.ext
  replace hB := hB.ext hN3.ext
  replace hB2 := hB2.ext hN3.ext
  have hB3 : Blk w3 _ _ [_, _, _] := hN3.blk
  refine WL_q rfl (ev_assign rfl) ?_
  refine WL_q rfl (ev_assign rfl) ?_
  refine WL_nil ?_
  refine thenE_n ?_
  refine W_seq ?_
  refine W_seq ?_
  refine W_region ?_
  refine WL_q rfl (ev_loads st31 sz31 rfl (cellsB hB2) rfl) ?_
  refine WL_m rfl (ev_call rfl (IsNetwork_spec _ A _ hA (by omega) (by omega))) ?_
  rintro _ w10 ⟨b10, rfl, hb10, hE10⟩
  have hz10 := hE10.size
  replace hE := hE.trans hE10
  replace hA := hA.ext hE10
  replace hB := hB.ext hE10
  replace hB2 := hB2.ext hE10
  replace hB3 := hB3.ext hE10
  refine WL_q rfl (ev_not rfl) ?_
  refine WL_q rfl (ev_move rfl) ?_
  refine WL_splitv (t := 12) rfl (fun hg11 => ?_) (fun hg11 => ?_)
  · have hg10 := not_true hg11
    have hp10 := ttN hb10 hg10
    refine WL_no rfl rfl hg11 rfl ?_
    refine WL_no rfl rfl hg11 rfl ?_
    refine WL_no rfl rfl hg11 rfl ?_
    refine WL_q rfl (ev_pick_t rfl hg11 rfl) ?_
    refine WL_q rfl (ev_move rfl) ?_
    refine WL_no rfl rfl rfl rfl ?_
    refine WL_no rfl rfl rfl rfl ?_
    refine WL_no rfl rfl rfl rfl ?_
    refine WL_q rfl (ev_pick_t rfl rfl rfl) ?_
    refine WL_nil ?_
    refine thenE_n ?_
    refine W_cond_t rfl ?_
    refine W_seq ?_
    refine W_region ?_
    refine WL_q rfl (ev_assign rfl) ?_
    refine WL_q rfl (ev_assign rfl) ?_
    refine WL_nil ?_
    refine thenE_n ?_
    refine W_ret ?_
    refine thenE_r ?_
    refine ret2 rfl rfl rfl ?_
    first | (exact ⟨none, 0, [], _, rfl, .no (fun h => hp10 h.1.1), RowsH.nil, ⟨by simp [sumL], by simp, by simp [totL]⟩, hE⟩) | (exact ⟨none, 0, [], _, rfl, .no (fun h => hp14 h.1.2), RowsH.nil, ⟨by simp [sumL], by simp, by simp [totL]⟩, hE⟩) | (exact ⟨none, 0, [], _, rfl, .no (fun h => hp19 h.2), RowsH.nil, ⟨by simp [sumL], by simp, by simp [totL]⟩, hE⟩) | (have hi9 : i = B.ends.length := (by omega); subst hi9; exact ⟨_, _, pmN A B B.ends.length, _, rfl, .yes ⟨⟨hp10, hp14⟩, hp19⟩ rfl, hR.h.up (by omega) (Nat.le_refl _), pmN_tot hp10 hp14, hE⟩)
  · have hg10 := not_false hg11
    have hp10 := hb10.1 hg10
    refine WL_qg rfl rfl hg11 rfl (ev_loads st31 sz31 rfl (cellsB hB3) rfl) ?_
    refine WL_mg rfl rfl hg11 rfl (ev_call rfl (IsNetwork_spec _ B _ hB (by omega) (by omega))) ?_
    rintro _ w14 ⟨b14, rfl, hb14, hE14⟩
    have hz14 := hE14.size
    replace hE := hE.trans hE14
    replace hA := hA.ext hE14
    replace hB := hB.ext hE14
    replace hB2 := hB2.ext hE14
    replace hB3 := hB3.ext hE14
    refine WL_qg rfl rfl hg11 rfl (ev_not rfl) ?_
    refine WL_q rfl (ev_pick_f rfl hg11 rfl) ?_
    refine WL_q rfl (ev_move rfl) ?_
    refine WL_splitv (t := 17) rfl (fun hg15 => ?_) (fun hg15 => ?_)
    · have hg14 := not_true hg15
      have hp14 := ttN hb14 hg14
      refine WL_no rfl rfl hg15 rfl ?_
      refine WL_no rfl rfl hg15 rfl ?_
      refine WL_no rfl rfl hg15 rfl ?_
      refine WL_q rfl (ev_pick_t rfl hg15 rfl) ?_
      refine WL_nil ?_
      refine thenE_n ?_
      refine W_cond_t rfl ?_
      refine W_seq ?_
      refine W_region ?_
      refine WL_q rfl (ev_assign rfl) ?_
      refine WL_q rfl (ev_assign rfl) ?_
      refine WL_nil ?_
      refine thenE_n ?_
      refine W_ret ?_
      refine thenE_r ?_
      refine ret2 rfl rfl rfl ?_
      first | (exact ⟨none, 0, [], _, rfl, .no (fun h => hp10 h.1.1), RowsH.nil, ⟨by simp [sumL], by simp, by simp [totL]⟩, hE⟩) | (exact ⟨none, 0, [], _, rfl, .no (fun h => hp14 h.1.2), RowsH.nil, ⟨by simp [sumL], by simp, by simp [totL]⟩, hE⟩) | (exact ⟨none, 0, [], _, rfl, .no (fun h => hp19 h.2), RowsH.nil, ⟨by simp [sumL], by simp, by simp [totL]⟩, hE⟩) | (have hi9 : i = B.ends.length := (by omega); subst hi9; exact ⟨_, _, pmN A B B.ends.length, _, rfl, .yes ⟨⟨hp10, hp14⟩, hp19⟩ rfl, hR.h.up (by omega) (Nat.le_refl _), pmN_tot hp10 hp14, hE⟩)
    · have hg14 := not_false hg15
      have hp14 := hb14.1 hg14
      refine WL_qg rfl rfl hg15 rfl (ev_loads st31 sz31 rfl (cellsB hB2) rfl) ?_
      have hkA := hp10
      have hk := hp10.endsOk
      have hnd := hp10.nodes
      refine WL_mg rfl rfl hg15 rfl (ev_call rfl (isConnected_spec _ A _ hA (by omega) (by omega) (by assumption) (by omega))) ?_
      rintro _ w19 ⟨b19, rfl, hb19, hE19⟩
      have hz19 := hE19.size
      replace hE := hE.trans hE19
      replace hA := hA.ext hE19
      replace hB := hB.ext hE19
      replace hB2 := hB2.ext hE19
      replace hB3 := hB3.ext hE19
      refine WL_qg rfl rfl hg15 rfl (ev_not rfl) ?_
      refine WL_q rfl (ev_pick_f rfl hg15 rfl) ?_
      refine WL_nil ?_
      refine thenE_n ?_
      refine W_cond rfl (fun hg20 => ?_) (fun hg20 => ?_)
      · have hg19 := not_true hg20
        have hp19 := ttN hb19 hg19
        refine W_seq ?_
        refine W_region ?_
        refine WL_q rfl (ev_assign rfl) ?_
        refine WL_q rfl (ev_assign rfl) ?_
        refine WL_nil ?_
        refine thenE_n ?_
        refine W_ret ?_
        refine thenE_r ?_
        refine ret2 rfl rfl rfl ?_
        first | (exact ⟨none, 0, [], _, rfl, .no (fun h => hp10 h.1.1), RowsH.nil, ⟨by simp [sumL], by simp, by simp [totL]⟩, hE⟩) | (exact ⟨none, 0, [], _, rfl, .no (fun h => hp14 h.1.2), RowsH.nil, ⟨by simp [sumL], by simp, by simp [totL]⟩, hE⟩) | (exact ⟨none, 0, [], _, rfl, .no (fun h => hp19 h.2), RowsH.nil, ⟨by simp [sumL], by simp, by simp [totL]⟩, hE⟩) | (have hi9 : i = B.ends.length := (by omega); subst hi9; exact ⟨_, _, pmN A B B.ends.length, _, rfl, .yes ⟨⟨hp10, hp14⟩, hp19⟩ rfl, hR.h.up (by omega) (Nat.le_refl _), pmN_tot hp10 hp14, hE⟩)
      · have hg19 := not_false hg20
        have hp19 := hb19.1 hg19
        refine W_skip ?_
        refine thenE_n ?_
        refine W_seq ?_
        refine W_region ?_
        have hkB := hp14
        have hndB := hp14.nodes
        refine WL_q rfl (ev_assign rfl) ?_
        refine WL_nil ?_
        refine thenE_n ?_
        refine W_seq ?_
        refine W_seq ?_
        refine W_region ?_
        refine WL_q rfl (ev_fieldAddr fo31_0 rfl) ?_
        refine WL_q rfl (ev_load one29 rfl (hB3.cell rfl)) ?_
        refine WL_q rfl (ev_len Try.underlying29 rfl) ?_
        refine WL_q rfl (ev_move rfl) ?_
        refine WL_nil ?_
        refine thenE_n ?_
        refine W_block ?_
        refine W_loopC (G := Nat × Option Addr × Nat) [(2, _), (3, _), (24, _)] ((Subs.c rfl (Subs.c rfl (Subs.c rfl Subs.n)))) (fun ⟨i, a, c⟩ => [(6, .slice a (pmN A B i).length c), (25, VI (i : Int))]) (fun ⟨i, a, c⟩ w' => Lo (w19.heap.size) w19 w' ∧ i ≤ B.ends.length ∧ RowsF w19.heap.size w'.heap.size w' 3 23 a c (pmN A B i)) (fun g => B.ends.length - g.1) (0, none, 0) ((Subs.c rfl (Subs.c (lkI rfl (by omega)) Subs.n))) (⟨Lo.refl (by omega), ⟨Nat.zero_le _, RowsF.nil⟩⟩) ?_
        rintro ⟨i, a, c⟩ wL0 ⟨hRL0, hi', hR⟩
        have hzL0 := hRL0.size
        replace hA := hA.lo hRL0 (by omega)
        replace hB := hB.lo hRL0 (by omega)
        replace hB2 := hB2.lo hRL0 (by omega)
        replace hB3 := hB3.lo hRL0 (by omega)
        replace hE := hE.lo hRL0 (by omega)
        have hpl := (pmN_bd hkA hkB i hi').1
        refine W_seq ?_
        refine W_region ?_
        refine WL_q rfl (ev_lss rfl rfl) ?_
        refine WL_nil ?_
        refine thenE_n ?_
        refine W_seq ?_
        refine W_cond rfl (fun hg26 => ?_) (fun hg26 => ?_)
        · have hp26 := of_decide_eq_true hg26
          refine W_skip ?_
          refine thenE_n ?_
          refine W_seq ?_
          refine W_block ?_
          refine W_seq ?_
          refine W_region ?_
          refine WL_q rfl (ev_move rfl) ?_
          refine WL_q rfl (ev_assign rfl) ?_
          refine WL_nil ?_
          refine thenE_n ?_
          refine W_seq ?_
          refine W_region ?_
          refine WL_q rfl (ev_loads st31 sz31 rfl (cellsB hB2) rfl) ?_
          refine WL_q rfl (ev_loads st31 sz31 rfl (cellsB hB3) rfl) ?_
          refine WL_q rfl (ev_move rfl) ?_
          refine WL_m rfl (ev_call rfl (extendMap_spec _ A _ B _ _ hA (by omega) (by omega) hB (by omega) (by omega) (by assumption) (by assumption) (by omega))) ?_
          rintro _ w31 ⟨a31, c31, y31, rfl, hs31, hy31, hn31, hO31, hE31⟩
          have hz31 := hE31.size
          replace hE := hE.trans hE31
          replace hRL0 := hRL0.trans hE31
          replace hA := hA.ext hE31
          replace hB := hB.ext hE31
          replace hB2 := hB2.ext hE31
          replace hB3 := hB3.ext hE31
          replace hR := hR.ext hE31
          have hyl31 := ext_le hkA hkB (x := (i : Int)) ⟨by omega, by omega⟩ hy31 hn31
          refine WL_q rfl (ev_assign rfl) ?_
          refine WL_nil ?_
          refine thenE_n ?_
          refine W_seq ?_
          refine W_region ?_
          refine WL_q rfl (ev_move rfl) ?_
          refine WL_q rfl (ev_neq_nil Try.underlying23 rfl rfl) ?_
          refine WL_nil ?_
          refine thenE_n ?_
          refine W_cond rfl (fun hg33 => ?_) (fun hg33 => ?_)
          · refine W_region ?_
            refine WL_q rfl (ev_move rfl) ?_
            refine WL_q rfl (ev_move rfl) ?_
            refine WL_m rfl (ev_lit1 Try.underlying40 el23 (by decide) (by decide) rfl rfl) ?_
            rintro _ w36 ⟨rfl, hN36⟩
            have hz36 := hN36.size
            replace hE := hE.trans hN36.ext
            replace hRL0 := hRL0.trans hN36.ext
            replace hA := hA.ext hN36.ext
            replace hB := hB.ext hN36.ext
            replace hB2 := hB2.ext hN36.ext
            replace hB3 := hB3.ext hN36.ext
            replace hR := hR.ext hN36.ext
            replace hO31 := hO31.ext hN36.ext
            have hB36 := hN36.blk
            obtain ⟨vs37, hA37⟩ := hR
            have hP37 := hA37.out
            refine WL_m rfl (ev_append Try.underlying40 el23 rfl (by decide) rfl rfl hP37 (SAt.of_blk (cs := [_]) (ds := []) hB36) rfl (by simp [Value.oneCell']) (by omega) (by unfold maxLen; omega) (by omega)) ?_
            rintro _ w37 ⟨a37, c37, rfl, hO37, hK37, hQ37⟩
            have hz37 := hK37.size
            replace hE := hE.app hK37 (fun q hq => by have h1 := (hP37.block q hq).1; have h2 := hA37.otop q hq; omega)
            replace hRL0 := hRL0.app hK37 (fun q hq => by have h1 := (hP37.block q hq).1; have h2 := hA37.otop q hq; omega)
            replace hA := hA.app hK37 (hP37) (by omega)
            replace hB := hB.app hK37 (hP37) (by omega)
            replace hB2 := hB2.app hK37 (hP37) (by omega)
            replace hB3 := hB3.app hK37 (hP37) (by omega)
            have hP37 := hO37
            have hR := rowsf_snoc hA37 hO31 (by omega) (by omega) hK37 hP37 rfl hQ37 (by omega)
            refine WL_q rfl (ev_assign rfl) ?_
            refine WL_nil ?_
            refine blockE_n ?_
            refine thenE_n ?_
            refine W_region ?_
            refine WL_q rfl (ev_add rfl rfl (by omega)) ?_
            refine WL_q rfl (ev_move rfl) ?_
            refine WL_nil ?_
            refine thenE_n ?_
            have hev : EV A B (i : Int) := hs31.1 (by simpa using hg33)
            have hne := pmN_yes hev (hy31 hev)
            exact ⟨(i + 1, a37, c37), (Subs.c rfl (Subs.c rfl (Subs.c rfl Subs.n))), (Subs.c (lkS rfl (by rw [← hne]; simp)) (Subs.c (lkI rfl (by omega)) Subs.n)), ⟨hRL0, ⟨by omega, hR.to hne⟩⟩, by first | omega | (dsimp only; omega)⟩
          · refine W_skip ?_
            refine blockE_n ?_
            refine thenE_n ?_
            refine W_region ?_
            refine WL_q rfl (ev_add rfl rfl (by omega)) ?_
            refine WL_q rfl (ev_move rfl) ?_
            refine WL_nil ?_
            refine thenE_n ?_
            have hev : ¬ EV A B (i : Int) := fun h => by rw [hs31.2 h] at hg33; cases hg33
            have hne := pmN_no hev
            exact ⟨(i + 1, a, c), (Subs.c rfl (Subs.c rfl (Subs.c rfl Subs.n))), (Subs.c (lkS rfl (by rw [← hne])) (Subs.c (lkI rfl (by omega)) Subs.n)), ⟨hRL0, ⟨by omega, (hR.to hne).up (by omega)⟩⟩, by first | omega | (dsimp only; omega)⟩
        · have hp26 := of_decide_eq_false hg26
          refine W_exit ?_
          refine thenE_x ?_
          refine thenE_x ?_
          refine blockE_hit ?_
          refine thenE_n ?_
          refine W_seq ?_
          refine W_region ?_
          refine WL_q rfl (ev_move rfl) ?_
          refine WL_q rfl (ev_assign rfl) ?_
          refine WL_q rfl (ev_assign rfl) ?_
          refine WL_nil ?_
          refine thenE_n ?_
          refine W_ret ?_
          refine ret2 rfl rfl rfl ?_
          first | (exact ⟨none, 0, [], _, rfl, .no (fun h => hp10 h.1.1), RowsH.nil, ⟨by simp [sumL], by simp, by simp [totL]⟩, hE⟩) | (exact ⟨none, 0, [], _, rfl, .no (fun h => hp14 h.1.2), RowsH.nil, ⟨by simp [sumL], by simp, by simp [totL]⟩, hE⟩) | (exact ⟨none, 0, [], _, rfl, .no (fun h => hp19 h.2), RowsH.nil, ⟨by simp [sumL], by simp, by simp [totL]⟩, hE⟩) | (have hi9 : i = B.ends.length := (by omega); subst hi9; exact ⟨_, _, pmN A B B.ends.length, _, rfl, .yes ⟨⟨hp10, hp14⟩, hp19⟩ rfl, hR.h.up (by omega) (Nat.le_refl _), pmN_tot hp10 hp14, hE⟩)

set_option maxHeartbeats 4000000 in
set_option maxRecDepth 100000 in
theorem sPortMapsBetween_spec {loA hiA : Nat} (nA : NA) (A : Net) {loB hiB : Nat} (nB : NA) (B : Net) (w : World) (hA : IsNet loA hiA w nA A) (hhiA : hiA ≤ w.heap.size) (hnA : totN A ≤ 1048576) (hB : IsNet loB hiB w nB B) (hhiB : hiB ≤ w.heap.size) (hnB : totN B ≤ 1048576) :
    Fn Try.prog 30 #[netV nA A, netV nB B] w (fun o9 w' => ∃ a' c' ys q, o9 = .tuple #[.slice a' ys.length c', VB q] ∧ RV [] (opt ((NOk A ∧ NOk B) ∧ Conn A) (pmN A B B.ends.length)) ys q ∧ Intss 0 w'.heap.size w' a' c' ys ∧ (ys.length ≤ 1048576 ∧ totL ys ≤ 1048576) ∧ Ext w w') := by
  have hqA := totL_len A.ends
  have hmA : totL A.ends + A.ids.length + A.inputs.length ≤ 1048576 := hnA
  have hqB := totL_len B.ends
  have hmB : totL B.ends + B.ids.length + B.inputs.length ≤ 1048576 := hnB
  have hE := Ext.refl w
  refine Fn_of Try.func30 rfl rfl (by kernel_rfl) rfl ?_
  refine W_seq ?_
  refine W_region ?_
  refine WL_m rfl (ev_box rfl) ?_
  rintro _ w2 ⟨rfl, hN2⟩
  have hz2 := hN2.size
  replace hE := hE.trans hN2.ext
  replace hA := hA.ext hN2.ext
  replace hB := hB.ext hN2.ext
  have hB2 : Blk w2 _ _ [_, _, _] := hN2.blk
  refine WL_m rfl (ev_box rfl) ?_
  rintro _ w3 ⟨rfl, hN3⟩
  have hz3 := hN3.size
  replace hE := hE.trans hN3.ext
  replace hA := hA.ext hN3.ext
  replace hB := hB.ext hN3.ext
  replace hB2 := hB2.ext hN3.ext
  have hB3 : Blk w3 _ _ [_, _, _] := hN3.blk
  refine WL_q rfl (ev_assign rfl) ?_
  refine WL_q rfl (ev_assign rfl) ?_
  refine WL_nil ?_
  refine thenE_n ?_
  refine W_seq ?_
  refine W_seq ?_
  refine W_region ?_
  refine WL_q rfl (ev_loads st31 sz31 rfl (cellsB hB2) rfl) ?_
  refine WL_m rfl (ev_call rfl (neGood_spec _ A _ hA (by omega) (by omega))) ?_
  rintro _ w11 ⟨b11, rfl, hb11, hE11⟩
  have hz11 := hE11.size
  replace hE := hE.trans hE11
  replace hA := hA.ext hE11
  replace hB := hB.ext hE11
  replace hB2 := hB2.ext hE11
  replace hB3 := hB3.ext hE11
  refine WL_q rfl (ev_not rfl) ?_
  refine WL_q rfl (ev_move rfl) ?_
  refine WL_splitv (t := 13) rfl (fun hg12 => ?_) (fun hg12 => ?_)
  · have hg11 := not_true hg12
    have hp11 := ttN hb11 hg11
    refine WL_no rfl rfl hg12 rfl ?_
    refine WL_no rfl rfl hg12 rfl ?_
    refine WL_no rfl rfl hg12 rfl ?_
    refine WL_q rfl (ev_pick_t rfl hg12 rfl) ?_
    refine WL_q rfl (ev_move rfl) ?_
    refine WL_no rfl rfl rfl rfl ?_
    refine WL_no rfl rfl rfl rfl ?_
    refine WL_no rfl rfl rfl rfl ?_
    refine WL_q rfl (ev_pick_t rfl rfl rfl) ?_
    refine WL_nil ?_
    refine thenE_n ?_
    refine W_cond_t rfl ?_
    refine W_seq ?_
    refine W_region ?_
    refine WL_q rfl (ev_assign rfl) ?_
    refine WL_q rfl (ev_assign rfl) ?_
    refine WL_nil ?_
    refine thenE_n ?_
    refine W_ret ?_
    refine thenE_r ?_
    refine ret2 rfl rfl rfl ?_
    first | (exact ⟨none, 0, [], _, rfl, .no (fun h => hp11 h.1.1), Nest.nil, ⟨by simp, by simp [totL]⟩, hE⟩) | (exact ⟨none, 0, [], _, rfl, .no (fun h => hp15 h.1.2), Nest.nil, ⟨by simp, by simp [totL]⟩, hE⟩) | (exact ⟨none, 0, [], _, rfl, .no (fun h => hp20 h.2), Nest.nil, ⟨by simp, by simp [totL]⟩, hE⟩) | (have hi9 : i = B.ends.length := (by omega); subst hi9; exact ⟨_, _, pmN A B B.ends.length, _, rfl, .yes ⟨⟨hp11, hp15⟩, hp20⟩ rfl, hR.is.mono (Nat.zero_le _) (Nat.le_refl _), (pmN_tot hp11 hp15).2, hE⟩)
  · have hg11 := not_false hg12
    have hp11 := hb11.1 hg11
    refine WL_qg rfl rfl hg12 rfl (ev_loads st31 sz31 rfl (cellsB hB3) rfl) ?_
    refine WL_mg rfl rfl hg12 rfl (ev_call rfl (neGood_spec _ B _ hB (by omega) (by omega))) ?_
    rintro _ w15 ⟨b15, rfl, hb15, hE15⟩
    have hz15 := hE15.size
    replace hE := hE.trans hE15
    replace hA := hA.ext hE15
    replace hB := hB.ext hE15
    replace hB2 := hB2.ext hE15
    replace hB3 := hB3.ext hE15
    refine WL_qg rfl rfl hg12 rfl (ev_not rfl) ?_
    refine WL_q rfl (ev_pick_f rfl hg12 rfl) ?_
    refine WL_q rfl (ev_move rfl) ?_
    refine WL_splitv (t := 18) rfl (fun hg16 => ?_) (fun hg16 => ?_)
    · have hg15 := not_true hg16
      have hp15 := ttN hb15 hg15
      refine WL_no rfl rfl hg16 rfl ?_
      refine WL_no rfl rfl hg16 rfl ?_
      refine WL_no rfl rfl hg16 rfl ?_
      refine WL_q rfl (ev_pick_t rfl hg16 rfl) ?_
      refine WL_nil ?_
      refine thenE_n ?_
      refine W_cond_t rfl ?_
      refine W_seq ?_
      refine W_region ?_
      refine WL_q rfl (ev_assign rfl) ?_
      refine WL_q rfl (ev_assign rfl) ?_
      refine WL_nil ?_
      refine thenE_n ?_
      refine W_ret ?_
      refine thenE_r ?_
      refine ret2 rfl rfl rfl ?_
      first | (exact ⟨none, 0, [], _, rfl, .no (fun h => hp11 h.1.1), Nest.nil, ⟨by simp, by simp [totL]⟩, hE⟩) | (exact ⟨none, 0, [], _, rfl, .no (fun h => hp15 h.1.2), Nest.nil, ⟨by simp, by simp [totL]⟩, hE⟩) | (exact ⟨none, 0, [], _, rfl, .no (fun h => hp20 h.2), Nest.nil, ⟨by simp, by simp [totL]⟩, hE⟩) | (have hi9 : i = B.ends.length := (by omega); subst hi9; exact ⟨_, _, pmN A B B.ends.length, _, rfl, .yes ⟨⟨hp11, hp15⟩, hp20⟩ rfl, hR.is.mono (Nat.zero_le _) (Nat.le_refl _), (pmN_tot hp11 hp15).2, hE⟩)
    · have hg15 := not_false hg16
      have hp15 := hb15.1 hg15
      refine WL_qg rfl rfl hg16 rfl (ev_loads st31 sz31 rfl (cellsB hB2) rfl) ?_
      have hkA := hp11
      have hk := hp11.endsOk
      have hnd := hp11.nodes
      refine WL_mg rfl rfl hg16 rfl (ev_call rfl (coConnected_spec _ A _ hA (by omega) (by omega) (by assumption) (by omega))) ?_
      rintro _ w20 ⟨b20, rfl, hb20, hE20⟩
      have hz20 := hE20.size
      replace hE := hE.trans hE20
      replace hA := hA.ext hE20
      replace hB := hB.ext hE20
      replace hB2 := hB2.ext hE20
      replace hB3 := hB3.ext hE20
      refine WL_qg rfl rfl hg16 rfl (ev_not rfl) ?_
      refine WL_q rfl (ev_pick_f rfl hg16 rfl) ?_
      refine WL_nil ?_
      refine thenE_n ?_
      refine W_cond rfl (fun hg21 => ?_) (fun hg21 => ?_)
      · have hg20 := not_true hg21
        have hp20 := ttN hb20 hg20
        refine W_seq ?_
        refine W_region ?_
        refine WL_q rfl (ev_assign rfl) ?_
        refine WL_q rfl (ev_assign rfl) ?_
        refine WL_nil ?_
        refine thenE_n ?_
        refine W_ret ?_
        refine thenE_r ?_
        refine ret2 rfl rfl rfl ?_
        first | (exact ⟨none, 0, [], _, rfl, .no (fun h => hp11 h.1.1), Nest.nil, ⟨by simp, by simp [totL]⟩, hE⟩) | (exact ⟨none, 0, [], _, rfl, .no (fun h => hp15 h.1.2), Nest.nil, ⟨by simp, by simp [totL]⟩, hE⟩) | (exact ⟨none, 0, [], _, rfl, .no (fun h => hp20 h.2), Nest.nil, ⟨by simp, by simp [totL]⟩, hE⟩) | (have hi9 : i = B.ends.length := (by omega); subst hi9; exact ⟨_, _, pmN A B B.ends.length, _, rfl, .yes ⟨⟨hp11, hp15⟩, hp20⟩ rfl, hR.is.mono (Nat.zero_le _) (Nat.le_refl _), (pmN_tot hp11 hp15).2, hE⟩)
      · have hg20 := not_false hg21
        have hp20 := hb20.1 hg20
        refine W_skip ?_
        refine thenE_n ?_
        refine W_seq ?_
        refine W_region ?_
        have hkB := hp15
        have hndB := hp15.nodes
        refine WL_q rfl (ev_assign rfl) ?_
        refine WL_nil ?_
        refine thenE_n ?_
        refine W_seq ?_
        refine W_seq ?_
        refine W_region ?_
        refine WL_q rfl (ev_fieldAddr fo31_0 rfl) ?_
        refine WL_q rfl (ev_load one29 rfl (hB3.cell rfl)) ?_
        refine WL_q rfl (ev_len Try.underlying29 rfl) ?_
        refine WL_q rfl (ev_move rfl) ?_
        refine WL_nil ?_
        refine thenE_n ?_
        refine W_block ?_
        refine W_loopC (G := Nat × Option Addr × Nat) [(2, _), (3, _), (25, _)] ((Subs.c rfl (Subs.c rfl (Subs.c rfl Subs.n)))) (fun ⟨i, a, c⟩ => [(6, .slice a (pmN A B i).length c), (26, VI (i : Int))]) (fun ⟨i, a, c⟩ w' => Lo (w20.heap.size) w20 w' ∧ i ≤ B.ends.length ∧ RowsF w20.heap.size w'.heap.size w' 3 23 a c (pmN A B i)) (fun g => B.ends.length - g.1) (0, none, 0) ((Subs.c rfl (Subs.c (lkI rfl (by omega)) Subs.n))) (⟨Lo.refl (by omega), ⟨Nat.zero_le _, RowsF.nil⟩⟩) ?_
        rintro ⟨i, a, c⟩ wL0 ⟨hRL0, hi', hR⟩
        have hzL0 := hRL0.size
        replace hA := hA.lo hRL0 (by omega)
        replace hB := hB.lo hRL0 (by omega)
        replace hB2 := hB2.lo hRL0 (by omega)
        replace hB3 := hB3.lo hRL0 (by omega)
        replace hE := hE.lo hRL0 (by omega)
        have hpl := (pmN_bd hkA hkB i hi').1
        refine W_seq ?_
        refine W_region ?_
        refine WL_q rfl (ev_lss rfl rfl) ?_
        refine WL_nil ?_
        refine thenE_n ?_
        refine W_seq ?_
        refine W_cond rfl (fun hg27 => ?_) (fun hg27 => ?_)
        · have hp27 := of_decide_eq_true hg27
          refine W_skip ?_
          refine thenE_n ?_
          refine W_seq ?_
          refine W_block ?_
          refine W_seq ?_
          refine W_region ?_
          refine WL_q rfl (ev_move rfl) ?_
          refine WL_q rfl (ev_assign rfl) ?_
          refine WL_nil ?_
          refine thenE_n ?_
          refine W_seq ?_
          refine W_region ?_
          refine WL_q rfl (ev_loads st31 sz31 rfl (cellsB hB2) rfl) ?_
          refine WL_q rfl (ev_loads st31 sz31 rfl (cellsB hB3) rfl) ?_
          refine WL_q rfl (ev_move rfl) ?_
          refine WL_m rfl (ev_call rfl (coExtend_spec _ A _ B _ _ hA (by omega) (by omega) hB (by omega) (by omega) (by assumption) (by assumption) (by omega))) ?_
          rintro _ w33 ⟨a33, c33, y33, q33, rfl, hq33, hy33, hO33, hl33, hE33⟩
          have hz33 := hE33.size
          replace hE := hE.trans hE33
          replace hRL0 := hRL0.trans hE33
          replace hA := hA.ext hE33
          replace hB := hB.ext hE33
          replace hB2 := hB2.ext hE33
          replace hB3 := hB3.ext hE33
          replace hR := hR.ext hE33
          refine WL_q rfl (ev_move rfl) ?_
          refine WL_q rfl (ev_extract rfl rfl) ?_
          refine WL_q rfl (ev_extract rfl rfl) ?_
          refine WL_q rfl (ev_assign rfl) ?_
          refine WL_q rfl (ev_assign rfl) ?_
          refine WL_nil ?_
          refine thenE_n ?_
          refine W_seq ?_
          refine W_region ?_
          refine WL_q rfl (ev_move rfl) ?_
          refine WL_nil ?_
          refine thenE_n ?_
          refine W_cond rfl (fun hg35 => ?_) (fun hg35 => ?_)
          · refine W_region ?_
            refine WL_q rfl (ev_move rfl) ?_
            refine WL_q rfl (ev_move rfl) ?_
            refine WL_m rfl (ev_lit1 Try.underlying40 el23 (by decide) (by decide) rfl rfl) ?_
            rintro _ w39 ⟨rfl, hN39⟩
            have hz39 := hN39.size
            replace hE := hE.trans hN39.ext
            replace hRL0 := hRL0.trans hN39.ext
            replace hA := hA.ext hN39.ext
            replace hB := hB.ext hN39.ext
            replace hB2 := hB2.ext hN39.ext
            replace hB3 := hB3.ext hN39.ext
            replace hR := hR.ext hN39.ext
            replace hO33 := hO33.ext hN39.ext
            have hB39 := hN39.blk
            obtain ⟨vs40, hA40⟩ := hR
            have hP40 := hA40.out
            refine WL_m rfl (ev_append Try.underlying40 el23 rfl (by decide) rfl rfl hP40 (SAt.of_blk (cs := [_]) (ds := []) hB39) rfl (by simp [Value.oneCell']) (by omega) (by unfold maxLen; omega) (by omega)) ?_
            rintro _ w40 ⟨a40, c40, rfl, hO40, hK40, hQ40⟩
            have hz40 := hK40.size
            replace hE := hE.app hK40 (fun q hq => by have h1 := (hP40.block q hq).1; have h2 := hA40.otop q hq; omega)
            replace hRL0 := hRL0.app hK40 (fun q hq => by have h1 := (hP40.block q hq).1; have h2 := hA40.otop q hq; omega)
            replace hA := hA.app hK40 (hP40) (by omega)
            replace hB := hB.app hK40 (hP40) (by omega)
            replace hB2 := hB2.app hK40 (hP40) (by omega)
            replace hB3 := hB3.app hK40 (hP40) (by omega)
            have hP40 := hO40
            have hR := rowsf_snoc hA40 hO33 (by omega) (by omega) hK40 hP40 rfl hQ40 (by omega)
            refine WL_q rfl (ev_assign rfl) ?_
            refine WL_nil ?_
            refine blockE_n ?_
            refine thenE_n ?_
            refine W_region ?_
            refine WL_q rfl (ev_add rfl rfl (by omega)) ?_
            refine WL_q rfl (ev_move rfl) ?_
            refine WL_nil ?_
            refine thenE_n ?_
            have hev : EV A B (i : Int) := hq33.1 hg35
            have hne := pmN_yes hev (hy33 hev)
            exact ⟨(i + 1, a40, c40), (Subs.c rfl (Subs.c rfl (Subs.c rfl Subs.n))), (Subs.c (lkS rfl (by rw [← hne]; simp)) (Subs.c (lkI rfl (by omega)) Subs.n)), ⟨hRL0, ⟨by omega, hR.to hne⟩⟩, by first | omega | (dsimp only; omega)⟩
          · refine W_skip ?_
            refine blockE_n ?_
            refine thenE_n ?_
            refine W_region ?_
            refine WL_q rfl (ev_add rfl rfl (by omega)) ?_
            refine WL_q rfl (ev_move rfl) ?_
            refine WL_nil ?_
            refine thenE_n ?_
            have hev : ¬ EV A B (i : Int) := fun h => by rw [hq33.2 h] at hg35; cases hg35
            have hne := pmN_no hev
            exact ⟨(i + 1, a, c), (Subs.c rfl (Subs.c rfl (Subs.c rfl Subs.n))), (Subs.c (lkS rfl (by rw [← hne])) (Subs.c (lkI rfl (by omega)) Subs.n)), ⟨hRL0, ⟨by omega, (hR.to hne).up (by omega)⟩⟩, by first | omega | (dsimp only; omega)⟩
        · have hp27 := of_decide_eq_false hg27
          refine W_exit ?_
          refine thenE_x ?_
          refine thenE_x ?_
          refine blockE_hit ?_
          refine thenE_n ?_
          refine W_seq ?_
          refine W_region ?_
          refine WL_q rfl (ev_move rfl) ?_
          refine WL_q rfl (ev_assign rfl) ?_
          refine WL_q rfl (ev_assign rfl) ?_
          refine WL_nil ?_
          refine thenE_n ?_
          refine W_ret ?_
          refine ret2 rfl rfl rfl ?_
          first | (exact ⟨none, 0, [], _, rfl, .no (fun h => hp11 h.1.1), Nest.nil, ⟨by simp, by simp [totL]⟩, hE⟩) | (exact ⟨none, 0, [], _, rfl, .no (fun h => hp15 h.1.2), Nest.nil, ⟨by simp, by simp [totL]⟩, hE⟩) | (exact ⟨none, 0, [], _, rfl, .no (fun h => hp20 h.2), Nest.nil, ⟨by simp, by simp [totL]⟩, hE⟩) | (have hi9 : i = B.ends.length := (by omega); subst hi9; exact ⟨_, _, pmN A B B.ends.length, _, rfl, .yes ⟨⟨hp11, hp15⟩, hp20⟩ rfl, hR.is.mono (Nat.zero_le _) (Nat.le_refl _), (pmN_tot hp11 hp15).2, hE⟩)

set_option maxHeartbeats 8000000 in
set_option maxRecDepth 100000 in
theorem law_PortMapsBetween (nA : NA) (A : Net) (nB : NA) (B : Net) (w : World) (hA : IsNet 0 w.heap.size w nA A) (hsA : SmN A) (hB : IsNet 0 w.heap.size w nB B) (hsB : SmN B) :
    Fn Try.prog 6 #[netV nA A, netV nB B] w (fun v w' => v = VB true ∧ Ext w w') := by
  have hE := Ext.refl w
  refine Fn_of Try.func6 rfl rfl (by kernel_rfl) rfl ?_
  refine W_seq ?_
  refine W_region ?_
  refine WL_m rfl (ev_box rfl) ?_
  rintro _ w2 ⟨rfl, hN2⟩
  have hz2 := hN2.size
  replace hE := hE.trans hN2.ext
  replace hA := hA.ext hN2.ext
  replace hB := hB.ext hN2.ext
  have hB2 : Blk w2 _ _ [_, _, _] := hN2.blk
  refine WL_m rfl (ev_box rfl) ?_
  rintro _ w3 ⟨rfl, hN3⟩
  have hz3 := hN3.size
  replace hE := hE.trans hN3.ext
  replace hA := hA.ext hN3.ext
  replace hB := hB.ext hN3.ext
  replace hB2 := hB2.ext hN3.ext
  have hB3 : Blk w3 _ _ [_, _, _] := hN3.blk
  refine WL_q rfl (ev_assign rfl) ?_
  refine WL_nil ?_
  refine thenE_n ?_
  refine W_seq ?_
  refine W_region ?_
  refine WL_q rfl (ev_assign rfl) ?_
  refine WL_nil ?_
  refine thenE_n ?_
  refine W_seq ?_
  refine W_region ?_
  refine WL_q rfl (ev_loads st25 sz25 rfl (cellsB hB2) rfl) ?_
  refine WL_q rfl (ev_move rfl) ?_
  refine WL_m rfl (ev_call rfl (szNetwork_spec _ A _ _ hA (by omega) hsA)) ?_
  rintro _ w19 ⟨r19, rfl, hE19, hr19⟩
  have hz19 := hE19.size
  replace hE := hE.trans hE19
  replace hA := hA.ext hE19
  replace hB := hB.ext hE19
  replace hB2 := hB2.ext hE19
  replace hB3 := hB3.ext hE19
  refine WL_q rfl (ev_assign rfl) ?_
  refine WL_nil ?_
  refine thenE_n ?_
  refine W_seq ?_
  refine W_seq ?_
  refine W_region ?_
  refine WL_q rfl (ev_move rfl) ?_
  refine WL_q rfl (ev_lss rfl rfl) ?_
  refine WL_nil ?_
  refine thenE_n ?_
  refine W_cond rfl (fun hg21 => ?_) (fun hg21 => ?_)
  · have hp21 := of_decide_eq_true hg21
    refine W_seq ?_
    refine W_region ?_
    refine WL_q rfl (ev_assign rfl) ?_
    refine WL_nil ?_
    refine thenE_n ?_
    refine W_ret ?_
    refine thenE_r ?_
    refine ret1 rfl rfl ?_
    first | (exact ⟨rfl, hE⟩) | (exact (tfX hg21).elim) | (exact (decF hg21).elim) | (exfalso; omega)
  · have hp21 := of_decide_eq_false hg21
    refine W_skip ?_
    refine thenE_n ?_
    refine W_seq ?_
    refine W_region ?_
    refine WL_q rfl (ev_loads st25 sz25 rfl (cellsB hB3) rfl) ?_
    refine WL_q rfl (ev_move rfl) ?_
    refine WL_m rfl (ev_call rfl (szNetwork_spec _ B _ _ hB (by omega) hsB)) ?_
    rintro _ w24 ⟨r24, rfl, hE24, hr24⟩
    have hz24 := hE24.size
    replace hE := hE.trans hE24
    replace hA := hA.ext hE24
    replace hB := hB.ext hE24
    replace hB2 := hB2.ext hE24
    replace hB3 := hB3.ext hE24
    refine WL_q rfl (ev_assign rfl) ?_
    refine WL_nil ?_
    refine thenE_n ?_
    refine W_seq ?_
    refine W_seq ?_
    refine W_region ?_
    refine WL_q rfl (ev_move rfl) ?_
    refine WL_q rfl (ev_lss rfl rfl) ?_
    refine WL_nil ?_
    refine thenE_n ?_
    refine W_cond rfl (fun hg26 => ?_) (fun hg26 => ?_)
    · have hp26 := of_decide_eq_true hg26
      refine W_seq ?_
      refine W_region ?_
      refine WL_q rfl (ev_assign rfl) ?_
      refine WL_nil ?_
      refine thenE_n ?_
      refine W_ret ?_
      refine thenE_r ?_
      refine ret1 rfl rfl ?_
      first | (exact ⟨rfl, hE⟩) | (exact (tfX hg26).elim) | (exact (decF hg26).elim) | (exfalso; omega)
    · have hp26 := of_decide_eq_false hg26
      refine W_skip ?_
      refine thenE_n ?_
      refine W_seq ?_
      refine W_drawE [(0, true), (2, true), (1, false), (3, false), (4, false), (5, true), (6, true), (7, true), (8, true), (9, true)] mixed (by kernel_rfl) rfl (by kernel_rfl) ?_
      intro wd8 hEd8 hzd8
      replace hE := hE.trans hEd8
      replace hA := hA.ext hEd8
      replace hB := hB.ext hEd8
      replace hB2 := hB2.ext hEd8
      replace hB3 := hB3.ext hEd8
      have hDd8 := Ext.refl wd8
      refine PW_q rfl rfl (fun wq hq => ev_loads st25 sz25 rfl (cellsB (hq.blk hB2)) rfl) ?_
      refine PW_q rfl rfl (fun wq hq => ev_loads st25 sz25 rfl (cellsB (hq.blk hB3)) rfl) ?_
      refine PW_m rfl rfl (ev_call rfl (toNetwork_spec _ A _ hA (by omega) (by omega))) ?_
      rintro _ w29 ⟨h29, rfl, hF29, hE29⟩
      have hz29 := hE29.size
      replace hE := hE.trans hE29
      replace hDd8 := hDd8.trans hE29
      have hN29 := hF29.is
      refine ⟨hDd8, ?_⟩
      have hA_3 := hA.ext hDd8
      have hB_3 := hB.ext hDd8
      have hB2_3 := hB2.ext hDd8
      have hB3_3 := hB3.ext hDd8
      refine PW_m rfl rfl (ev_call rfl (toNetwork_spec _ B _ hB_3 (by omega) (by omega))) ?_
      rintro _ w31 ⟨h31, rfl, hF31, hE31⟩
      have hz31 := hE31.size
      replace hE := hE.trans hE31
      replace hDd8 := hDd8.trans hE31
      replace hF29 := hF29.ext hE31
      replace hN29 := hN29.ext hE31
      have hN31 := hF31.is
      refine ⟨hDd8, ?_⟩
      have hA_4 := hA.ext hDd8
      have hB_4 := hB.ext hDd8
      have hB2_4 := hB2.ext hDd8
      have hB3_4 := hB3.ext hDd8
      refine PW_m rfl rfl (ev_call rfl (sPortMapsBetween_spec _ A _ B _ hN29 (by omega) (by omega) hN31 (by omega) (by omega))) ?_
      rintro _ w32 ⟨a32, c32, y32, q32, rfl, hr32, hx32, ⟨hm32, ht32⟩, hE32⟩
      have hz32 := hE32.size
      replace hE := hE.trans hE32
      replace hDd8 := hDd8.trans hE32
      replace hF29 := hF29.ext hE32
      replace hN29 := hN29.ext hE32
      replace hF31 := hF31.ext hE32
      replace hN31 := hN31.ext hE32
      refine ⟨hDd8, ?_⟩
      refine PW_q rfl rfl (fun wq hq => ev_move rfl) ?_
      refine PW_q rfl rfl (fun wq hq => ev_extract rfl rfl) ?_
      refine PW_q rfl rfl (fun wq hq => ev_extract rfl rfl) ?_
      refine PW_q rfl rfl (fun wq hq => ev_assign rfl) ?_
      refine PW_q rfl rfl (fun wq hq => ev_assign rfl) ?_
      replace hA := hA.ext hDd8
      replace hB := hB.ext hDd8
      replace hB2 := hB2.ext hDd8
      replace hB3 := hB3.ext hDd8
      refine PW_nil ?_
      refine thenE_n ?_
      refine W_seq ?_
      refine W_region ?_
      refine WL_q rfl (ev_loads st25 sz25 rfl (cellsB hB2) rfl) ?_
      refine WL_m rfl (ev_call rfl (toNetwork_spec _ A _ hA (by omega) (by omega))) ?_
      rintro _ w36 ⟨h36, rfl, hF36, hE36⟩
      have hz36 := hE36.size
      replace hE := hE.trans hE36
      replace hA := hA.ext hE36
      replace hB := hB.ext hE36
      replace hB2 := hB2.ext hE36
      replace hB3 := hB3.ext hE36
      replace hF29 := hF29.ext hE36
      replace hN29 := hN29.ext hE36
      replace hF31 := hF31.ext hE36
      replace hN31 := hN31.ext hE36
      replace hx32 := hx32.ext hE36
      have hN36 := hF36.is
      refine WL_m rfl (ev_alloc zr31) ?_
      rintro _ w8 ⟨rfl, hN8⟩
      have hz8 := hN8.size
      replace hE := hE.trans hN8.ext
      replace hA := hA.ext hN8.ext
      replace hB := hB.ext hN8.ext
      replace hB2 := hB2.ext hN8.ext
      replace hB3 := hB3.ext hN8.ext
      replace hF29 := hF29.ext hN8.ext
      replace hN29 := hN29.ext hN8.ext
      replace hF31 := hF31.ext hN8.ext
      replace hN31 := hN31.ext hN8.ext
      replace hx32 := hx32.ext hN8.ext
      replace hF36 := hF36.ext hN8.ext
      replace hN36 := hN36.ext hN8.ext
      have hB8 : Blk w8 _ _ [_, _, _] := hN8.blk
      refine WL_s (ev_stores sz31 rfl rfl rfl (by simp [Value.oneCell']) hB8 (by simp)) ?_
      rintro _ w9_3 hS9_3
      have hz9_3 := hS9_3.size
      replace hE := hE.sto hS9_3 (by omega)
      replace hA := hA.sto hS9_3 (by omega)
      replace hB := hB.sto hS9_3 (by omega)
      replace hB2 := hB2.sto hS9_3 (by omega)
      replace hB3 := hB3.sto hS9_3 (by omega)
      replace hF29 := hF29.sto hS9_3 (by omega)
      replace hN29 := hN29.sto hS9_3 (by omega)
      replace hF31 := hF31.sto hS9_3 (by omega)
      replace hN31 := hN31.sto hS9_3 (by omega)
      replace hx32 := hx32.sto hS9_3 (by omega)
      replace hF36 := hF36.sto hS9_3 (by omega)
      replace hN36 := hN36.sto hS9_3 (by omega)
      replace hB8 : Blk w9_3 _ _ [_, _, _] := hS9_3.blk
      refine WL_nil ?_
      refine thenE_n ?_
      refine W_seq ?_
      refine W_region ?_
      refine WL_q rfl (ev_loads st25 sz25 rfl (cellsB hB3) rfl) ?_
      refine WL_m rfl (ev_call rfl (toNetwork_spec _ B _ hB (by omega) (by omega))) ?_
      rintro _ w38 ⟨h38, rfl, hF38, hE38⟩
      have hz38 := hE38.size
      replace hE := hE.trans hE38
      replace hA := hA.ext hE38
      replace hB := hB.ext hE38
      replace hB2 := hB2.ext hE38
      replace hB3 := hB3.ext hE38
      replace hF29 := hF29.ext hE38
      replace hN29 := hN29.ext hE38
      replace hF31 := hF31.ext hE38
      replace hN31 := hN31.ext hE38
      replace hx32 := hx32.ext hE38
      replace hF36 := hF36.ext hE38
      replace hN36 := hN36.ext hE38
      replace hB8 := hB8.ext hE38
      have hN38 := hF38.is
      refine WL_m rfl (ev_alloc zr31) ?_
      rintro _ w9 ⟨rfl, hN9⟩
      have hz9 := hN9.size
      replace hE := hE.trans hN9.ext
      replace hA := hA.ext hN9.ext
      replace hB := hB.ext hN9.ext
      replace hB2 := hB2.ext hN9.ext
      replace hB3 := hB3.ext hN9.ext
      replace hF29 := hF29.ext hN9.ext
      replace hN29 := hN29.ext hN9.ext
      replace hF31 := hF31.ext hN9.ext
      replace hN31 := hN31.ext hN9.ext
      replace hx32 := hx32.ext hN9.ext
      replace hF36 := hF36.ext hN9.ext
      replace hN36 := hN36.ext hN9.ext
      replace hB8 := hB8.ext hN9.ext
      replace hF38 := hF38.ext hN9.ext
      replace hN38 := hN38.ext hN9.ext
      have hB9 : Blk w9 _ _ [_, _, _] := hN9.blk
      refine WL_s (ev_stores sz31 rfl rfl rfl (by simp [Value.oneCell']) hB9 (by simp)) ?_
      rintro _ w10_3 hS10_3
      have hz10_3 := hS10_3.size
      replace hE := hE.sto hS10_3 (by omega)
      replace hA := hA.sto hS10_3 (by omega)
      replace hB := hB.sto hS10_3 (by omega)
      replace hB2 := hB2.sto hS10_3 (by omega)
      replace hB3 := hB3.sto hS10_3 (by omega)
      replace hF29 := hF29.sto hS10_3 (by omega)
      replace hN29 := hN29.sto hS10_3 (by omega)
      replace hF31 := hF31.sto hS10_3 (by omega)
      replace hN31 := hN31.sto hS10_3 (by omega)
      replace hx32 := hx32.sto hS10_3 (by omega)
      replace hF36 := hF36.sto hS10_3 (by omega)
      replace hN36 := hN36.sto hS10_3 (by omega)
      replace hB8 := hB8.sto hS10_3 (by omega)
      replace hF38 := hF38.sto hS10_3 (by omega)
      replace hN38 := hN38.sto hS10_3 (by omega)
      replace hB9 : Blk w10_3 _ _ [_, _, _] := hS10_3.blk
      refine WL_nil ?_
      refine thenE_n ?_
      refine W_seq ?_
      refine W_region ?_
      refine WL_q rfl (ev_loads st31 sz31 rfl (cellsB hB8) rfl) ?_
      refine WL_q rfl (ev_loads st31 sz31 rfl (cellsB hB9) rfl) ?_
      refine WL_m rfl (ev_call rfl (PortMapsBetween_spec _ A _ B _ hN36 (by omega) (by omega) hN38 (by omega) (by omega))) ?_
      rintro _ w42 ⟨a42, c42, y42, q42, rfl, hr42, hO42, ⟨hl42, hm42, ht42⟩, hE42⟩
      have hz42 := hE42.size
      replace hE := hE.trans hE42
      replace hA := hA.ext hE42
      replace hB := hB.ext hE42
      replace hB2 := hB2.ext hE42
      replace hB3 := hB3.ext hE42
      replace hF29 := hF29.ext hE42
      replace hN29 := hN29.ext hE42
      replace hF31 := hF31.ext hE42
      replace hN31 := hN31.ext hE42
      replace hx32 := hx32.ext hE42
      replace hF36 := hF36.ext hE42
      replace hN36 := hN36.ext hE42
      replace hB8 := hB8.ext hE42
      replace hF38 := hF38.ext hE42
      replace hN38 := hN38.ext hE42
      replace hB9 := hB9.ext hE42
      refine WL_q rfl (ev_move rfl) ?_
      refine WL_q rfl (ev_extract rfl rfl) ?_
      refine WL_q rfl (ev_extract rfl rfl) ?_
      refine WL_q rfl (ev_assign rfl) ?_
      refine WL_q rfl (ev_assign rfl) ?_
      refine WL_nil ?_
      refine thenE_n ?_
      refine W_seq ?_
      refine W_seq ?_
      refine W_region ?_
      refine WL_q rfl (ev_move rfl) ?_
      refine WL_q rfl (ev_move rfl) ?_
      refine WL_m rfl (ev_call rfl (eqIntSS_spec _ _ _ _ y42 y32 _ (hO42.is) hx32 (by omega))) ?_
      rintro _ w47 ⟨rfl, hE47⟩
      have hz47 := hE47.size
      replace hE := hE.trans hE47
      replace hA := hA.ext hE47
      replace hB := hB.ext hE47
      replace hB2 := hB2.ext hE47
      replace hB3 := hB3.ext hE47
      replace hF29 := hF29.ext hE47
      replace hN29 := hN29.ext hE47
      replace hF31 := hF31.ext hE47
      replace hN31 := hN31.ext hE47
      replace hx32 := hx32.ext hE47
      replace hF36 := hF36.ext hE47
      replace hN36 := hN36.ext hE47
      replace hB8 := hB8.ext hE47
      replace hF38 := hF38.ext hE47
      replace hN38 := hN38.ext hE47
      replace hB9 := hB9.ext hE47
      replace hO42 := hO42.ext hE47
      refine WL_q rfl (ev_not rfl) ?_
      refine WL_q rfl (ev_move rfl) ?_
      refine WL_splitv (t := 49) rfl (fun hg48 => ?_) (fun hg48 => ?_)
      · have hg47 := not_true hg48
        refine WL_no rfl rfl hg48 rfl ?_
        refine WL_no rfl rfl hg48 rfl ?_
        refine WL_no rfl rfl hg48 rfl ?_
        refine WL_q rfl (ev_pick_t rfl hg48 rfl) ?_
        refine WL_nil ?_
        refine thenE_n ?_
        refine W_cond_t rfl ?_
        refine W_seq ?_
        refine W_region ?_
        refine WL_q rfl (ev_assign rfl) ?_
        refine WL_nil ?_
        refine thenE_n ?_
        refine W_ret ?_
        refine thenE_r ?_
        refine ret1 rfl rfl ?_
        first | (exact ⟨rfl, hE⟩) | (exact (bneE hg47 (hr42.det1 hr32)).elim) | (exact absurd (hr42.det1 hr32) hp47) | (exact absurd (hr42.det1 hr32) (of_decide_eq_false hg47)) | (exact (bneE hg47 (hr42.det2 hr32)).elim) | (exact absurd (hr42.det2 hr32) hp47) | (exact absurd (hr42.det2 hr32) (of_decide_eq_false hg47)) | (exact (bneE hg47 (hr42.det3 hr32)).elim) | (exact absurd (hr42.det3 hr32) hp47) | (exact absurd (hr42.det3 hr32) (of_decide_eq_false hg47)) | (exact (tfX hg47).elim) | (exact (decF hg47).elim) | (exfalso; omega)
      · have hg47 := not_false hg48
        refine WL_qg rfl rfl hg48 rfl (ev_move rfl) ?_
        refine WL_qg rfl rfl hg48 rfl (ev_move rfl) ?_
        refine WL_qg rfl rfl hg48 rfl (ev_neq_b Try.underlying4 rfl rfl) ?_
        refine WL_q rfl (ev_pick_f rfl hg48 rfl) ?_
        refine WL_nil ?_
        refine thenE_n ?_
        refine W_cond rfl (fun hg52 => ?_) (fun hg52 => ?_)
        · refine W_seq ?_
          refine W_region ?_
          refine WL_q rfl (ev_assign rfl) ?_
          refine WL_nil ?_
          refine thenE_n ?_
          refine W_ret ?_
          refine thenE_r ?_
          refine ret1 rfl rfl ?_
          first | (exact ⟨rfl, hE⟩) | (exact (bneE hg52 (hr42.det1 hr32)).elim) | (exact absurd (hr42.det1 hr32) hp52) | (exact absurd (hr42.det1 hr32) (of_decide_eq_false hg52)) | (exact (bneE hg52 (hr42.det2 hr32)).elim) | (exact absurd (hr42.det2 hr32) hp52) | (exact absurd (hr42.det2 hr32) (of_decide_eq_false hg52)) | (exact (bneE hg52 (hr42.det3 hr32)).elim) | (exact absurd (hr42.det3 hr32) hp52) | (exact absurd (hr42.det3 hr32) (of_decide_eq_false hg52)) | (exact (tfX hg52).elim) | (exact (decF hg52).elim) | (exfalso; omega)
        · refine W_skip ?_
          refine thenE_n ?_
          refine W_seq ?_
          refine W_seq ?_
          refine W_drawE [(0, true), (1, true), (2, false), (3, false), (4, true)] mixed (by kernel_rfl) rfl (by kernel_rfl) ?_
          intro wd14 hEd14 hzd14
          replace hE := hE.trans hEd14
          replace hA := hA.ext hEd14
          replace hB := hB.ext hEd14
          replace hB2 := hB2.ext hEd14
          replace hB3 := hB3.ext hEd14
          replace hF29 := hF29.ext hEd14
          replace hN29 := hN29.ext hEd14
          replace hF31 := hF31.ext hEd14
          replace hN31 := hN31.ext hEd14
          replace hx32 := hx32.ext hEd14
          replace hF36 := hF36.ext hEd14
          replace hN36 := hN36.ext hEd14
          replace hB8 := hB8.ext hEd14
          replace hF38 := hF38.ext hEd14
          replace hN38 := hN38.ext hEd14
          replace hB9 := hB9.ext hEd14
          replace hO42 := hO42.ext hEd14
          have hDd14 := Ext.refl wd14
          refine PW_q rfl rfl (fun wq hq => ev_loads st31 sz31 rfl (cellsB (hq.blk hB8)) rfl) ?_
          refine PW_q rfl rfl (fun wq hq => ev_loads st25 sz25 rfl (cellsB (hq.blk hB2)) rfl) ?_
          refine PW_m rfl rfl (ev_call rfl (toNetwork_spec _ A _ hA (by omega) (by omega))) ?_
          rintro _ w56 ⟨h56, rfl, hF56, hE56⟩
          have hz56 := hE56.size
          replace hE := hE.trans hE56
          replace hDd14 := hDd14.trans hE56
          have hN56 := hF56.is
          refine ⟨hDd14, ?_⟩
          have hA_3 := hA.ext hDd14
          have hB_3 := hB.ext hDd14
          have hB2_3 := hB2.ext hDd14
          have hB3_3 := hB3.ext hDd14
          have hF29_3 := hF29.ext hDd14
          have hN29_3 := hN29.ext hDd14
          have hF31_3 := hF31.ext hDd14
          have hN31_3 := hN31.ext hDd14
          have hx32_3 := hx32.ext hDd14
          have hF36_3 := hF36.ext hDd14
          have hN36_3 := hN36.ext hDd14
          have hB8_3 := hB8.ext hDd14
          have hF38_3 := hF38.ext hDd14
          have hN38_3 := hN38.ext hDd14
          have hB9_3 := hB9.ext hDd14
          have hO42_3 := hO42.ext hDd14
          refine PW_m rfl rfl (ev_call rfl (eqNetwork_spec _ _ A _ hN36_3 hN56 (by omega))) ?_
          rintro _ w57 ⟨rfl, hE57⟩
          have hz57 := hE57.size
          replace hE := hE.trans hE57
          replace hDd14 := hDd14.trans hE57
          replace hF56 := hF56.ext hE57
          replace hN56 := hN56.ext hE57
          refine ⟨hDd14, ?_⟩
          refine PW_q rfl rfl (fun wq hq => ev_not rfl) ?_
          replace hA := hA.ext hDd14
          replace hB := hB.ext hDd14
          replace hB2 := hB2.ext hDd14
          replace hB3 := hB3.ext hDd14
          replace hF29 := hF29.ext hDd14
          replace hN29 := hN29.ext hDd14
          replace hF31 := hF31.ext hDd14
          replace hN31 := hN31.ext hDd14
          replace hx32 := hx32.ext hDd14
          replace hF36 := hF36.ext hDd14
          replace hN36 := hN36.ext hDd14
          replace hB8 := hB8.ext hDd14
          replace hF38 := hF38.ext hDd14
          replace hN38 := hN38.ext hDd14
          replace hB9 := hB9.ext hDd14
          replace hO42 := hO42.ext hDd14
          refine PW_nil ?_
          refine thenE_n ?_
          refine W_cond rfl (fun hg58 => ?_) (fun hg58 => ?_)
          · have hg57 := not_true hg58
            refine W_seq ?_
            refine W_region ?_
            refine WL_q rfl (ev_assign rfl) ?_
            refine WL_nil ?_
            refine thenE_n ?_
            refine W_ret ?_
            refine thenE_r ?_
            refine ret1 rfl rfl ?_
            first | (exact ⟨rfl, hE⟩) | (exact (bneE hg57 (hr42.det1 hr32)).elim) | (exact absurd (hr42.det1 hr32) hp57) | (exact absurd (hr42.det1 hr32) (of_decide_eq_false hg57)) | (exact (bneE hg57 (hr42.det2 hr32)).elim) | (exact absurd (hr42.det2 hr32) hp57) | (exact absurd (hr42.det2 hr32) (of_decide_eq_false hg57)) | (exact (bneE hg57 (hr42.det3 hr32)).elim) | (exact absurd (hr42.det3 hr32) hp57) | (exact absurd (hr42.det3 hr32) (of_decide_eq_false hg57)) | (exact (tfX hg57).elim) | (exact (decF hg57).elim) | (exfalso; omega)
          · have hg57 := not_false hg58
            refine W_skip ?_
            refine thenE_n ?_
            refine W_seq ?_
            refine W_seq ?_
            refine W_drawE [(0, true), (1, true), (2, false), (3, false), (4, true)] mixed (by kernel_rfl) rfl (by kernel_rfl) ?_
            intro wd16 hEd16 hzd16
            replace hE := hE.trans hEd16
            replace hA := hA.ext hEd16
            replace hB := hB.ext hEd16
            replace hB2 := hB2.ext hEd16
            replace hB3 := hB3.ext hEd16
            replace hF29 := hF29.ext hEd16
            replace hN29 := hN29.ext hEd16
            replace hF31 := hF31.ext hEd16
            replace hN31 := hN31.ext hEd16
            replace hx32 := hx32.ext hEd16
            replace hF36 := hF36.ext hEd16
            replace hN36 := hN36.ext hEd16
            replace hB8 := hB8.ext hEd16
            replace hF38 := hF38.ext hEd16
            replace hN38 := hN38.ext hEd16
            replace hB9 := hB9.ext hEd16
            replace hO42 := hO42.ext hEd16
            replace hF56 := hF56.ext hEd16
            replace hN56 := hN56.ext hEd16
            have hDd16 := Ext.refl wd16
            refine PW_q rfl rfl (fun wq hq => ev_loads st31 sz31 rfl (cellsB (hq.blk hB9)) rfl) ?_
            refine PW_q rfl rfl (fun wq hq => ev_loads st25 sz25 rfl (cellsB (hq.blk hB3)) rfl) ?_
            refine PW_m rfl rfl (ev_call rfl (toNetwork_spec _ B _ hB (by omega) (by omega))) ?_
            rintro _ w61 ⟨h61, rfl, hF61, hE61⟩
            have hz61 := hE61.size
            replace hE := hE.trans hE61
            replace hDd16 := hDd16.trans hE61
            have hN61 := hF61.is
            refine ⟨hDd16, ?_⟩
            have hA_3 := hA.ext hDd16
            have hB_3 := hB.ext hDd16
            have hB2_3 := hB2.ext hDd16
            have hB3_3 := hB3.ext hDd16
            have hF29_3 := hF29.ext hDd16
            have hN29_3 := hN29.ext hDd16
            have hF31_3 := hF31.ext hDd16
            have hN31_3 := hN31.ext hDd16
            have hx32_3 := hx32.ext hDd16
            have hF36_3 := hF36.ext hDd16
            have hN36_3 := hN36.ext hDd16
            have hB8_3 := hB8.ext hDd16
            have hF38_3 := hF38.ext hDd16
            have hN38_3 := hN38.ext hDd16
            have hB9_3 := hB9.ext hDd16
            have hO42_3 := hO42.ext hDd16
            have hF56_3 := hF56.ext hDd16
            have hN56_3 := hN56.ext hDd16
            refine PW_m rfl rfl (ev_call rfl (eqNetwork_spec _ _ B _ hN38_3 hN61 (by omega))) ?_
            rintro _ w62 ⟨rfl, hE62⟩
            have hz62 := hE62.size
            replace hE := hE.trans hE62
            replace hDd16 := hDd16.trans hE62
            replace hF61 := hF61.ext hE62
            replace hN61 := hN61.ext hE62
            refine ⟨hDd16, ?_⟩
            refine PW_q rfl rfl (fun wq hq => ev_not rfl) ?_
            replace hA := hA.ext hDd16
            replace hB := hB.ext hDd16
            replace hB2 := hB2.ext hDd16
            replace hB3 := hB3.ext hDd16
            replace hF29 := hF29.ext hDd16
            replace hN29 := hN29.ext hDd16
            replace hF31 := hF31.ext hDd16
            replace hN31 := hN31.ext hDd16
            replace hx32 := hx32.ext hDd16
            replace hF36 := hF36.ext hDd16
            replace hN36 := hN36.ext hDd16
            replace hB8 := hB8.ext hDd16
            replace hF38 := hF38.ext hDd16
            replace hN38 := hN38.ext hDd16
            replace hB9 := hB9.ext hDd16
            replace hO42 := hO42.ext hDd16
            replace hF56 := hF56.ext hDd16
            replace hN56 := hN56.ext hDd16
            refine PW_nil ?_
            refine thenE_n ?_
            refine W_cond rfl (fun hg63 => ?_) (fun hg63 => ?_)
            · have hg62 := not_true hg63
              refine W_seq ?_
              refine W_region ?_
              refine WL_q rfl (ev_assign rfl) ?_
              refine WL_nil ?_
              refine thenE_n ?_
              refine W_ret ?_
              refine thenE_r ?_
              refine ret1 rfl rfl ?_
              first | (exact ⟨rfl, hE⟩) | (exact (bneE hg62 (hr42.det1 hr32)).elim) | (exact absurd (hr42.det1 hr32) hp62) | (exact absurd (hr42.det1 hr32) (of_decide_eq_false hg62)) | (exact (bneE hg62 (hr42.det2 hr32)).elim) | (exact absurd (hr42.det2 hr32) hp62) | (exact absurd (hr42.det2 hr32) (of_decide_eq_false hg62)) | (exact (bneE hg62 (hr42.det3 hr32)).elim) | (exact absurd (hr42.det3 hr32) hp62) | (exact absurd (hr42.det3 hr32) (of_decide_eq_false hg62)) | (exact (tfX hg62).elim) | (exact (decF hg62).elim) | (exfalso; omega)
            · have hg62 := not_false hg63
              refine W_skip ?_
              refine thenE_n ?_
              refine W_seq ?_
              refine W_region ?_
              refine WL_q rfl (ev_assign rfl) ?_
              refine WL_nil ?_
              refine thenE_n ?_
              refine W_seq ?_
              refine W_region ?_
              refine WL_q rfl (ev_loads st31 sz31 rfl (cellsB hB8) rfl) ?_
              refine WL_q rfl (ev_move rfl) ?_
              refine WL_m rfl (ev_call rfl (markNetwork_spec _ A _ _ hF36 (by omega) (by omega) (by omega))) ?_
              rintro _ w66 ⟨r66, rfl, hr66, hK66⟩
              have hz66 := hK66.size
              replace hE := hE.mrk hK66 (by omega)
              replace hA := hA.mrk hK66 (by omega)
              replace hB := hB.mrk hK66 (by omega)
              replace hB2 := hB2.mrk hK66 (by omega)
              replace hB3 := hB3.mrk hK66 (by omega)
              replace hF29 := hF29.mrk hK66 (by omega)
              replace hN29 := hN29.mrk hK66 (by omega)
              replace hF31 := hF31.mrk hK66 (by omega)
              replace hN31 := hN31.mrk hK66 (by omega)
              replace hx32 := hx32.mrk hK66 (by omega)
              replace hB8 := hB8.mrk hK66 (by omega)
              replace hF38 := hF38.mrk hK66 (by omega)
              replace hN38 := hN38.mrk hK66 (by omega)
              replace hB9 := hB9.mrk hK66 (by omega)
              replace hO42 := hO42.mrk hK66 (by omega)
              replace hF56 := hF56.mrk hK66 (by omega)
              replace hN56 := hN56.mrk hK66 (by omega)
              replace hF61 := hF61.mrk hK66 (by omega)
              replace hN61 := hN61.mrk hK66 (by omega)
              refine WL_q rfl (ev_assign rfl) ?_
              refine WL_nil ?_
              refine thenE_n ?_
              refine W_seq ?_
              refine W_region ?_
              refine WL_q rfl (ev_loads st31 sz31 rfl (cellsB hB9) rfl) ?_
              refine WL_q rfl (ev_move rfl) ?_
              refine WL_m rfl (ev_call rfl (markNetwork_spec _ B _ _ hF38 (by omega) (by omega) (by omega))) ?_
              rintro _ w69 ⟨r69, rfl, hr69, hK69⟩
              have hz69 := hK69.size
              replace hE := hE.mrk hK69 (by omega)
              replace hA := hA.mrk hK69 (by omega)
              replace hB := hB.mrk hK69 (by omega)
              replace hB2 := hB2.mrk hK69 (by omega)
              replace hB3 := hB3.mrk hK69 (by omega)
              replace hF29 := hF29.mrk hK69 (by omega)
              replace hN29 := hN29.mrk hK69 (by omega)
              replace hF31 := hF31.mrk hK69 (by omega)
              replace hN31 := hN31.mrk hK69 (by omega)
              replace hx32 := hx32.mrk hK69 (by omega)
              replace hB8 := hB8.mrk hK69 (by omega)
              replace hB9 := hB9.mrk hK69 (by omega)
              replace hO42 := hO42.mrk hK69 (by omega)
              replace hF56 := hF56.mrk hK69 (by omega)
              replace hN56 := hN56.mrk hK69 (by omega)
              replace hF61 := hF61.mrk hK69 (by omega)
              replace hN61 := hN61.mrk hK69 (by omega)
              refine WL_q rfl (ev_assign rfl) ?_
              refine WL_nil ?_
              refine thenE_n ?_
              refine W_seq ?_
              refine W_seq ?_
              refine W_region ?_
              refine WL_q rfl (ev_move rfl) ?_
              refine WL_q rfl (ev_lss rfl rfl) ?_
              refine WL_q rfl (ev_move rfl) ?_
              refine WL_splitv (t := 72) rfl (fun hg71 => ?_) (fun hg71 => ?_)
              · have hp71 := of_decide_eq_true hg71
                refine WL_no rfl rfl hg71 rfl ?_
                refine WL_no rfl rfl hg71 rfl ?_
                refine WL_no rfl rfl hg71 rfl ?_
                refine WL_no rfl rfl hg71 rfl ?_
                refine WL_q rfl (ev_pick_t rfl hg71 rfl) ?_
                refine WL_q rfl (ev_move rfl) ?_
                refine WL_no rfl rfl rfl rfl ?_
                refine WL_no rfl rfl rfl rfl ?_
                refine WL_no rfl rfl rfl rfl ?_
                refine WL_q rfl (ev_pick_t rfl rfl rfl) ?_
                refine WL_nil ?_
                refine thenE_n ?_
                refine W_cond_t rfl ?_
                refine W_seq ?_
                refine W_region ?_
                refine WL_q rfl (ev_assign rfl) ?_
                refine WL_nil ?_
                refine thenE_n ?_
                refine W_ret ?_
                refine thenE_r ?_
                refine ret1 rfl rfl ?_
                first | (exact ⟨rfl, hE⟩) | (exact (bneE hg71 (hr42.det1 hr32)).elim) | (exact absurd (hr42.det1 hr32) hp71) | (exact absurd (hr42.det1 hr32) (of_decide_eq_false hg71)) | (exact (bneE hg71 (hr42.det2 hr32)).elim) | (exact absurd (hr42.det2 hr32) hp71) | (exact absurd (hr42.det2 hr32) (of_decide_eq_false hg71)) | (exact (bneE hg71 (hr42.det3 hr32)).elim) | (exact absurd (hr42.det3 hr32) hp71) | (exact absurd (hr42.det3 hr32) (of_decide_eq_false hg71)) | (exact (tfX hg71).elim) | (exact (decF hg71).elim) | (exfalso; omega)
              · have hp71 := of_decide_eq_false hg71
                refine WL_qg rfl rfl hg71 rfl (ev_move rfl) ?_
                refine WL_qg rfl rfl hg71 rfl (ev_move rfl) ?_
                refine WL_mg rfl rfl hg71 rfl (ev_call rfl (eqIntSS_spec _ _ _ _ y42 y32 _ (hO42.is) hx32 (by omega))) ?_
                rintro _ w75 ⟨rfl, hE75⟩
                have hz75 := hE75.size
                replace hE := hE.trans hE75
                replace hA := hA.ext hE75
                replace hB := hB.ext hE75
                replace hB2 := hB2.ext hE75
                replace hB3 := hB3.ext hE75
                replace hF29 := hF29.ext hE75
                replace hN29 := hN29.ext hE75
                replace hF31 := hF31.ext hE75
                replace hN31 := hN31.ext hE75
                replace hx32 := hx32.ext hE75
                replace hB8 := hB8.ext hE75
                replace hB9 := hB9.ext hE75
                replace hO42 := hO42.ext hE75
                replace hF56 := hF56.ext hE75
                replace hN56 := hN56.ext hE75
                replace hF61 := hF61.ext hE75
                replace hN61 := hN61.ext hE75
                refine WL_qg rfl rfl hg71 rfl (ev_not rfl) ?_
                refine WL_q rfl (ev_pick_f rfl hg71 rfl) ?_
                refine WL_q rfl (ev_move rfl) ?_
                refine WL_splitv (t := 78) rfl (fun hg76 => ?_) (fun hg76 => ?_)
                · have hg75 := not_true hg76
                  refine WL_no rfl rfl hg76 rfl ?_
                  refine WL_no rfl rfl hg76 rfl ?_
                  refine WL_no rfl rfl hg76 rfl ?_
                  refine WL_q rfl (ev_pick_t rfl hg76 rfl) ?_
                  refine WL_nil ?_
                  refine thenE_n ?_
                  refine W_cond_t rfl ?_
                  refine W_seq ?_
                  refine W_region ?_
                  refine WL_q rfl (ev_assign rfl) ?_
                  refine WL_nil ?_
                  refine thenE_n ?_
                  refine W_ret ?_
                  refine thenE_r ?_
                  refine ret1 rfl rfl ?_
                  first | (exact ⟨rfl, hE⟩) | (exact (bneE hg75 (hr42.det1 hr32)).elim) | (exact absurd (hr42.det1 hr32) hp75) | (exact absurd (hr42.det1 hr32) (of_decide_eq_false hg75)) | (exact (bneE hg75 (hr42.det2 hr32)).elim) | (exact absurd (hr42.det2 hr32) hp75) | (exact absurd (hr42.det2 hr32) (of_decide_eq_false hg75)) | (exact (bneE hg75 (hr42.det3 hr32)).elim) | (exact absurd (hr42.det3 hr32) hp75) | (exact absurd (hr42.det3 hr32) (of_decide_eq_false hg75)) | (exact (tfX hg75).elim) | (exact (decF hg75).elim) | (exfalso; omega)
                · have hg75 := not_false hg76
                  refine WL_qg rfl rfl hg76 rfl (ev_move rfl) ?_
                  refine WL_qg rfl rfl hg76 rfl (ev_move rfl) ?_
                  refine WL_qg rfl rfl hg76 rfl (ev_neq_b Try.underlying4 rfl rfl) ?_
                  refine WL_q rfl (ev_pick_f rfl hg76 rfl) ?_
                  refine WL_nil ?_
                  refine thenE_n ?_
                  refine W_cond rfl (fun hg81 => ?_) (fun hg81 => ?_)
                  · refine W_seq ?_
                    refine W_region ?_
                    refine WL_q rfl (ev_assign rfl) ?_
                    refine WL_nil ?_
                    refine thenE_n ?_
                    refine W_ret ?_
                    refine thenE_r ?_
                    refine ret1 rfl rfl ?_
                    first | (exact ⟨rfl, hE⟩) | (exact (bneE hg81 (hr42.det1 hr32)).elim) | (exact absurd (hr42.det1 hr32) hp81) | (exact absurd (hr42.det1 hr32) (of_decide_eq_false hg81)) | (exact (bneE hg81 (hr42.det2 hr32)).elim) | (exact absurd (hr42.det2 hr32) hp81) | (exact absurd (hr42.det2 hr32) (of_decide_eq_false hg81)) | (exact (bneE hg81 (hr42.det3 hr32)).elim) | (exact absurd (hr42.det3 hr32) hp81) | (exact absurd (hr42.det3 hr32) (of_decide_eq_false hg81)) | (exact (tfX hg81).elim) | (exact (decF hg81).elim) | (exfalso; omega)
                  · refine W_skip ?_
                    refine thenE_n ?_
                    refine W_seq ?_
                    refine W_region ?_
                    refine WL_q rfl (ev_assign rfl) ?_
                    refine WL_nil ?_
                    refine thenE_n ?_
                    refine W_seq ?_
                    refine W_region ?_
                    refine WL_q rfl (ev_move rfl) ?_
                    refine WL_q rfl (ev_move rfl) ?_
                    refine WL_m rfl (ev_call rfl (markIntSS_rows _ _ _ y42 _ _ hO42 (by omega) (by omega) (by omega) (by omega))) ?_
                    rintro _ w85 ⟨rfl, hO85, hK85⟩
                    have hz85 := hK85.size
                    have hR85 := hK85
                    replace hE := hE.rg hR85 (by omega)
                    replace hA := hA.rg hR85 (by omega)
                    replace hB := hB.rg hR85 (by omega)
                    replace hB2 := hB2.rg hR85 (by omega)
                    replace hB3 := hB3.rg hR85 (by omega)
                    replace hF29 := hF29.rg hR85 (by omega)
                    replace hN29 := hN29.rg hR85 (by omega)
                    replace hF31 := hF31.rg hR85 (by omega)
                    replace hN31 := hN31.rg hR85 (by omega)
                    replace hx32 := hx32.rg hR85 (by omega)
                    replace hB8 := hB8.rg hR85 (by omega)
                    replace hB9 := hB9.rg hR85 (by omega)
                    replace hF56 := hF56.rg hR85 (by omega)
                    replace hN56 := hN56.rg hR85 (by omega)
                    replace hF61 := hF61.rg hR85 (by omega)
                    replace hN61 := hN61.rg hR85 (by omega)
                    replace hO42 := hO85
                    refine WL_q rfl (ev_assign rfl) ?_
                    refine WL_nil ?_
                    refine thenE_n ?_
                    refine W_seq ?_
                    refine W_region ?_
                    refine WL_q rfl (ev_assign rfl) ?_
                    refine WL_nil ?_
                    refine thenE_n ?_
                    refine W_seq ?_
                    refine W_region ?_
                    refine WL_q rfl (ev_move rfl) ?_
                    refine WL_q rfl (ev_move rfl) ?_
                    refine WL_m rfl (ev_call rfl (heldIntSS_spec _ _ y42 _ _ hO42.is rfl (by omega) (by omega) (by omega))) ?_
                    rintro _ w88 ⟨rfl, hE88⟩
                    have hz88 := hE88.size
                    replace hE := hE.trans hE88
                    replace hA := hA.ext hE88
                    replace hB := hB.ext hE88
                    replace hB2 := hB2.ext hE88
                    replace hB3 := hB3.ext hE88
                    replace hF29 := hF29.ext hE88
                    replace hN29 := hN29.ext hE88
                    replace hF31 := hF31.ext hE88
                    replace hN31 := hN31.ext hE88
                    replace hx32 := hx32.ext hE88
                    replace hB8 := hB8.ext hE88
                    replace hB9 := hB9.ext hE88
                    replace hO42 := hO42.ext hE88
                    replace hF56 := hF56.ext hE88
                    replace hN56 := hN56.ext hE88
                    replace hF61 := hF61.ext hE88
                    replace hN61 := hN61.ext hE88
                    refine WL_q rfl (ev_assign rfl) ?_
                    refine WL_nil ?_
                    refine thenE_n ?_
                    refine W_seq ?_
                    refine W_seq ?_
                    refine W_region ?_
                    refine WL_q rfl (ev_move rfl) ?_
                    refine WL_q rfl (ev_lss rfl rfl) ?_
                    refine WL_nil ?_
                    refine thenE_n ?_
                    refine W_cond rfl (fun hg90 => ?_) (fun hg90 => ?_)
                    · have hp90 := of_decide_eq_true hg90
                      refine W_seq ?_
                      refine W_region ?_
                      refine WL_q rfl (ev_assign rfl) ?_
                      refine WL_nil ?_
                      refine thenE_n ?_
                      refine W_ret ?_
                      refine thenE_r ?_
                      refine ret1 rfl rfl ?_
                      first | (exact ⟨rfl, hE⟩) | (exact (bneE hg90 (hr42.det1 hr32)).elim) | (exact absurd (hr42.det1 hr32) hp90) | (exact absurd (hr42.det1 hr32) (of_decide_eq_false hg90)) | (exact (bneE hg90 (hr42.det2 hr32)).elim) | (exact absurd (hr42.det2 hr32) hp90) | (exact absurd (hr42.det2 hr32) (of_decide_eq_false hg90)) | (exact (bneE hg90 (hr42.det3 hr32)).elim) | (exact absurd (hr42.det3 hr32) hp90) | (exact absurd (hr42.det3 hr32) (of_decide_eq_false hg90)) | (exact (tfX hg90).elim) | (exact (decF hg90).elim) | (exfalso; omega)
                    · have hp90 := of_decide_eq_false hg90
                      refine W_skip ?_
                      refine thenE_n ?_
                      refine W_seq ?_
                      refine W_seq ?_
                      refine W_region ?_
                      refine WL_q rfl (ev_move rfl) ?_
                      refine WL_q rfl (ev_move rfl) ?_
                      refine WL_q rfl (ev_neq rfl rfl) ?_
                      refine WL_nil ?_
                      refine thenE_n ?_
                      refine W_cond rfl (fun hg93 => ?_) (fun hg93 => ?_)
                      · have hp93 := of_decide_eq_true hg93
                        refine W_seq ?_
                        refine W_region ?_
                        refine WL_q rfl (ev_assign rfl) ?_
                        refine WL_nil ?_
                        refine thenE_n ?_
                        refine W_ret ?_
                        refine thenE_r ?_
                        refine ret1 rfl rfl ?_
                        first | (exact ⟨rfl, hE⟩) | (exact (bneE hg93 (hr42.det1 hr32)).elim) | (exact absurd (hr42.det1 hr32) hp93) | (exact absurd (hr42.det1 hr32) (of_decide_eq_false hg93)) | (exact (bneE hg93 (hr42.det2 hr32)).elim) | (exact absurd (hr42.det2 hr32) hp93) | (exact absurd (hr42.det2 hr32) (of_decide_eq_false hg93)) | (exact (bneE hg93 (hr42.det3 hr32)).elim) | (exact absurd (hr42.det3 hr32) hp93) | (exact absurd (hr42.det3 hr32) (of_decide_eq_false hg93)) | (exact (tfX hg93).elim) | (exact (decF hg93).elim) | (exfalso; omega)
                      · have hp93 := of_decide_eq_false hg93
                        refine W_skip ?_
                        refine thenE_n ?_
                        refine W_seq ?_
                        refine W_drawE [(0, true), (2, true), (1, false), (3, false), (4, false), (5, true), (6, true), (7, true), (8, true), (9, true)] mixed (by kernel_rfl) rfl (by kernel_rfl) ?_
                        intro wd31 hEd31 hzd31
                        replace hE := hE.trans hEd31
                        replace hA := hA.ext hEd31
                        replace hB := hB.ext hEd31
                        replace hB2 := hB2.ext hEd31
                        replace hB3 := hB3.ext hEd31
                        replace hF29 := hF29.ext hEd31
                        replace hN29 := hN29.ext hEd31
                        replace hF31 := hF31.ext hEd31
                        replace hN31 := hN31.ext hEd31
                        replace hx32 := hx32.ext hEd31
                        replace hB8 := hB8.ext hEd31
                        replace hB9 := hB9.ext hEd31
                        replace hO42 := hO42.ext hEd31
                        replace hF56 := hF56.ext hEd31
                        replace hN56 := hN56.ext hEd31
                        replace hF61 := hF61.ext hEd31
                        replace hN61 := hN61.ext hEd31
                        have hDd31 := Ext.refl wd31
                        refine PW_q rfl rfl (fun wq hq => ev_loads st25 sz25 rfl (cellsB (hq.blk hB2)) rfl) ?_
                        refine PW_q rfl rfl (fun wq hq => ev_loads st25 sz25 rfl (cellsB (hq.blk hB3)) rfl) ?_
                        refine PW_m rfl rfl (ev_call rfl (toNetwork_spec _ A _ hA (by omega) (by omega))) ?_
                        rintro _ w96 ⟨h96, rfl, hF96, hE96⟩
                        have hz96 := hE96.size
                        replace hE := hE.trans hE96
                        replace hDd31 := hDd31.trans hE96
                        have hN96 := hF96.is
                        refine ⟨hDd31, ?_⟩
                        have hA_3 := hA.ext hDd31
                        have hB_3 := hB.ext hDd31
                        have hB2_3 := hB2.ext hDd31
                        have hB3_3 := hB3.ext hDd31
                        have hF29_3 := hF29.ext hDd31
                        have hN29_3 := hN29.ext hDd31
                        have hF31_3 := hF31.ext hDd31
                        have hN31_3 := hN31.ext hDd31
                        have hx32_3 := hx32.ext hDd31
                        have hB8_3 := hB8.ext hDd31
                        have hB9_3 := hB9.ext hDd31
                        have hO42_3 := hO42.ext hDd31
                        have hF56_3 := hF56.ext hDd31
                        have hN56_3 := hN56.ext hDd31
                        have hF61_3 := hF61.ext hDd31
                        have hN61_3 := hN61.ext hDd31
                        refine PW_m rfl rfl (ev_call rfl (toNetwork_spec _ B _ hB_3 (by omega) (by omega))) ?_
                        rintro _ w98 ⟨h98, rfl, hF98, hE98⟩
                        have hz98 := hE98.size
                        replace hE := hE.trans hE98
                        replace hDd31 := hDd31.trans hE98
                        replace hF96 := hF96.ext hE98
                        replace hN96 := hN96.ext hE98
                        have hN98 := hF98.is
                        refine ⟨hDd31, ?_⟩
                        have hA_4 := hA.ext hDd31
                        have hB_4 := hB.ext hDd31
                        have hB2_4 := hB2.ext hDd31
                        have hB3_4 := hB3.ext hDd31
                        have hF29_4 := hF29.ext hDd31
                        have hN29_4 := hN29.ext hDd31
                        have hF31_4 := hF31.ext hDd31
                        have hN31_4 := hN31.ext hDd31
                        have hx32_4 := hx32.ext hDd31
                        have hB8_4 := hB8.ext hDd31
                        have hB9_4 := hB9.ext hDd31
                        have hO42_4 := hO42.ext hDd31
                        have hF56_4 := hF56.ext hDd31
                        have hN56_4 := hN56.ext hDd31
                        have hF61_4 := hF61.ext hDd31
                        have hN61_4 := hN61.ext hDd31
                        refine PW_m rfl rfl (ev_call rfl (PortMapsBetween_spec _ A _ B _ hN96 (by omega) (by omega) hN98 (by omega) (by omega))) ?_
                        rintro _ w99 ⟨a99, c99, y99, q99, rfl, hr99, hO99, ⟨hl99, hm99, ht99⟩, hE99⟩
                        have hz99 := hE99.size
                        replace hE := hE.trans hE99
                        replace hDd31 := hDd31.trans hE99
                        replace hF96 := hF96.ext hE99
                        replace hN96 := hN96.ext hE99
                        replace hF98 := hF98.ext hE99
                        replace hN98 := hN98.ext hE99
                        refine ⟨hDd31, ?_⟩
                        refine PW_q rfl rfl (fun wq hq => ev_move rfl) ?_
                        refine PW_q rfl rfl (fun wq hq => ev_extract rfl rfl) ?_
                        refine PW_q rfl rfl (fun wq hq => ev_extract rfl rfl) ?_
                        refine PW_q rfl rfl (fun wq hq => ev_assign rfl) ?_
                        refine PW_q rfl rfl (fun wq hq => ev_assign rfl) ?_
                        replace hA := hA.ext hDd31
                        replace hB := hB.ext hDd31
                        replace hB2 := hB2.ext hDd31
                        replace hB3 := hB3.ext hDd31
                        replace hF29 := hF29.ext hDd31
                        replace hN29 := hN29.ext hDd31
                        replace hF31 := hF31.ext hDd31
                        replace hN31 := hN31.ext hDd31
                        replace hx32 := hx32.ext hDd31
                        replace hB8 := hB8.ext hDd31
                        replace hB9 := hB9.ext hDd31
                        replace hO42 := hO42.ext hDd31
                        replace hF56 := hF56.ext hDd31
                        replace hN56 := hN56.ext hDd31
                        replace hF61 := hF61.ext hDd31
                        replace hN61 := hN61.ext hDd31
                        refine PW_nil ?_
                        refine thenE_n ?_
                        refine W_seq ?_
                        refine W_seq ?_
                        refine W_region ?_
                        refine WL_q rfl (ev_move rfl) ?_
                        refine WL_q rfl (ev_move rfl) ?_
                        refine WL_m rfl (ev_call rfl (eqIntSS_spec _ _ _ _ y99 y32 _ (hO99.is) hx32 (by omega))) ?_
                        rintro _ w104 ⟨rfl, hE104⟩
                        have hz104 := hE104.size
                        replace hE := hE.trans hE104
                        replace hA := hA.ext hE104
                        replace hB := hB.ext hE104
                        replace hB2 := hB2.ext hE104
                        replace hB3 := hB3.ext hE104
                        replace hF29 := hF29.ext hE104
                        replace hN29 := hN29.ext hE104
                        replace hF31 := hF31.ext hE104
                        replace hN31 := hN31.ext hE104
                        replace hx32 := hx32.ext hE104
                        replace hB8 := hB8.ext hE104
                        replace hB9 := hB9.ext hE104
                        replace hO42 := hO42.ext hE104
                        replace hF56 := hF56.ext hE104
                        replace hN56 := hN56.ext hE104
                        replace hF61 := hF61.ext hE104
                        replace hN61 := hN61.ext hE104
                        replace hF96 := hF96.ext hE104
                        replace hN96 := hN96.ext hE104
                        replace hF98 := hF98.ext hE104
                        replace hN98 := hN98.ext hE104
                        replace hO99 := hO99.ext hE104
                        refine WL_q rfl (ev_not rfl) ?_
                        refine WL_q rfl (ev_move rfl) ?_
                        refine WL_splitv (t := 106) rfl (fun hg105 => ?_) (fun hg105 => ?_)
                        · have hg104 := not_true hg105
                          refine WL_no rfl rfl hg105 rfl ?_
                          refine WL_no rfl rfl hg105 rfl ?_
                          refine WL_no rfl rfl hg105 rfl ?_
                          refine WL_q rfl (ev_pick_t rfl hg105 rfl) ?_
                          refine WL_nil ?_
                          refine thenE_n ?_
                          refine W_cond_t rfl ?_
                          refine W_seq ?_
                          refine W_region ?_
                          refine WL_q rfl (ev_assign rfl) ?_
                          refine WL_nil ?_
                          refine thenE_n ?_
                          refine W_ret ?_
                          refine thenE_r ?_
                          refine ret1 rfl rfl ?_
                          first | (exact ⟨rfl, hE⟩) | (exact (bneE hg104 (hr99.det1 hr32)).elim) | (exact absurd (hr99.det1 hr32) hp104) | (exact absurd (hr99.det1 hr32) (of_decide_eq_false hg104)) | (exact (bneE hg104 (hr99.det2 hr32)).elim) | (exact absurd (hr99.det2 hr32) hp104) | (exact absurd (hr99.det2 hr32) (of_decide_eq_false hg104)) | (exact (bneE hg104 (hr99.det3 hr32)).elim) | (exact absurd (hr99.det3 hr32) hp104) | (exact absurd (hr99.det3 hr32) (of_decide_eq_false hg104)) | (exact (bneE hg104 (hr42.det1 hr32)).elim) | (exact absurd (hr42.det1 hr32) hp104) | (exact absurd (hr42.det1 hr32) (of_decide_eq_false hg104)) | (exact (bneE hg104 (hr42.det2 hr32)).elim) | (exact absurd (hr42.det2 hr32) hp104) | (exact absurd (hr42.det2 hr32) (of_decide_eq_false hg104)) | (exact (bneE hg104 (hr42.det3 hr32)).elim) | (exact absurd (hr42.det3 hr32) hp104) | (exact absurd (hr42.det3 hr32) (of_decide_eq_false hg104)) | (exact (tfX hg104).elim) | (exact (decF hg104).elim) | (exfalso; omega)
                        · have hg104 := not_false hg105
                          refine WL_qg rfl rfl hg105 rfl (ev_move rfl) ?_
                          refine WL_qg rfl rfl hg105 rfl (ev_move rfl) ?_
                          refine WL_qg rfl rfl hg105 rfl (ev_neq_b Try.underlying4 rfl rfl) ?_
                          refine WL_q rfl (ev_pick_f rfl hg105 rfl) ?_
                          refine WL_nil ?_
                          refine thenE_n ?_
                          refine W_cond rfl (fun hg109 => ?_) (fun hg109 => ?_)
                          · refine W_seq ?_
                            refine W_region ?_
                            refine WL_q rfl (ev_assign rfl) ?_
                            refine WL_nil ?_
                            refine thenE_n ?_
                            refine W_ret ?_
                            refine thenE_r ?_
                            refine ret1 rfl rfl ?_
                            first | (exact ⟨rfl, hE⟩) | (exact (bneE hg109 (hr99.det1 hr32)).elim) | (exact absurd (hr99.det1 hr32) hp109) | (exact absurd (hr99.det1 hr32) (of_decide_eq_false hg109)) | (exact (bneE hg109 (hr99.det2 hr32)).elim) | (exact absurd (hr99.det2 hr32) hp109) | (exact absurd (hr99.det2 hr32) (of_decide_eq_false hg109)) | (exact (bneE hg109 (hr99.det3 hr32)).elim) | (exact absurd (hr99.det3 hr32) hp109) | (exact absurd (hr99.det3 hr32) (of_decide_eq_false hg109)) | (exact (bneE hg109 (hr42.det1 hr32)).elim) | (exact absurd (hr42.det1 hr32) hp109) | (exact absurd (hr42.det1 hr32) (of_decide_eq_false hg109)) | (exact (bneE hg109 (hr42.det2 hr32)).elim) | (exact absurd (hr42.det2 hr32) hp109) | (exact absurd (hr42.det2 hr32) (of_decide_eq_false hg109)) | (exact (bneE hg109 (hr42.det3 hr32)).elim) | (exact absurd (hr42.det3 hr32) hp109) | (exact absurd (hr42.det3 hr32) (of_decide_eq_false hg109)) | (exact (tfX hg109).elim) | (exact (decF hg109).elim) | (exfalso; omega)
                          · refine W_skip ?_
                            refine thenE_n ?_
                            refine W_seq ?_
                            refine W_region ?_
                            refine WL_q rfl (ev_assign rfl) ?_
                            refine WL_nil ?_
                            refine thenE_n ?_
                            refine W_seq ?_
                            refine W_region ?_
                            refine WL_q rfl (ev_move rfl) ?_
                            refine WL_q rfl (ev_move rfl) ?_
                            refine WL_m rfl (ev_call rfl (heldIntSS_spec _ _ y42 _ _ hO42.is rfl (by omega) (by omega) (by omega))) ?_
                            rintro _ w113 ⟨rfl, hE113⟩
                            have hz113 := hE113.size
                            replace hE := hE.trans hE113
                            replace hA := hA.ext hE113
                            replace hB := hB.ext hE113
                            replace hB2 := hB2.ext hE113
                            replace hB3 := hB3.ext hE113
                            replace hF29 := hF29.ext hE113
                            replace hN29 := hN29.ext hE113
                            replace hF31 := hF31.ext hE113
                            replace hN31 := hN31.ext hE113
                            replace hx32 := hx32.ext hE113
                            replace hB8 := hB8.ext hE113
                            replace hB9 := hB9.ext hE113
                            replace hO42 := hO42.ext hE113
                            replace hF56 := hF56.ext hE113
                            replace hN56 := hN56.ext hE113
                            replace hF61 := hF61.ext hE113
                            replace hN61 := hN61.ext hE113
                            replace hF96 := hF96.ext hE113
                            replace hN96 := hN96.ext hE113
                            replace hF98 := hF98.ext hE113
                            replace hN98 := hN98.ext hE113
                            replace hO99 := hO99.ext hE113
                            refine WL_q rfl (ev_assign rfl) ?_
                            refine WL_nil ?_
                            refine thenE_n ?_
                            refine W_seq ?_
                            refine W_seq ?_
                            refine W_region ?_
                            refine WL_q rfl (ev_move rfl) ?_
                            refine WL_q rfl (ev_lss rfl rfl) ?_
                            refine WL_nil ?_
                            refine thenE_n ?_
                            refine W_cond rfl (fun hg115 => ?_) (fun hg115 => ?_)
                            · have hp115 := of_decide_eq_true hg115
                              refine W_seq ?_
                              refine W_region ?_
                              refine WL_q rfl (ev_assign rfl) ?_
                              refine WL_nil ?_
                              refine thenE_n ?_
                              refine W_ret ?_
                              refine thenE_r ?_
                              refine ret1 rfl rfl ?_
                              first | (exact ⟨rfl, hE⟩) | (exact (bneE hg115 (hr99.det1 hr32)).elim) | (exact absurd (hr99.det1 hr32) hp115) | (exact absurd (hr99.det1 hr32) (of_decide_eq_false hg115)) | (exact (bneE hg115 (hr99.det2 hr32)).elim) | (exact absurd (hr99.det2 hr32) hp115) | (exact absurd (hr99.det2 hr32) (of_decide_eq_false hg115)) | (exact (bneE hg115 (hr99.det3 hr32)).elim) | (exact absurd (hr99.det3 hr32) hp115) | (exact absurd (hr99.det3 hr32) (of_decide_eq_false hg115)) | (exact (bneE hg115 (hr42.det1 hr32)).elim) | (exact absurd (hr42.det1 hr32) hp115) | (exact absurd (hr42.det1 hr32) (of_decide_eq_false hg115)) | (exact (bneE hg115 (hr42.det2 hr32)).elim) | (exact absurd (hr42.det2 hr32) hp115) | (exact absurd (hr42.det2 hr32) (of_decide_eq_false hg115)) | (exact (bneE hg115 (hr42.det3 hr32)).elim) | (exact absurd (hr42.det3 hr32) hp115) | (exact absurd (hr42.det3 hr32) (of_decide_eq_false hg115)) | (exact (tfX hg115).elim) | (exact (decF hg115).elim) | (exfalso; omega)
                            · have hp115 := of_decide_eq_false hg115
                              refine W_skip ?_
                              refine thenE_n ?_
                              refine W_seq ?_
                              refine W_seq ?_
                              refine W_region ?_
                              refine WL_q rfl (ev_move rfl) ?_
                              refine WL_q rfl (ev_move rfl) ?_
                              refine WL_q rfl (ev_neq rfl rfl) ?_
                              refine WL_nil ?_
                              refine thenE_n ?_
                              refine W_cond rfl (fun hg118 => ?_) (fun hg118 => ?_)
                              · have hp118 := of_decide_eq_true hg118
                                refine W_seq ?_
                                refine W_region ?_
                                refine WL_q rfl (ev_assign rfl) ?_
                                refine WL_nil ?_
                                refine thenE_n ?_
                                refine W_ret ?_
                                refine thenE_r ?_
                                refine ret1 rfl rfl ?_
                                first | (exact ⟨rfl, hE⟩) | (exact (bneE hg118 (hr99.det1 hr32)).elim) | (exact absurd (hr99.det1 hr32) hp118) | (exact absurd (hr99.det1 hr32) (of_decide_eq_false hg118)) | (exact (bneE hg118 (hr99.det2 hr32)).elim) | (exact absurd (hr99.det2 hr32) hp118) | (exact absurd (hr99.det2 hr32) (of_decide_eq_false hg118)) | (exact (bneE hg118 (hr99.det3 hr32)).elim) | (exact absurd (hr99.det3 hr32) hp118) | (exact absurd (hr99.det3 hr32) (of_decide_eq_false hg118)) | (exact (bneE hg118 (hr42.det1 hr32)).elim) | (exact absurd (hr42.det1 hr32) hp118) | (exact absurd (hr42.det1 hr32) (of_decide_eq_false hg118)) | (exact (bneE hg118 (hr42.det2 hr32)).elim) | (exact absurd (hr42.det2 hr32) hp118) | (exact absurd (hr42.det2 hr32) (of_decide_eq_false hg118)) | (exact (bneE hg118 (hr42.det3 hr32)).elim) | (exact absurd (hr42.det3 hr32) hp118) | (exact absurd (hr42.det3 hr32) (of_decide_eq_false hg118)) | (exact (tfX hg118).elim) | (exact (decF hg118).elim) | (exfalso; omega)
                              · have hp118 := of_decide_eq_false hg118
                                refine W_skip ?_
                                refine thenE_n ?_
                                refine W_seq ?_
                                refine W_region ?_
                                refine WL_q rfl (ev_assign rfl) ?_
                                refine WL_nil ?_
                                refine thenE_n ?_
                                refine W_ret ?_
                                refine ret1 rfl rfl ?_
                                first | (exact ⟨rfl, hE⟩) | (exact (bneE hg118 (hr99.det1 hr32)).elim) | (exact absurd (hr99.det1 hr32) hp118) | (exact absurd (hr99.det1 hr32) (of_decide_eq_false hg118)) | (exact (bneE hg118 (hr99.det2 hr32)).elim) | (exact absurd (hr99.det2 hr32) hp118) | (exact absurd (hr99.det2 hr32) (of_decide_eq_false hg118)) | (exact (bneE hg118 (hr99.det3 hr32)).elim) | (exact absurd (hr99.det3 hr32) hp118) | (exact absurd (hr99.det3 hr32) (of_decide_eq_false hg118)) | (exact (bneE hg118 (hr42.det1 hr32)).elim) | (exact absurd (hr42.det1 hr32) hp118) | (exact absurd (hr42.det1 hr32) (of_decide_eq_false hg118)) | (exact (bneE hg118 (hr42.det2 hr32)).elim) | (exact absurd (hr42.det2 hr32) hp118) | (exact absurd (hr42.det2 hr32) (of_decide_eq_false hg118)) | (exact (bneE hg118 (hr42.det3 hr32)).elim) | (exact absurd (hr42.det3 hr32) hp118) | (exact absurd (hr42.det3 hr32) (of_decide_eq_false hg118)) | (exact (tfX hg118).elim) | (exact (decF hg118).elim) | (exfalso; omega)

end Go.Proofs.Ytjnkkadbfigmpaa
