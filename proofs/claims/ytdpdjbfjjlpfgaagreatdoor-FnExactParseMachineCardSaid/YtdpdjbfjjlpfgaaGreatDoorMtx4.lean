/- Contract of impl.MachineText. -/
import Derived.Test.YtdpdjbfjjlpfgaaGreatDoorMtx3
namespace Go.Proofs.YtdpdjbfjjlpfgaaGreatDoor
open Go Go.RowKit

theorem stD_ne {m : Mach} {i : Nat} : stD m i ≠ [] := by simp [stD, stC, stB, stA]
theorem stD_pos {m : Mach} {i : Nat} : 0 < (stD m i).length := List.length_pos_iff.2 stD_ne

set_option maxHeartbeats 1000000 in
set_option maxRecDepth 100000 in
theorem iMachineText_spec {loM hiM : Nat} (nM : MA) (M : Mach) (w : World) (hM : IsMach loM hiM w nM M) (hhiM : hiM ≤ w.heap.size) (hnM : totM M ≤ 1048576) :
    Fn Tryz.prog 18 #[machV nM M] w (fun o9 w' => ∃ s q, o9 = .tuple #[.string (bs s), VB q] ∧ RV ([] : List UInt8) (opt (MOk M) (mtext (stD M M.output.length))) s q ∧ s.length ≤ 1048576 ∧ Ext w w') := by
  have hmM : totL M.start + totL M.send + totC M.clauses + M.output.length ≤ 1048576 := hnM
  have hq1 := totL_len M.start
  have hq2 := totL_len M.send
  have hq3 := totC_len M.clauses
  have hE := Ext.refl w
  refine Fn_of Tryz.func18 rfl rfl (by kernel_rfl) rfl ?_
  refine W_seq ?_
  refine W_region ?_
  refine WL_m rfl (ev_box rfl) ?_
  rintro _ w1 ⟨rfl, hN1⟩
  have hz1 := hN1.size
  replace hE := hE.trans hN1.ext
  replace hM := hM.ext hN1.ext
  have hB1 : Blk w1 _ _ [_, _, _, _, _, _, _] := hN1.blk
  refine WL_q rfl (ev_assign rfl) ?_
  refine WL_q rfl (ev_assign rfl) ?_
  refine WL_nil ?_
  refine thenE_n ?_
  refine W_seq ?_
  refine W_seq ?_
  refine W_region ?_
  refine WL_q rfl (ev_loads st26 sz26 rfl (cellsB hB1) rfl) ?_
  refine WL_m rfl (ev_call rfl (IsMachine_spec _ M _ hM (by omega) (by omega))) ?_
  rintro _ w14 ⟨b14, rfl, hb14, hE14⟩
  have hz14 := hE14.size
  replace hE := hE.trans hE14
  replace hM := hM.ext hE14
  replace hB1 := hB1.ext hE14
  refine WL_q rfl (ev_not rfl) ?_
  refine WL_nil ?_
  refine thenE_n ?_
  refine W_cond rfl (fun hg15 => ?_) (fun hg15 => ?_)
  · have hg14 := not_true hg15
    have hp14 := ttN hb14 hg14
    refine W_seq ?_
    refine W_region ?_
    refine WL_q rfl (ev_assign rfl) ?_
    refine WL_q rfl (ev_assign rfl) ?_
    refine WL_nil ?_
    refine thenE_n ?_
    refine W_ret ?_
    refine thenE_r ?_
    refine ret2 rfl rfl rfl ?_
    first | (exact ⟨[], _, rfl, .no hp14, by decide, hE⟩) | (have hq9 : q = M.output.length := (by omega); exact ⟨mtext (stD M q), _, by rw [← join_text stD_ne], .yes hkM (by rw [hq9]), by omega, hE⟩)
  · have hg14 := not_false hg15
    have hp14 := hb14.1 hg14
    refine W_skip ?_
    refine thenE_n ?_
    refine W_seq ?_
    refine W_drawE [(0, true), (1, true), (2, true), (3, true), (4, true), (5, true), (6, true), (7, true), (8, true), (9, true), (10, true), (11, false), (12, false), (13, false), (14, true)] mixed (by kernel_rfl) rfl (by kernel_rfl) ?_
    intro wd3 hEd3 hzd3
    replace hE := hE.trans hEd3
    replace hM := hM.ext hEd3
    replace hB1 := hB1.ext hEd3
    have hDd3 := Ext.refl wd3
    have hkM := hp14
    have hkl := hkM.startLen
    have hkd := hkM.deg
    have hks := hkM.states
    have hkg := hkM.msgs
    have hkh := hkM.head
    have hkn := hkM.sendLen
    have hko := hkM.outLen
    have hkc := hkM.clLen
    have hs0 : M.start.headD [] = M.start[0] := headD_eq (by omega)
    rw [hs0] at hkh
    refine PW_q rfl rfl (fun wq hq => ev_fieldAddr fo26_0 rfl) ?_
    refine PW_q rfl rfl (fun wq hq => ev_load one3 rfl (hq.cell (hB1.cell rfl))) ?_
    refine PW_q rfl rfl (fun wq hq => ev_fieldAddr fo26_1 rfl) ?_
    refine PW_q rfl rfl (fun wq hq => ev_load one3 rfl (hq.cell (hB1.cell rfl))) ?_
    refine PW_q rfl rfl (fun wq hq => ev_fieldAddr fo26_2 rfl) ?_
    refine PW_q rfl rfl (fun wq hq => ev_load one3 rfl (hq.cell (hB1.cell rfl))) ?_
    refine PW_q rfl rfl (fun wq hq => ev_fieldAddr fo26_3 rfl) ?_
    refine PW_q rfl rfl (fun wq hq => ev_load one22 rfl (hq.cell (hB1.cell rfl))) ?_
    have hl24 : 0 < M.start.length := by omega
    have ht24 := totL_le hl24
    obtain ⟨a24, c24, hc24, hr24⟩ := hM.start.row hl24
    refine PW_q rfl rfl (fun wq hq => ev_indexAddr Tryz.underlying22 sz24 rfl rfl (hM.start.isSome (by omega)) (by omega) (by omega)) ?_
    refine PW_q rfl rfl (fun wq hq => ev_load one24 rfl (hq.cell (hc24))) ?_
    refine PW_q rfl rfl (fun wq hq => ev_len Tryz.underlying24 rfl) ?_
    refine PW_m rfl rfl (ev_lit4I Tryz.underlying24 el3 rfl rfl rfl rfl) ?_
    rintro _ w27 ⟨rfl, hN27⟩
    have hz27 := hN27.size
    replace hE := hE.trans hN27.ext
    replace hDd3 := hDd3.trans hN27.ext
    have hB27 := hN27.blk
    refine ⟨hDd3, ?_⟩
    have hM_12 := hM.ext hDd3
    have hB1_12 := hB1.ext hDd3
    have hr24_12 := hr24.ext hDd3
    refine PW_m rfl rfl (ev_call rfl (wordsLine_spec wMachine _ _ [M.deg, M.states, M.msgs, (M.start[0].length : Int)] _ (litI 4 hB27 (by simp)) ⟨fun x hx => by simp only [List.mem_cons, List.not_mem_nil, or_false] at hx; omega, by simp⟩ (by decide))) ?_
    rintro _ w28 ⟨rfl, hE28⟩
    have hz28 := hE28.size
    replace hE := hE.trans hE28
    replace hDd3 := hDd3.trans hE28
    replace hB27 := hB27.ext hE28
    refine ⟨hDd3, ?_⟩
    have hM_13 := hM.ext hDd3
    have hB1_13 := hB1.ext hDd3
    have hr24_13 := hr24.ext hDd3
    refine PW_m rfl rfl (ev_lit1 Tryz.underlying32 el9 (by decide) (by decide) rfl rfl) ?_
    rintro _ w29 ⟨rfl, hN29⟩
    have hz29 := hN29.size
    replace hE := hE.trans hN29.ext
    replace hDd3 := hDd3.trans hN29.ext
    replace hB27 := hB27.ext hN29.ext
    have hB29 := hN29.blk
    have hO0 : OwnH w28.heap.size w29.heap.size 0 0 w29 9 1 (some ⟨w28.heap.size, 0, none⟩) 1 1 ((stA M 0).map vS) := by rw [stA_zero, hdL_eq (by omega)]; exact (Own.of_new (n := 1) (sz := 1) hN29 rfl (by unfold maxLen; omega)).h
    refine ⟨hDd3, ?_⟩
    refine PW_q rfl rfl (fun wq hq => ev_assign rfl) ?_
    replace hM := hM.ext hDd3
    replace hB1 := hB1.ext hDd3
    replace hr24 := hr24.ext hDd3
    refine PW_nil ?_
    refine thenE_n ?_
    refine W_seq ?_
    refine W_seq ?_
    refine W_region ?_
    refine WL_q rfl (ev_fieldAddr fo26_3 rfl) ?_
    refine WL_q rfl (ev_load one22 rfl (hB1.cell rfl)) ?_
    refine WL_q rfl (ev_len Tryz.underlying22 rfl) ?_
    refine WL_q rfl (ev_move rfl) ?_
    refine WL_nil ?_
    refine thenE_n ?_
    refine W_block ?_
    refine W_loopC (G := Nat × Option Addr × Nat) [(1, _), (31, _), (32, _)] ((Subs.c rfl (Subs.c rfl (Subs.c rfl Subs.n)))) (fun ⟨i, a, c⟩ => [(4, .slice a (stA M i).length c), (33, VI (i : Int))]) (fun ⟨i, a, c⟩ w' => Lo (w28.heap.size) w29 w' ∧ i ≤ M.start.length ∧ OwnH w28.heap.size w'.heap.size 0 0 w' 9 1 a (stA M i).length c ((stA M i).map vS)) (fun g => M.start.length - g.1) (0, some ⟨w28.heap.size, 0, none⟩, 1) ((Subs.c rfl (Subs.c (lkI rfl (by omega)) Subs.n))) (⟨Lo.refl (by omega), ⟨Nat.zero_le _, hO0⟩⟩) ?_
    rintro ⟨i, a, c⟩ wL0 ⟨hRL0, hi', hO⟩
    have hzL0 := hRL0.size
    replace hM := hM.lo hRL0 (by omega)
    replace hB1 := hB1.lo hRL0 (by omega)
    replace hr24 := hr24.lo hRL0 (by omega)
    replace hB27 := hB27.lo hRL0 (by omega)
    replace hE := hE.lo hRL0 (by omega)
    have hsh := stA_sh hkM i
    have hmn := hsh.2
    refine W_seq ?_
    refine W_region ?_
    refine WL_q rfl (ev_lss rfl rfl) ?_
    refine WL_nil ?_
    refine thenE_n ?_
    refine W_seq ?_
    refine W_cond rfl (fun hg34 => ?_) (fun hg34 => ?_)
    · have hp34 := of_decide_eq_true hg34
      refine W_skip ?_
      refine thenE_n ?_
      refine W_seq ?_
      refine W_block ?_
      refine W_seq ?_
      refine W_region ?_
      have hl35 : i < M.start.length := by omega
      have ht35 := totL_le hl35
      obtain ⟨a35, c35, hc35, hr35⟩ := hM.start.row hl35
      refine WL_q rfl (ev_indexAddr Tryz.underlying22 sz24 rfl rfl (hM.start.isSome (by omega)) (by omega) (by omega)) ?_
      refine WL_q rfl (ev_load one24 rfl (hc35)) ?_
      refine WL_q rfl (ev_assign rfl) ?_
      refine WL_nil ?_
      refine thenE_n ?_
      refine W_region ?_
      refine WL_q rfl (ev_move rfl) ?_
      refine WL_q rfl (ev_move rfl) ?_
      refine WL_m rfl (ev_call rfl (wordsLine_spec wStart _ _ M.start[i] _ hr35 (start_x hkM (List.getElem_mem hl35)) (by decide))) ?_
      rintro _ w39 ⟨rfl, hE39⟩
      have hz39 := hE39.size
      replace hE := hE.trans hE39
      replace hRL0 := hRL0.trans hE39
      replace hM := hM.ext hE39
      replace hB1 := hB1.ext hE39
      replace hr24 := hr24.ext hE39
      replace hB27 := hB27.ext hE39
      replace hO := hO.ext hE39
      replace hr35 := hr35.ext hE39
      refine WL_m rfl (ev_lit1 Tryz.underlying32 el9 (by decide) (by decide) rfl rfl) ?_
      rintro _ w40 ⟨rfl, hN40⟩
      have hz40 := hN40.size
      replace hE := hE.trans hN40.ext
      replace hRL0 := hRL0.trans hN40.ext
      replace hM := hM.ext hN40.ext
      replace hB1 := hB1.ext hN40.ext
      replace hr24 := hr24.ext hN40.ext
      replace hB27 := hB27.ext hN40.ext
      replace hO := hO.ext hN40.ext
      replace hr35 := hr35.ext hN40.ext
      have hB40 := hN40.blk
      refine WL_m rfl (ev_appendT Tryz.underlying32 el9 rfl (by decide) rfl rfl hO (SAt.of_blk (cs := [_]) (ds := []) hB40) rfl (by simp [Value.oneCell']) (by omega) (by unfold maxLen; omega) (by omega)) ?_
      rintro _ w41 ⟨a41, c41, rfl, hO41, hK41, hQ41⟩
      have hz41 := hK41.size
      replace hE := hE.rg hK41 (by omega)
      replace hRL0 := hRL0.rg hK41 (by omega)
      replace hM := hM.rg hK41 (by omega)
      replace hB1 := hB1.rg hK41 (by omega)
      replace hr24 := hr24.rg hK41 (by omega)
      replace hB27 := hB27.rg hK41 (by omega)
      replace hr35 := hr35.rg hK41 (by omega)
      replace hO := hO41
      refine WL_q rfl (ev_assign rfl) ?_
      refine WL_nil ?_
      refine blockE_n ?_
      refine thenE_n ?_
      refine W_region ?_
      refine WL_q rfl (ev_add rfl rfl (by omega)) ?_
      refine WL_q rfl (ev_move rfl) ?_
      refine WL_nil ?_
      refine thenE_n ?_
      exact ⟨(i + 1, a41, c41), (Subs.c rfl (Subs.c rfl (Subs.c rfl Subs.n))), (Subs.c (lkS rfl (by rw [stA_succ hl35, List.length_append]; rfl)) (Subs.c (lkI rfl (by omega)) Subs.n)), ⟨hRL0, ⟨by omega, by rw [stA_succ hl35, List.map_append, List.length_append]; exact hO⟩⟩, by first | omega | (dsimp only; omega)⟩
    · have hp34 := of_decide_eq_false hg34
      refine W_exit ?_
      refine thenE_x ?_
      refine thenE_x ?_
      refine blockE_hit ?_
      refine thenE_n ?_
      refine W_seq ?_
      refine W_seq ?_
      refine W_region ?_
      refine WL_q rfl (ev_fieldAddr fo26_4 rfl) ?_
      refine WL_q rfl (ev_load one22 rfl (hB1.cell rfl)) ?_
      refine WL_q rfl (ev_len Tryz.underlying22 rfl) ?_
      refine WL_q rfl (ev_move rfl) ?_
      refine WL_nil ?_
      refine thenE_n ?_
      refine W_block ?_
      have hi9 : i = M.start.length := by omega
      refine W_loopC (G := Nat × Option Addr × Nat) [(1, _), (44, _), (45, _)] ((Subs.c rfl (Subs.c rfl (Subs.c rfl Subs.n)))) (fun ⟨k, a2, c2⟩ => [(4, .slice a2 (stB M k).length c2), (46, VI (k : Int))]) (fun ⟨k, a2, c2⟩ w' => Lo (w28.heap.size) wL0 w' ∧ k ≤ M.send.length ∧ OwnH w28.heap.size w'.heap.size 0 0 w' 9 1 a2 (stB M k).length c2 ((stB M k).map vS)) (fun g => M.send.length - g.1) (0, a, c) ((Subs.c (lkS rfl (by rw [stB_zero, hi9])) (Subs.c (lkI rfl (by omega)) Subs.n))) (⟨Lo.refl (by omega), ⟨Nat.zero_le _, by rw [stB_zero, ← hi9]; exact hO⟩⟩) ?_
      rintro ⟨k, a2, c2⟩ wL2 ⟨hRL2, hk', hO⟩
      have hzL2 := hRL2.size
      replace hM := hM.lo hRL2 (by omega)
      replace hB1 := hB1.lo hRL2 (by omega)
      replace hr24 := hr24.lo hRL2 (by omega)
      replace hB27 := hB27.lo hRL2 (by omega)
      replace hE := hE.lo hRL2 (by omega)
      have hsh := stB_sh hkM k
      have hmn := hsh.2
      refine W_seq ?_
      refine W_region ?_
      refine WL_q rfl (ev_lss rfl rfl) ?_
      refine WL_nil ?_
      refine thenE_n ?_
      refine W_seq ?_
      refine W_cond rfl (fun hg47 => ?_) (fun hg47 => ?_)
      · have hp47 := of_decide_eq_true hg47
        refine W_skip ?_
        refine thenE_n ?_
        refine W_seq ?_
        refine W_block ?_
        refine W_seq ?_
        refine W_region ?_
        have hl48 : k < M.send.length := by omega
        have ht48 := totL_le hl48
        obtain ⟨a48, c48, hc48, hr48⟩ := hM.send.row hl48
        refine WL_q rfl (ev_indexAddr Tryz.underlying22 sz24 rfl rfl (hM.send.isSome (by omega)) (by omega) (by omega)) ?_
        refine WL_q rfl (ev_load one24 rfl (hc48)) ?_
        refine WL_q rfl (ev_assign rfl) ?_
        refine WL_nil ?_
        refine thenE_n ?_
        refine W_region ?_
        refine WL_q rfl (ev_move rfl) ?_
        refine WL_q rfl (ev_move rfl) ?_
        refine WL_m rfl (ev_call rfl (wordsLine_spec wSend _ _ M.send[k] _ hr48 (send_x hkM (List.getElem_mem hl48)) (by decide))) ?_
        rintro _ w52 ⟨rfl, hE52⟩
        have hz52 := hE52.size
        replace hE := hE.trans hE52
        replace hRL2 := hRL2.trans hE52
        replace hM := hM.ext hE52
        replace hB1 := hB1.ext hE52
        replace hr24 := hr24.ext hE52
        replace hB27 := hB27.ext hE52
        replace hO := hO.ext hE52
        replace hr48 := hr48.ext hE52
        refine WL_m rfl (ev_lit1 Tryz.underlying32 el9 (by decide) (by decide) rfl rfl) ?_
        rintro _ w53 ⟨rfl, hN53⟩
        have hz53 := hN53.size
        replace hE := hE.trans hN53.ext
        replace hRL2 := hRL2.trans hN53.ext
        replace hM := hM.ext hN53.ext
        replace hB1 := hB1.ext hN53.ext
        replace hr24 := hr24.ext hN53.ext
        replace hB27 := hB27.ext hN53.ext
        replace hO := hO.ext hN53.ext
        replace hr48 := hr48.ext hN53.ext
        have hB53 := hN53.blk
        refine WL_m rfl (ev_appendT Tryz.underlying32 el9 rfl (by decide) rfl rfl hO (SAt.of_blk (cs := [_]) (ds := []) hB53) rfl (by simp [Value.oneCell']) (by omega) (by unfold maxLen; omega) (by omega)) ?_
        rintro _ w54 ⟨a54, c54, rfl, hO54, hK54, hQ54⟩
        have hz54 := hK54.size
        replace hE := hE.rg hK54 (by omega)
        replace hRL2 := hRL2.rg hK54 (by omega)
        replace hM := hM.rg hK54 (by omega)
        replace hB1 := hB1.rg hK54 (by omega)
        replace hr24 := hr24.rg hK54 (by omega)
        replace hB27 := hB27.rg hK54 (by omega)
        replace hr48 := hr48.rg hK54 (by omega)
        replace hO := hO54
        refine WL_q rfl (ev_assign rfl) ?_
        refine WL_nil ?_
        refine blockE_n ?_
        refine thenE_n ?_
        refine W_region ?_
        refine WL_q rfl (ev_add rfl rfl (by omega)) ?_
        refine WL_q rfl (ev_move rfl) ?_
        refine WL_nil ?_
        refine thenE_n ?_
        exact ⟨(k + 1, a54, c54), (Subs.c rfl (Subs.c rfl (Subs.c rfl Subs.n))), (Subs.c (lkS rfl (by rw [stB_succ hl48, List.length_append]; rfl)) (Subs.c (lkI rfl (by omega)) Subs.n)), ⟨hRL2, ⟨by omega, by rw [stB_succ hl48, List.map_append, List.length_append]; exact hO⟩⟩, by first | omega | (dsimp only; omega)⟩
      · have hp47 := of_decide_eq_false hg47
        refine W_exit ?_
        refine thenE_x ?_
        refine thenE_x ?_
        refine blockE_hit ?_
        refine thenE_n ?_
        refine W_seq ?_
        refine W_seq ?_
        refine W_region ?_
        refine WL_q rfl (ev_fieldAddr fo26_5 rfl) ?_
        refine WL_q rfl (ev_load one23 rfl (hB1.cell rfl)) ?_
        refine WL_q rfl (ev_len Tryz.underlying23 rfl) ?_
        refine WL_q rfl (ev_move rfl) ?_
        refine WL_nil ?_
        refine thenE_n ?_
        refine W_block ?_
        have hk9 : k = M.send.length := by omega
        refine W_loopC (G := Nat × Option Addr × Nat) [(1, _), (57, _), (58, _)] ((Subs.c rfl (Subs.c rfl (Subs.c rfl Subs.n)))) (fun ⟨j, a3, c3⟩ => [(4, .slice a3 (stC M j).length c3), (59, VI (j : Int))]) (fun ⟨j, a3, c3⟩ w' => Lo (w28.heap.size) wL2 w' ∧ j ≤ M.clauses.length ∧ OwnH w28.heap.size w'.heap.size 0 0 w' 9 1 a3 (stC M j).length c3 ((stC M j).map vS)) (fun g => M.clauses.length - g.1) (0, a2, c2) ((Subs.c (lkS rfl (by rw [stC_zero, hk9])) (Subs.c (lkI rfl (by omega)) Subs.n))) (⟨Lo.refl (by omega), ⟨Nat.zero_le _, by rw [stC_zero, ← hk9]; exact hO⟩⟩) ?_
        rintro ⟨j, a3, c3⟩ wL4 ⟨hRL4, hj', hO⟩
        have hzL4 := hRL4.size
        replace hM := hM.lo hRL4 (by omega)
        replace hB1 := hB1.lo hRL4 (by omega)
        replace hr24 := hr24.lo hRL4 (by omega)
        replace hB27 := hB27.lo hRL4 (by omega)
        replace hE := hE.lo hRL4 (by omega)
        have hsh := stC_sh hkM j
        have hmn := hsh.2
        refine W_seq ?_
        refine W_region ?_
        refine WL_q rfl (ev_lss rfl rfl) ?_
        refine WL_nil ?_
        refine thenE_n ?_
        refine W_seq ?_
        refine W_cond rfl (fun hg60 => ?_) (fun hg60 => ?_)
        · have hp60 := of_decide_eq_true hg60
          refine W_skip ?_
          refine thenE_n ?_
          refine W_seq ?_
          refine W_block ?_
          refine W_seq ?_
          refine W_region ?_
          have hl61 : j < M.clauses.length := by omega
          obtain ⟨a61, c61, hc61, hr61⟩ := hM.clauses.cl hl61
          refine WL_q rfl (ev_indexAddr Tryz.underlying23 sz40 rfl rfl (hM.clauses.isSome (by omega)) (by omega) (by omega)) ?_
          refine WL_q rfl (ev_loads st40 sz40 rfl (hc61) rfl) ?_
          refine WL_m rfl (ev_alloc zr40) ?_
          rintro _ w10 ⟨rfl, hN10⟩
          have hz10 := hN10.size
          replace hE := hE.trans hN10.ext
          replace hRL4 := hRL4.trans hN10.ext
          replace hM := hM.ext hN10.ext
          replace hB1 := hB1.ext hN10.ext
          replace hr24 := hr24.ext hN10.ext
          replace hB27 := hB27.ext hN10.ext
          replace hO := hO.ext hN10.ext
          replace hr61 := hr61.ext hN10.ext
          have hB10 : Blk w10 _ _ [_, _, _] := hN10.blk
          refine WL_s (ev_stores sz40 rfl rfl rfl (by simp [Value.oneCell']) hB10 (by simp)) ?_
          rintro _ w16_3 hS16_3
          have hz16_3 := hS16_3.size
          replace hE := hE.sto hS16_3 (by omega)
          replace hRL4 := hRL4.sto hS16_3 (by omega)
          replace hM := hM.sto hS16_3 (by omega)
          replace hB1 := hB1.sto hS16_3 (by omega)
          replace hr24 := hr24.sto hS16_3 (by omega)
          replace hB27 := hB27.sto hS16_3 (by omega)
          replace hO := hO.sto hS16_3 (by omega)
          replace hr61 := hr61.sto hS16_3 (by omega)
          replace hB10 : Blk w16_3 _ _ [_, _, _] := hS16_3.blk
          refine WL_nil ?_
          refine thenE_n ?_
          refine W_drawY (X := Option Addr × Nat) (fun x => [(4, .slice x.1 (stC M (j + 1)).length x.2)]) (fun x w' => OwnH w28.heap.size w'.heap.size 0 0 w' 9 1 x.1 (stC M (j + 1)).length x.2 ((stC M (j + 1)).map vS) ∧ Lo (w28.heap.size) wL2 w' ∧ Ext w w') 14 0 0 0 0 w28.heap.size wL4.heap.size 0 0 (.q 0 (.h 1 (.h 2 (.h 5 (.h 6 (.h 9 (.h 10 (.b 3 (.b 4 (.b 7 (.h 8 (.a 11 (.a 12 (.a 13 (.z 14 (.h 15 .done)))))) 11 (.a 7 (.h 8 (.a 12 (.a 13 (.z 14 (.h 15 .done))))))) 11 (.a 4 (.a 7 (.h 8 (.a 12 (.a 13 (.z 14 (.h 15 .done)))))))) 11 (.a 3 (.a 4 (.a 7 (.h 8 (.a 12 (.a 13 (.z 14 (.h 15 .done)))))))))))))))) mixed (by kernel_rfl) rfl (by kernel_rfl) ?_ ?_
          · intro wd17 hEd17 hzd17
            replace hE := hE.trans hEd17
            replace hRL4 := hRL4.trans hEd17
            replace hM := hM.ext hEd17
            replace hB1 := hB1.ext hEd17
            replace hr24 := hr24.ext hEd17
            replace hB27 := hB27.ext hEd17
            replace hO := hO.ext hEd17
            replace hr61 := hr61.ext hEd17
            replace hB10 := hB10.ext hEd17
            have hcx := cl_x hkM (List.getElem_mem hl61)
            have hcl := cl_len hkM (List.getElem_mem hl61)
            rw [clW_eq, List.length_append] at hcl
            have hcw := lineW_len (wd := wWhen) (xs := [M.clauses[j].1]) (fun x hx => by simp at hx; omega)
            have hw4 : wWhen.length = 4 := rfl
            simp only [List.length_cons, List.length_nil] at hcw
            have hcl2 : (lineW (lineW wWhen [M.clauses[j].1]) M.clauses[j].2.1 ++ wThen).length ≤ 1000 := by rw [List.length_append]; have h9 : wThen.length = 5 := rfl; omega
            have hSd17 := (Rg.refl : Rg 0 0 0 0 wd17 wd17)
            have hUd17 := (Rg.refl : Rg w28.heap.size wL4.heap.size 0 0 wd17 wd17)
            refine PY_q rfl rfl (fun wq hq => ev_move rfl) ?_
            refine PY_h rfl rfl (fun wq hq => ev_fieldAddr fo40_0 rfl) ?_
            refine PY_h rfl rfl (fun wq hq => ev_load one3 rfl ((hB10.rg hq.1 (by omega)).cell rfl)) ?_
            refine PY_h rfl rfl (fun wq hq => ev_fieldAddr fo40_1 rfl) ?_
            refine PY_h rfl rfl (fun wq hq => ev_load one24 rfl ((hB10.rg hq.1 (by omega)).cell rfl)) ?_
            refine PY_h rfl rfl (fun wq hq => ev_fieldAddr fo40_2 rfl) ?_
            refine PY_h rfl rfl (fun wq hq => ev_load one3 rfl ((hB10.rg hq.1 (by omega)).cell rfl)) ?_
            refine PY_b ?_ ?_
            · refine PB_m 0 0 0 0 w28.heap.size wL4.heap.size 0 0 rfl rfl (ev_lit1 Tryz.underlying24 el3 (by decide) (by decide) rfl rfl) ?_
              rintro _ w66 ⟨rfl, hN66⟩
              have hz66 := hN66.size
              replace hE := hE.trans hN66.ext
              replace hRL4 := hRL4.trans hN66.ext
              replace hSd17 := hSd17.trans hN66.ext
              replace hUd17 := hUd17.trans hN66.ext
              replace hM := hM.ext hN66.ext
              replace hB1 := hB1.ext hN66.ext
              replace hr24 := hr24.ext hN66.ext
              replace hB27 := hB27.ext hN66.ext
              replace hO := hO.ext hN66.ext
              replace hr61 := hr61.ext hN66.ext
              replace hB10 := hB10.ext hN66.ext
              have hB66 := hN66.blk
              refine ⟨fun _ hx => ⟨hSd17.rg hx (by omega), trivial⟩, fun _ hx => ⟨hUd17.rg hx (by omega), trivial⟩, ?_⟩
              have hSd17 := (Rg.refl : Rg 0 0 0 0 w66 w66)
              have hUd17 := (Rg.refl : Rg w28.heap.size wL4.heap.size 0 0 w66 w66)
              refine PY_b ?_ ?_
              · refine PB_m 0 0 0 0 w28.heap.size wL4.heap.size 0 0 rfl rfl (ev_call rfl (wordsLine_spec wWhen _ _ [M.clauses[j].1] _ (litI 1 hB66 (by simp)) ⟨fun x hx => by simp at hx; omega, by simp⟩ (by decide))) ?_
                rintro _ w67 ⟨rfl, hE67⟩
                have hz67 := hE67.size
                replace hE := hE.trans hE67
                replace hRL4 := hRL4.trans hE67
                replace hSd17 := hSd17.trans hE67
                replace hUd17 := hUd17.trans hE67
                replace hM := hM.ext hE67
                replace hB1 := hB1.ext hE67
                replace hr24 := hr24.ext hE67
                replace hB27 := hB27.ext hE67
                replace hO := hO.ext hE67
                replace hr61 := hr61.ext hE67
                replace hB10 := hB10.ext hE67
                replace hB66 := hB66.ext hE67
                refine ⟨fun _ hx => ⟨hSd17.rg hx (by omega), trivial⟩, fun _ hx => ⟨hUd17.rg hx (by omega), trivial⟩, ?_⟩
                have hSd17 := (Rg.refl : Rg 0 0 0 0 w67 w67)
                have hUd17 := (Rg.refl : Rg w28.heap.size wL4.heap.size 0 0 w67 w67)
                refine PY_b ?_ ?_
                · refine PB_m 0 0 0 0 w28.heap.size wL4.heap.size 0 0 rfl rfl (ev_call rfl (wordsLine_spec (lineW wWhen [M.clauses[j].1]) _ _ M.clauses[j].2.1 _ hr61 ⟨hcx.2.2.1, hcx.2.2.2⟩ (by omega))) ?_
                  rintro _ w70 ⟨rfl, hE70⟩
                  have hz70 := hE70.size
                  replace hE := hE.trans hE70
                  replace hRL4 := hRL4.trans hE70
                  replace hSd17 := hSd17.trans hE70
                  replace hUd17 := hUd17.trans hE70
                  replace hM := hM.ext hE70
                  replace hB1 := hB1.ext hE70
                  replace hr24 := hr24.ext hE70
                  replace hB27 := hB27.ext hE70
                  replace hO := hO.ext hE70
                  replace hr61 := hr61.ext hE70
                  replace hB10 := hB10.ext hE70
                  replace hB66 := hB66.ext hE70
                  refine ⟨fun _ hx => ⟨hSd17.rg hx (by omega), trivial⟩, fun _ hx => ⟨hUd17.rg hx (by omega), trivial⟩, ?_⟩
                  have hSd17 := (Rg.refl : Rg 0 0 0 0 w70 w70)
                  have hUd17 := (Rg.refl : Rg w28.heap.size wL4.heap.size 0 0 w70 w70)
                  refine PY_h rfl rfl (fun wq hq => ev_addS (b := [32, 116, 104, 101, 110]) rfl rfl (by (try simp only [List.length_append, List.length_cons, List.length_nil]); omega)) ?_
                  refine PY_a ?_
                  refine PB_m 0 0 0 0 w28.heap.size wL4.heap.size 0 0 rfl rfl (ev_lit1 Tryz.underlying24 el3 (by decide) (by decide) rfl rfl) ?_
                  rintro _ w74 ⟨rfl, hN74⟩
                  have hz74 := hN74.size
                  replace hE := hE.trans hN74.ext
                  replace hRL4 := hRL4.trans hN74.ext
                  replace hSd17 := hSd17.trans hN74.ext
                  replace hUd17 := hUd17.trans hN74.ext
                  replace hM := hM.ext hN74.ext
                  replace hB1 := hB1.ext hN74.ext
                  replace hr24 := hr24.ext hN74.ext
                  replace hB27 := hB27.ext hN74.ext
                  replace hO := hO.ext hN74.ext
                  replace hr61 := hr61.ext hN74.ext
                  replace hB10 := hB10.ext hN74.ext
                  replace hB66 := hB66.ext hN74.ext
                  have hB74 := hN74.blk
                  refine ⟨fun _ hx => ⟨hSd17.rg hx (by omega), trivial⟩, fun _ hx => ⟨hUd17.rg hx (by omega), trivial⟩, ?_⟩
                  have hSd17 := (Rg.refl : Rg 0 0 0 0 w74 w74)
                  have hUd17 := (Rg.refl : Rg w28.heap.size wL4.heap.size 0 0 w74 w74)
                  refine PY_a ?_
                  refine PB_m 0 0 0 0 w28.heap.size wL4.heap.size 0 0 rfl rfl (ev_call rfl (wordsLine_spec (lineW (lineW wWhen [M.clauses[j].1]) M.clauses[j].2.1 ++ wThen) _ _ [M.clauses[j].2.2] _ (litI 1 hB74 (by simp)) ⟨fun x hx => by simp at hx; omega, by simp⟩ hcl2)) ?_
                  rintro _ w75 ⟨rfl, hE75⟩
                  have hz75 := hE75.size
                  replace hE := hE.trans hE75
                  replace hRL4 := hRL4.trans hE75
                  replace hSd17 := hSd17.trans hE75
                  replace hUd17 := hUd17.trans hE75
                  replace hM := hM.ext hE75
                  replace hB1 := hB1.ext hE75
                  replace hr24 := hr24.ext hE75
                  replace hB27 := hB27.ext hE75
                  replace hO := hO.ext hE75
                  replace hr61 := hr61.ext hE75
                  replace hB10 := hB10.ext hE75
                  replace hB66 := hB66.ext hE75
                  replace hB74 := hB74.ext hE75
                  refine ⟨fun _ hx => ⟨hSd17.rg hx (by omega), trivial⟩, fun _ hx => ⟨hUd17.rg hx (by omega), trivial⟩, ?_⟩
                  have hSd17 := (Rg.refl : Rg 0 0 0 0 w75 w75)
                  have hUd17 := (Rg.refl : Rg w28.heap.size wL4.heap.size 0 0 w75 w75)
                  refine PY_a ?_
                  refine PB_m 0 0 0 0 w28.heap.size wL4.heap.size 0 0 rfl rfl (ev_lit1 Tryz.underlying32 el9 (by decide) (by decide) rfl rfl) ?_
                  rintro _ w76 ⟨rfl, hN76⟩
                  have hz76 := hN76.size
                  replace hE := hE.trans hN76.ext
                  replace hRL4 := hRL4.trans hN76.ext
                  replace hSd17 := hSd17.trans hN76.ext
                  replace hUd17 := hUd17.trans hN76.ext
                  replace hM := hM.ext hN76.ext
                  replace hB1 := hB1.ext hN76.ext
                  replace hr24 := hr24.ext hN76.ext
                  replace hB27 := hB27.ext hN76.ext
                  replace hO := hO.ext hN76.ext
                  replace hr61 := hr61.ext hN76.ext
                  replace hB10 := hB10.ext hN76.ext
                  replace hB66 := hB66.ext hN76.ext
                  replace hB74 := hB74.ext hN76.ext
                  have hB76 := hN76.blk
                  refine ⟨fun _ hx => ⟨hSd17.rg hx (by omega), trivial⟩, fun _ hx => ⟨hUd17.rg hx (by omega), trivial⟩, ?_⟩
                  have hSd17 := (Rg.refl : Rg 0 0 0 0 w76 w76)
                  have hUd17 := (Rg.refl : Rg w28.heap.size wL4.heap.size 0 0 w76 w76)
                  refine PY_z ?_
                  refine PB_m w28.heap.size wL4.heap.size 0 0 w28.heap.size wL4.heap.size 0 0 rfl rfl (ev_appendT Tryz.underlying32 el9 rfl (by decide) rfl rfl hO (SAt.of_blk (cs := [_]) (ds := []) hB76) rfl (by simp [Value.oneCell']) (by omega) (by unfold maxLen; omega) (by omega)) ?_
                  rintro _ w77 ⟨a77, c77, rfl, hO77, hK77, hQ77⟩
                  have hz77 := hK77.size
                  replace hE := hE.rg hK77 (by omega)
                  replace hRL4 := hRL4.rg hK77 (by omega)
                  replace hUd17 := hUd17.rg hK77 (by omega)
                  replace hM := hM.rg hK77 (by omega)
                  replace hB1 := hB1.rg hK77 (by omega)
                  replace hr24 := hr24.rg hK77 (by omega)
                  replace hB27 := hB27.rg hK77 (by omega)
                  replace hr61 := hr61.rg hK77 (by omega)
                  replace hB10 := hB10.rg hK77 (by omega)
                  replace hB66 := hB66.rg hK77 (by omega)
                  replace hB74 := hB74.rg hK77 (by omega)
                  replace hO := hO77
                  refine ⟨fun _ _ => trivial, fun _ hx => ⟨hUd17.rg hx (by omega), trivial⟩, ?_⟩
                  have hSd17 := (Rg.refl : Rg w28.heap.size wL4.heap.size 0 0 w77 w77)
                  have hUd17 := (Rg.refl : Rg w28.heap.size wL4.heap.size 0 0 w77 w77)
                  refine PY_h rfl rfl (fun wq hq => ev_assign rfl) ?_
                  exact PY_nil 16 (a77, c77) rfl ⟨lkS rfl (by rw [stC_succ hl61, List.length_append]; rfl), trivial⟩ rfl ⟨by rw [stC_succ hl61, List.map_append, List.length_append]; exact hO, hRL4, hE⟩
                · refine PB_m 0 0 0 0 w28.heap.size wL4.heap.size 0 0 rfl rfl (ev_lit1 Tryz.underlying24 el3 (by decide) (by decide) rfl rfl) ?_
                  rintro _ w74 ⟨rfl, hN74⟩
                  have hz74 := hN74.size
                  replace hE := hE.trans hN74.ext
                  replace hRL4 := hRL4.trans hN74.ext
                  replace hSd17 := hSd17.trans hN74.ext
                  replace hUd17 := hUd17.trans hN74.ext
                  replace hM := hM.ext hN74.ext
                  replace hB1 := hB1.ext hN74.ext
                  replace hr24 := hr24.ext hN74.ext
                  replace hB27 := hB27.ext hN74.ext
                  replace hO := hO.ext hN74.ext
                  replace hr61 := hr61.ext hN74.ext
                  replace hB10 := hB10.ext hN74.ext
                  replace hB66 := hB66.ext hN74.ext
                  have hB74 := hN74.blk
                  refine ⟨fun _ hx => ⟨hSd17.rg hx (by omega), trivial⟩, fun _ hx => ⟨hUd17.rg hx (by omega), trivial⟩, ?_⟩
                  have hSd17 := (Rg.refl : Rg 0 0 0 0 w74 w74)
                  have hUd17 := (Rg.refl : Rg w28.heap.size wL4.heap.size 0 0 w74 w74)
                  refine PY_a ?_
                  refine PB_m 0 0 0 0 w28.heap.size wL4.heap.size 0 0 rfl rfl (ev_call rfl (wordsLine_spec (lineW wWhen [M.clauses[j].1]) _ _ M.clauses[j].2.1 _ hr61 ⟨hcx.2.2.1, hcx.2.2.2⟩ (by omega))) ?_
                  rintro _ w70 ⟨rfl, hE70⟩
                  have hz70 := hE70.size
                  replace hE := hE.trans hE70
                  replace hRL4 := hRL4.trans hE70
                  replace hSd17 := hSd17.trans hE70
                  replace hUd17 := hUd17.trans hE70
                  replace hM := hM.ext hE70
                  replace hB1 := hB1.ext hE70
                  replace hr24 := hr24.ext hE70
                  replace hB27 := hB27.ext hE70
                  replace hO := hO.ext hE70
                  replace hr61 := hr61.ext hE70
                  replace hB10 := hB10.ext hE70
                  replace hB66 := hB66.ext hE70
                  replace hB74 := hB74.ext hE70
                  refine ⟨fun _ hx => ⟨hSd17.rg hx (by omega), trivial⟩, fun _ hx => ⟨hUd17.rg hx (by omega), trivial⟩, ?_⟩
                  have hSd17 := (Rg.refl : Rg 0 0 0 0 w70 w70)
                  have hUd17 := (Rg.refl : Rg w28.heap.size wL4.heap.size 0 0 w70 w70)
                  refine PY_h rfl rfl (fun wq hq => ev_addS (b := [32, 116, 104, 101, 110]) rfl rfl (by (try simp only [List.length_append, List.length_cons, List.length_nil]); omega)) ?_
                  refine PY_a ?_
                  refine PB_m 0 0 0 0 w28.heap.size wL4.heap.size 0 0 rfl rfl (ev_call rfl (wordsLine_spec (lineW (lineW wWhen [M.clauses[j].1]) M.clauses[j].2.1 ++ wThen) _ _ [M.clauses[j].2.2] _ (litI 1 hB74 (by simp)) ⟨fun x hx => by simp at hx; omega, by simp⟩ hcl2)) ?_
                  rintro _ w75 ⟨rfl, hE75⟩
                  have hz75 := hE75.size
                  replace hE := hE.trans hE75
                  replace hRL4 := hRL4.trans hE75
                  replace hSd17 := hSd17.trans hE75
                  replace hUd17 := hUd17.trans hE75
                  replace hM := hM.ext hE75
                  replace hB1 := hB1.ext hE75
                  replace hr24 := hr24.ext hE75
                  replace hB27 := hB27.ext hE75
                  replace hO := hO.ext hE75
                  replace hr61 := hr61.ext hE75
                  replace hB10 := hB10.ext hE75
                  replace hB66 := hB66.ext hE75
                  replace hB74 := hB74.ext hE75
                  refine ⟨fun _ hx => ⟨hSd17.rg hx (by omega), trivial⟩, fun _ hx => ⟨hUd17.rg hx (by omega), trivial⟩, ?_⟩
                  have hSd17 := (Rg.refl : Rg 0 0 0 0 w75 w75)
                  have hUd17 := (Rg.refl : Rg w28.heap.size wL4.heap.size 0 0 w75 w75)
                  refine PY_a ?_
                  refine PB_m 0 0 0 0 w28.heap.size wL4.heap.size 0 0 rfl rfl (ev_lit1 Tryz.underlying32 el9 (by decide) (by decide) rfl rfl) ?_
                  rintro _ w76 ⟨rfl, hN76⟩
                  have hz76 := hN76.size
                  replace hE := hE.trans hN76.ext
                  replace hRL4 := hRL4.trans hN76.ext
                  replace hSd17 := hSd17.trans hN76.ext
                  replace hUd17 := hUd17.trans hN76.ext
                  replace hM := hM.ext hN76.ext
                  replace hB1 := hB1.ext hN76.ext
                  replace hr24 := hr24.ext hN76.ext
                  replace hB27 := hB27.ext hN76.ext
                  replace hO := hO.ext hN76.ext
                  replace hr61 := hr61.ext hN76.ext
                  replace hB10 := hB10.ext hN76.ext
                  replace hB66 := hB66.ext hN76.ext
                  replace hB74 := hB74.ext hN76.ext
                  have hB76 := hN76.blk
                  refine ⟨fun _ hx => ⟨hSd17.rg hx (by omega), trivial⟩, fun _ hx => ⟨hUd17.rg hx (by omega), trivial⟩, ?_⟩
                  have hSd17 := (Rg.refl : Rg 0 0 0 0 w76 w76)
                  have hUd17 := (Rg.refl : Rg w28.heap.size wL4.heap.size 0 0 w76 w76)
                  refine PY_z ?_
                  refine PB_m w28.heap.size wL4.heap.size 0 0 w28.heap.size wL4.heap.size 0 0 rfl rfl (ev_appendT Tryz.underlying32 el9 rfl (by decide) rfl rfl hO (SAt.of_blk (cs := [_]) (ds := []) hB76) rfl (by simp [Value.oneCell']) (by omega) (by unfold maxLen; omega) (by omega)) ?_
                  rintro _ w77 ⟨a77, c77, rfl, hO77, hK77, hQ77⟩
                  have hz77 := hK77.size
                  replace hE := hE.rg hK77 (by omega)
                  replace hRL4 := hRL4.rg hK77 (by omega)
                  replace hUd17 := hUd17.rg hK77 (by omega)
                  replace hM := hM.rg hK77 (by omega)
                  replace hB1 := hB1.rg hK77 (by omega)
                  replace hr24 := hr24.rg hK77 (by omega)
                  replace hB27 := hB27.rg hK77 (by omega)
                  replace hr61 := hr61.rg hK77 (by omega)
                  replace hB10 := hB10.rg hK77 (by omega)
                  replace hB66 := hB66.rg hK77 (by omega)
                  replace hB74 := hB74.rg hK77 (by omega)
                  replace hO := hO77
                  refine ⟨fun _ _ => trivial, fun _ hx => ⟨hUd17.rg hx (by omega), trivial⟩, ?_⟩
                  have hSd17 := (Rg.refl : Rg w28.heap.size wL4.heap.size 0 0 w77 w77)
                  have hUd17 := (Rg.refl : Rg w28.heap.size wL4.heap.size 0 0 w77 w77)
                  refine PY_h rfl rfl (fun wq hq => ev_assign rfl) ?_
                  exact PY_nil 16 (a77, c77) rfl ⟨lkS rfl (by rw [stC_succ hl61, List.length_append]; rfl), trivial⟩ rfl ⟨by rw [stC_succ hl61, List.map_append, List.length_append]; exact hO, hRL4, hE⟩
              · refine PB_m 0 0 0 0 w28.heap.size wL4.heap.size 0 0 rfl rfl (ev_lit1 Tryz.underlying24 el3 (by decide) (by decide) rfl rfl) ?_
                rintro _ w74 ⟨rfl, hN74⟩
                have hz74 := hN74.size
                replace hE := hE.trans hN74.ext
                replace hRL4 := hRL4.trans hN74.ext
                replace hSd17 := hSd17.trans hN74.ext
                replace hUd17 := hUd17.trans hN74.ext
                replace hM := hM.ext hN74.ext
                replace hB1 := hB1.ext hN74.ext
                replace hr24 := hr24.ext hN74.ext
                replace hB27 := hB27.ext hN74.ext
                replace hO := hO.ext hN74.ext
                replace hr61 := hr61.ext hN74.ext
                replace hB10 := hB10.ext hN74.ext
                replace hB66 := hB66.ext hN74.ext
                have hB74 := hN74.blk
                refine ⟨fun _ hx => ⟨hSd17.rg hx (by omega), trivial⟩, fun _ hx => ⟨hUd17.rg hx (by omega), trivial⟩, ?_⟩
                have hSd17 := (Rg.refl : Rg 0 0 0 0 w74 w74)
                have hUd17 := (Rg.refl : Rg w28.heap.size wL4.heap.size 0 0 w74 w74)
                refine PY_a ?_
                refine PB_m 0 0 0 0 w28.heap.size wL4.heap.size 0 0 rfl rfl (ev_call rfl (wordsLine_spec wWhen _ _ [M.clauses[j].1] _ (litI 1 hB66 (by simp)) ⟨fun x hx => by simp at hx; omega, by simp⟩ (by decide))) ?_
                rintro _ w67 ⟨rfl, hE67⟩
                have hz67 := hE67.size
                replace hE := hE.trans hE67
                replace hRL4 := hRL4.trans hE67
                replace hSd17 := hSd17.trans hE67
                replace hUd17 := hUd17.trans hE67
                replace hM := hM.ext hE67
                replace hB1 := hB1.ext hE67
                replace hr24 := hr24.ext hE67
                replace hB27 := hB27.ext hE67
                replace hO := hO.ext hE67
                replace hr61 := hr61.ext hE67
                replace hB10 := hB10.ext hE67
                replace hB66 := hB66.ext hE67
                replace hB74 := hB74.ext hE67
                refine ⟨fun _ hx => ⟨hSd17.rg hx (by omega), trivial⟩, fun _ hx => ⟨hUd17.rg hx (by omega), trivial⟩, ?_⟩
                have hSd17 := (Rg.refl : Rg 0 0 0 0 w67 w67)
                have hUd17 := (Rg.refl : Rg w28.heap.size wL4.heap.size 0 0 w67 w67)
                refine PY_a ?_
                refine PB_m 0 0 0 0 w28.heap.size wL4.heap.size 0 0 rfl rfl (ev_call rfl (wordsLine_spec (lineW wWhen [M.clauses[j].1]) _ _ M.clauses[j].2.1 _ hr61 ⟨hcx.2.2.1, hcx.2.2.2⟩ (by omega))) ?_
                rintro _ w70 ⟨rfl, hE70⟩
                have hz70 := hE70.size
                replace hE := hE.trans hE70
                replace hRL4 := hRL4.trans hE70
                replace hSd17 := hSd17.trans hE70
                replace hUd17 := hUd17.trans hE70
                replace hM := hM.ext hE70
                replace hB1 := hB1.ext hE70
                replace hr24 := hr24.ext hE70
                replace hB27 := hB27.ext hE70
                replace hO := hO.ext hE70
                replace hr61 := hr61.ext hE70
                replace hB10 := hB10.ext hE70
                replace hB66 := hB66.ext hE70
                replace hB74 := hB74.ext hE70
                refine ⟨fun _ hx => ⟨hSd17.rg hx (by omega), trivial⟩, fun _ hx => ⟨hUd17.rg hx (by omega), trivial⟩, ?_⟩
                have hSd17 := (Rg.refl : Rg 0 0 0 0 w70 w70)
                have hUd17 := (Rg.refl : Rg w28.heap.size wL4.heap.size 0 0 w70 w70)
                refine PY_h rfl rfl (fun wq hq => ev_addS (b := [32, 116, 104, 101, 110]) rfl rfl (by (try simp only [List.length_append, List.length_cons, List.length_nil]); omega)) ?_
                refine PY_a ?_
                refine PB_m 0 0 0 0 w28.heap.size wL4.heap.size 0 0 rfl rfl (ev_call rfl (wordsLine_spec (lineW (lineW wWhen [M.clauses[j].1]) M.clauses[j].2.1 ++ wThen) _ _ [M.clauses[j].2.2] _ (litI 1 hB74 (by simp)) ⟨fun x hx => by simp at hx; omega, by simp⟩ hcl2)) ?_
                rintro _ w75 ⟨rfl, hE75⟩
                have hz75 := hE75.size
                replace hE := hE.trans hE75
                replace hRL4 := hRL4.trans hE75
                replace hSd17 := hSd17.trans hE75
                replace hUd17 := hUd17.trans hE75
                replace hM := hM.ext hE75
                replace hB1 := hB1.ext hE75
                replace hr24 := hr24.ext hE75
                replace hB27 := hB27.ext hE75
                replace hO := hO.ext hE75
                replace hr61 := hr61.ext hE75
                replace hB10 := hB10.ext hE75
                replace hB66 := hB66.ext hE75
                replace hB74 := hB74.ext hE75
                refine ⟨fun _ hx => ⟨hSd17.rg hx (by omega), trivial⟩, fun _ hx => ⟨hUd17.rg hx (by omega), trivial⟩, ?_⟩
                have hSd17 := (Rg.refl : Rg 0 0 0 0 w75 w75)
                have hUd17 := (Rg.refl : Rg w28.heap.size wL4.heap.size 0 0 w75 w75)
                refine PY_a ?_
                refine PB_m 0 0 0 0 w28.heap.size wL4.heap.size 0 0 rfl rfl (ev_lit1 Tryz.underlying32 el9 (by decide) (by decide) rfl rfl) ?_
                rintro _ w76 ⟨rfl, hN76⟩
                have hz76 := hN76.size
                replace hE := hE.trans hN76.ext
                replace hRL4 := hRL4.trans hN76.ext
                replace hSd17 := hSd17.trans hN76.ext
                replace hUd17 := hUd17.trans hN76.ext
                replace hM := hM.ext hN76.ext
                replace hB1 := hB1.ext hN76.ext
                replace hr24 := hr24.ext hN76.ext
                replace hB27 := hB27.ext hN76.ext
                replace hO := hO.ext hN76.ext
                replace hr61 := hr61.ext hN76.ext
                replace hB10 := hB10.ext hN76.ext
                replace hB66 := hB66.ext hN76.ext
                replace hB74 := hB74.ext hN76.ext
                have hB76 := hN76.blk
                refine ⟨fun _ hx => ⟨hSd17.rg hx (by omega), trivial⟩, fun _ hx => ⟨hUd17.rg hx (by omega), trivial⟩, ?_⟩
                have hSd17 := (Rg.refl : Rg 0 0 0 0 w76 w76)
                have hUd17 := (Rg.refl : Rg w28.heap.size wL4.heap.size 0 0 w76 w76)
                refine PY_z ?_
                refine PB_m w28.heap.size wL4.heap.size 0 0 w28.heap.size wL4.heap.size 0 0 rfl rfl (ev_appendT Tryz.underlying32 el9 rfl (by decide) rfl rfl hO (SAt.of_blk (cs := [_]) (ds := []) hB76) rfl (by simp [Value.oneCell']) (by omega) (by unfold maxLen; omega) (by omega)) ?_
                rintro _ w77 ⟨a77, c77, rfl, hO77, hK77, hQ77⟩
                have hz77 := hK77.size
                replace hE := hE.rg hK77 (by omega)
                replace hRL4 := hRL4.rg hK77 (by omega)
                replace hUd17 := hUd17.rg hK77 (by omega)
                replace hM := hM.rg hK77 (by omega)
                replace hB1 := hB1.rg hK77 (by omega)
                replace hr24 := hr24.rg hK77 (by omega)
                replace hB27 := hB27.rg hK77 (by omega)
                replace hr61 := hr61.rg hK77 (by omega)
                replace hB10 := hB10.rg hK77 (by omega)
                replace hB66 := hB66.rg hK77 (by omega)
                replace hB74 := hB74.rg hK77 (by omega)
                replace hO := hO77
                refine ⟨fun _ _ => trivial, fun _ hx => ⟨hUd17.rg hx (by omega), trivial⟩, ?_⟩
                have hSd17 := (Rg.refl : Rg w28.heap.size wL4.heap.size 0 0 w77 w77)
                have hUd17 := (Rg.refl : Rg w28.heap.size wL4.heap.size 0 0 w77 w77)
                refine PY_h rfl rfl (fun wq hq => ev_assign rfl) ?_
                exact PY_nil 16 (a77, c77) rfl ⟨lkS rfl (by rw [stC_succ hl61, List.length_append]; rfl), trivial⟩ rfl ⟨by rw [stC_succ hl61, List.map_append, List.length_append]; exact hO, hRL4, hE⟩
            · refine PB_m 0 0 0 0 w28.heap.size wL4.heap.size 0 0 rfl rfl (ev_lit1 Tryz.underlying24 el3 (by decide) (by decide) rfl rfl) ?_
              rintro _ w74 ⟨rfl, hN74⟩
              have hz74 := hN74.size
              replace hE := hE.trans hN74.ext
              replace hRL4 := hRL4.trans hN74.ext
              replace hSd17 := hSd17.trans hN74.ext
              replace hUd17 := hUd17.trans hN74.ext
              replace hM := hM.ext hN74.ext
              replace hB1 := hB1.ext hN74.ext
              replace hr24 := hr24.ext hN74.ext
              replace hB27 := hB27.ext hN74.ext
              replace hO := hO.ext hN74.ext
              replace hr61 := hr61.ext hN74.ext
              replace hB10 := hB10.ext hN74.ext
              have hB74 := hN74.blk
              refine ⟨fun _ hx => ⟨hSd17.rg hx (by omega), trivial⟩, fun _ hx => ⟨hUd17.rg hx (by omega), trivial⟩, ?_⟩
              have hSd17 := (Rg.refl : Rg 0 0 0 0 w74 w74)
              have hUd17 := (Rg.refl : Rg w28.heap.size wL4.heap.size 0 0 w74 w74)
              refine PY_a ?_
              refine PB_m 0 0 0 0 w28.heap.size wL4.heap.size 0 0 rfl rfl (ev_lit1 Tryz.underlying24 el3 (by decide) (by decide) rfl rfl) ?_
              rintro _ w66 ⟨rfl, hN66⟩
              have hz66 := hN66.size
              replace hE := hE.trans hN66.ext
              replace hRL4 := hRL4.trans hN66.ext
              replace hSd17 := hSd17.trans hN66.ext
              replace hUd17 := hUd17.trans hN66.ext
              replace hM := hM.ext hN66.ext
              replace hB1 := hB1.ext hN66.ext
              replace hr24 := hr24.ext hN66.ext
              replace hB27 := hB27.ext hN66.ext
              replace hO := hO.ext hN66.ext
              replace hr61 := hr61.ext hN66.ext
              replace hB10 := hB10.ext hN66.ext
              replace hB74 := hB74.ext hN66.ext
              have hB66 := hN66.blk
              refine ⟨fun _ hx => ⟨hSd17.rg hx (by omega), trivial⟩, fun _ hx => ⟨hUd17.rg hx (by omega), trivial⟩, ?_⟩
              have hSd17 := (Rg.refl : Rg 0 0 0 0 w66 w66)
              have hUd17 := (Rg.refl : Rg w28.heap.size wL4.heap.size 0 0 w66 w66)
              refine PY_a ?_
              refine PB_m 0 0 0 0 w28.heap.size wL4.heap.size 0 0 rfl rfl (ev_call rfl (wordsLine_spec wWhen _ _ [M.clauses[j].1] _ (litI 1 hB66 (by simp)) ⟨fun x hx => by simp at hx; omega, by simp⟩ (by decide))) ?_
              rintro _ w67 ⟨rfl, hE67⟩
              have hz67 := hE67.size
              replace hE := hE.trans hE67
              replace hRL4 := hRL4.trans hE67
              replace hSd17 := hSd17.trans hE67
              replace hUd17 := hUd17.trans hE67
              replace hM := hM.ext hE67
              replace hB1 := hB1.ext hE67
              replace hr24 := hr24.ext hE67
              replace hB27 := hB27.ext hE67
              replace hO := hO.ext hE67
              replace hr61 := hr61.ext hE67
              replace hB10 := hB10.ext hE67
              replace hB74 := hB74.ext hE67
              replace hB66 := hB66.ext hE67
              refine ⟨fun _ hx => ⟨hSd17.rg hx (by omega), trivial⟩, fun _ hx => ⟨hUd17.rg hx (by omega), trivial⟩, ?_⟩
              have hSd17 := (Rg.refl : Rg 0 0 0 0 w67 w67)
              have hUd17 := (Rg.refl : Rg w28.heap.size wL4.heap.size 0 0 w67 w67)
              refine PY_a ?_
              refine PB_m 0 0 0 0 w28.heap.size wL4.heap.size 0 0 rfl rfl (ev_call rfl (wordsLine_spec (lineW wWhen [M.clauses[j].1]) _ _ M.clauses[j].2.1 _ hr61 ⟨hcx.2.2.1, hcx.2.2.2⟩ (by omega))) ?_
              rintro _ w70 ⟨rfl, hE70⟩
              have hz70 := hE70.size
              replace hE := hE.trans hE70
              replace hRL4 := hRL4.trans hE70
              replace hSd17 := hSd17.trans hE70
              replace hUd17 := hUd17.trans hE70
              replace hM := hM.ext hE70
              replace hB1 := hB1.ext hE70
              replace hr24 := hr24.ext hE70
              replace hB27 := hB27.ext hE70
              replace hO := hO.ext hE70
              replace hr61 := hr61.ext hE70
              replace hB10 := hB10.ext hE70
              replace hB74 := hB74.ext hE70
              replace hB66 := hB66.ext hE70
              refine ⟨fun _ hx => ⟨hSd17.rg hx (by omega), trivial⟩, fun _ hx => ⟨hUd17.rg hx (by omega), trivial⟩, ?_⟩
              have hSd17 := (Rg.refl : Rg 0 0 0 0 w70 w70)
              have hUd17 := (Rg.refl : Rg w28.heap.size wL4.heap.size 0 0 w70 w70)
              refine PY_h rfl rfl (fun wq hq => ev_addS (b := [32, 116, 104, 101, 110]) rfl rfl (by (try simp only [List.length_append, List.length_cons, List.length_nil]); omega)) ?_
              refine PY_a ?_
              refine PB_m 0 0 0 0 w28.heap.size wL4.heap.size 0 0 rfl rfl (ev_call rfl (wordsLine_spec (lineW (lineW wWhen [M.clauses[j].1]) M.clauses[j].2.1 ++ wThen) _ _ [M.clauses[j].2.2] _ (litI 1 hB74 (by simp)) ⟨fun x hx => by simp at hx; omega, by simp⟩ hcl2)) ?_
              rintro _ w75 ⟨rfl, hE75⟩
              have hz75 := hE75.size
              replace hE := hE.trans hE75
              replace hRL4 := hRL4.trans hE75
              replace hSd17 := hSd17.trans hE75
              replace hUd17 := hUd17.trans hE75
              replace hM := hM.ext hE75
              replace hB1 := hB1.ext hE75
              replace hr24 := hr24.ext hE75
              replace hB27 := hB27.ext hE75
              replace hO := hO.ext hE75
              replace hr61 := hr61.ext hE75
              replace hB10 := hB10.ext hE75
              replace hB74 := hB74.ext hE75
              replace hB66 := hB66.ext hE75
              refine ⟨fun _ hx => ⟨hSd17.rg hx (by omega), trivial⟩, fun _ hx => ⟨hUd17.rg hx (by omega), trivial⟩, ?_⟩
              have hSd17 := (Rg.refl : Rg 0 0 0 0 w75 w75)
              have hUd17 := (Rg.refl : Rg w28.heap.size wL4.heap.size 0 0 w75 w75)
              refine PY_a ?_
              refine PB_m 0 0 0 0 w28.heap.size wL4.heap.size 0 0 rfl rfl (ev_lit1 Tryz.underlying32 el9 (by decide) (by decide) rfl rfl) ?_
              rintro _ w76 ⟨rfl, hN76⟩
              have hz76 := hN76.size
              replace hE := hE.trans hN76.ext
              replace hRL4 := hRL4.trans hN76.ext
              replace hSd17 := hSd17.trans hN76.ext
              replace hUd17 := hUd17.trans hN76.ext
              replace hM := hM.ext hN76.ext
              replace hB1 := hB1.ext hN76.ext
              replace hr24 := hr24.ext hN76.ext
              replace hB27 := hB27.ext hN76.ext
              replace hO := hO.ext hN76.ext
              replace hr61 := hr61.ext hN76.ext
              replace hB10 := hB10.ext hN76.ext
              replace hB74 := hB74.ext hN76.ext
              replace hB66 := hB66.ext hN76.ext
              have hB76 := hN76.blk
              refine ⟨fun _ hx => ⟨hSd17.rg hx (by omega), trivial⟩, fun _ hx => ⟨hUd17.rg hx (by omega), trivial⟩, ?_⟩
              have hSd17 := (Rg.refl : Rg 0 0 0 0 w76 w76)
              have hUd17 := (Rg.refl : Rg w28.heap.size wL4.heap.size 0 0 w76 w76)
              refine PY_z ?_
              refine PB_m w28.heap.size wL4.heap.size 0 0 w28.heap.size wL4.heap.size 0 0 rfl rfl (ev_appendT Tryz.underlying32 el9 rfl (by decide) rfl rfl hO (SAt.of_blk (cs := [_]) (ds := []) hB76) rfl (by simp [Value.oneCell']) (by omega) (by unfold maxLen; omega) (by omega)) ?_
              rintro _ w77 ⟨a77, c77, rfl, hO77, hK77, hQ77⟩
              have hz77 := hK77.size
              replace hE := hE.rg hK77 (by omega)
              replace hRL4 := hRL4.rg hK77 (by omega)
              replace hUd17 := hUd17.rg hK77 (by omega)
              replace hM := hM.rg hK77 (by omega)
              replace hB1 := hB1.rg hK77 (by omega)
              replace hr24 := hr24.rg hK77 (by omega)
              replace hB27 := hB27.rg hK77 (by omega)
              replace hr61 := hr61.rg hK77 (by omega)
              replace hB10 := hB10.rg hK77 (by omega)
              replace hB74 := hB74.rg hK77 (by omega)
              replace hB66 := hB66.rg hK77 (by omega)
              replace hO := hO77
              refine ⟨fun _ _ => trivial, fun _ hx => ⟨hUd17.rg hx (by omega), trivial⟩, ?_⟩
              have hSd17 := (Rg.refl : Rg w28.heap.size wL4.heap.size 0 0 w77 w77)
              have hUd17 := (Rg.refl : Rg w28.heap.size wL4.heap.size 0 0 w77 w77)
              refine PY_h rfl rfl (fun wq hq => ev_assign rfl) ?_
              exact PY_nil 16 (a77, c77) rfl ⟨lkS rfl (by rw [stC_succ hl61, List.length_append]; rfl), trivial⟩ rfl ⟨by rw [stC_succ hl61, List.map_append, List.length_append]; exact hO, hRL4, hE⟩
          rintro ⟨a4, c4⟩ wt17 ⟨hO, hRL4, hE⟩
          dsimp only [List.cons_append, List.nil_append]
          dsimp only at hO
          refine blockE_n ?_
          refine thenE_n ?_
          refine W_region ?_
          refine WL_q rfl (ev_add rfl rfl (by omega)) ?_
          refine WL_q rfl (ev_move rfl) ?_
          refine WL_nil ?_
          refine thenE_n ?_
          exact ⟨(j + 1, a4, c4), (Subs.c rfl (Subs.c rfl (Subs.c rfl Subs.n))), (Subs.c rfl (Subs.c (lkI rfl (by omega)) Subs.n)), ⟨hRL4, ⟨by omega, hO⟩⟩, by first | omega | (dsimp only; omega)⟩
        · have hp60 := of_decide_eq_false hg60
          refine W_exit ?_
          refine thenE_x ?_
          refine thenE_x ?_
          refine blockE_hit ?_
          refine thenE_n ?_
          refine W_seq ?_
          refine W_seq ?_
          refine W_region ?_
          refine WL_q rfl (ev_fieldAddr fo26_6 rfl) ?_
          refine WL_q rfl (ev_load one24 rfl (hB1.cell rfl)) ?_
          refine WL_q rfl (ev_len Tryz.underlying24 rfl) ?_
          refine WL_q rfl (ev_move rfl) ?_
          refine WL_nil ?_
          refine thenE_n ?_
          refine W_block ?_
          have hj9 : j = M.clauses.length := by omega
          refine W_loopC (G := Nat × Option Addr × Nat) [(80, _), (81, _)] ((Subs.c rfl (Subs.c rfl Subs.n))) (fun ⟨q, a5, c5⟩ => [(4, .slice a5 (stD M q).length c5), (82, VI (q : Int))]) (fun ⟨q, a5, c5⟩ w' => Lo (w28.heap.size) wL4 w' ∧ q ≤ M.output.length ∧ OwnH w28.heap.size w'.heap.size 0 0 w' 9 1 a5 (stD M q).length c5 ((stD M q).map vS)) (fun g => M.output.length - g.1) (0, a3, c3) ((Subs.c (lkS rfl (by rw [stD_zero, hj9])) (Subs.c (lkI rfl (by omega)) Subs.n))) (⟨Lo.refl (by omega), ⟨Nat.zero_le _, by rw [stD_zero, ← hj9]; exact hO⟩⟩) ?_
          rintro ⟨q, a5, c5⟩ wL6 ⟨hRL6, hq', hO⟩
          have hzL6 := hRL6.size
          replace hM := hM.lo hRL6 (by omega)
          replace hB1 := hB1.lo hRL6 (by omega)
          replace hr24 := hr24.lo hRL6 (by omega)
          replace hB27 := hB27.lo hRL6 (by omega)
          replace hE := hE.lo hRL6 (by omega)
          have hsh := stD_sh hkM hq'
          have hmn := hsh.2
          refine W_seq ?_
          refine W_region ?_
          refine WL_q rfl (ev_lss rfl rfl) ?_
          refine WL_nil ?_
          refine thenE_n ?_
          refine W_seq ?_
          refine W_cond rfl (fun hg83 => ?_) (fun hg83 => ?_)
          · have hp83 := of_decide_eq_true hg83
            refine W_skip ?_
            refine thenE_n ?_
            refine W_seq ?_
            refine W_block ?_
            refine W_seq ?_
            refine W_region ?_
            refine WL_q rfl (ev_move rfl) ?_
            have hqlt : q < M.output.length := by omega
            have hox := out_x hkM (List.getElem_mem hqlt)
            refine WL_q rfl (ev_indexAddr Tryz.underlying24 sz3 rfl rfl (hM.output.isSome (by omega)) (by omega) (by omega)) ?_
            refine WL_q rfl (ev_load one3 rfl (hM.output.cell (i := q) (by omega))) ?_
            refine WL_q rfl (ev_assign rfl) ?_
            refine WL_q rfl (ev_assign rfl) ?_
            refine WL_nil ?_
            refine thenE_n ?_
            refine W_seq ?_
            refine W_region ?_
            refine WL_q rfl (ev_move rfl) ?_
            refine WL_q rfl (ev_geq rfl rfl) ?_
            refine WL_nil ?_
            refine thenE_n ?_
            refine W_cond rfl (fun hg88 => ?_) (fun hg88 => ?_)
            · have hp88 := of_decide_eq_true hg88
              refine W_region ?_
              refine WL_q rfl (ev_move rfl) ?_
              refine WL_q rfl (ev_move rfl) ?_
              refine WL_q rfl (ev_move rfl) ?_
              refine WL_m rfl (ev_lit2I Tryz.underlying24 el3 rfl rfl) ?_
              rintro _ w92 ⟨rfl, hN92⟩
              have hz92 := hN92.size
              replace hE := hE.trans hN92.ext
              replace hRL6 := hRL6.trans hN92.ext
              replace hM := hM.ext hN92.ext
              replace hB1 := hB1.ext hN92.ext
              replace hr24 := hr24.ext hN92.ext
              replace hB27 := hB27.ext hN92.ext
              replace hO := hO.ext hN92.ext
              have hB92 := hN92.blk
              refine WL_m rfl (ev_call rfl (wordsLine_spec wGive _ _ [(q : Int), M.output[q]] _ (litI 2 hB92 (by simp)) ⟨fun x hx => by simp at hx; omega, by simp⟩ (by decide))) ?_
              rintro _ w93 ⟨rfl, hE93⟩
              have hz93 := hE93.size
              replace hE := hE.trans hE93
              replace hRL6 := hRL6.trans hE93
              replace hM := hM.ext hE93
              replace hB1 := hB1.ext hE93
              replace hr24 := hr24.ext hE93
              replace hB27 := hB27.ext hE93
              replace hO := hO.ext hE93
              replace hB92 := hB92.ext hE93
              refine WL_m rfl (ev_lit1 Tryz.underlying32 el9 (by decide) (by decide) rfl rfl) ?_
              rintro _ w94 ⟨rfl, hN94⟩
              have hz94 := hN94.size
              replace hE := hE.trans hN94.ext
              replace hRL6 := hRL6.trans hN94.ext
              replace hM := hM.ext hN94.ext
              replace hB1 := hB1.ext hN94.ext
              replace hr24 := hr24.ext hN94.ext
              replace hB27 := hB27.ext hN94.ext
              replace hO := hO.ext hN94.ext
              replace hB92 := hB92.ext hN94.ext
              have hB94 := hN94.blk
              refine WL_m rfl (ev_appendT Tryz.underlying32 el9 rfl (by decide) rfl rfl hO (SAt.of_blk (cs := [_]) (ds := []) hB94) rfl (by simp [Value.oneCell']) (by omega) (by unfold maxLen; omega) (by omega)) ?_
              rintro _ w95 ⟨a95, c95, rfl, hO95, hK95, hQ95⟩
              have hz95 := hK95.size
              replace hE := hE.rg hK95 (by omega)
              replace hRL6 := hRL6.rg hK95 (by omega)
              replace hM := hM.rg hK95 (by omega)
              replace hB1 := hB1.rg hK95 (by omega)
              replace hr24 := hr24.rg hK95 (by omega)
              replace hB27 := hB27.rg hK95 (by omega)
              replace hB92 := hB92.rg hK95 (by omega)
              replace hO := hO95
              refine WL_q rfl (ev_assign rfl) ?_
              refine WL_nil ?_
              refine blockE_n ?_
              refine thenE_n ?_
              refine W_region ?_
              refine WL_q rfl (ev_add rfl rfl (by omega)) ?_
              refine WL_q rfl (ev_move rfl) ?_
              refine WL_nil ?_
              refine thenE_n ?_
              exact ⟨(q + 1, a95, c95), (Subs.c rfl (Subs.c rfl Subs.n)), (Subs.c (lkS rfl (by rw [stD_yes hqlt hp88, List.length_append]; rfl)) (Subs.c (lkI rfl (by omega)) Subs.n)), ⟨hRL6, ⟨by omega, by rw [stD_yes hqlt hp88, List.map_append, List.length_append]; exact hO⟩⟩, by first | omega | (dsimp only; omega)⟩
            · have hp88 := of_decide_eq_false hg88
              refine W_skip ?_
              refine blockE_n ?_
              refine thenE_n ?_
              refine W_region ?_
              refine WL_q rfl (ev_add rfl rfl (by omega)) ?_
              refine WL_q rfl (ev_move rfl) ?_
              refine WL_nil ?_
              refine thenE_n ?_
              exact ⟨(q + 1, a5, c5), (Subs.c rfl (Subs.c rfl Subs.n)), (Subs.c (lkS rfl (by rw [stD_no hqlt hp88])) (Subs.c (lkI rfl (by omega)) Subs.n)), ⟨hRL6, ⟨by omega, by rw [stD_no hqlt hp88]; exact hO.up (Nat.le_refl _) (by omega)⟩⟩, by first | omega | (dsimp only; omega)⟩
          · have hp83 := of_decide_eq_false hg83
            refine W_exit ?_
            refine thenE_x ?_
            refine thenE_x ?_
            refine blockE_hit ?_
            refine thenE_n ?_
            refine W_seq ?_
            refine W_region ?_
            refine WL_q rfl (ev_move rfl) ?_
            have hjl := join_len hsh
            have hml := mtext_len hsh.1
            refine WL_m rfl (ev_call rfl (Join_spec _ _ (stD M q) _ hO.1 stD_pos hsh)) ?_
            rintro _ w98 ⟨rfl, hE98⟩
            have hz98 := hE98.size
            replace hE := hE.trans hE98
            replace hM := hM.ext hE98
            replace hB1 := hB1.ext hE98
            replace hr24 := hr24.ext hE98
            replace hB27 := hB27.ext hE98
            replace hO := hO.ext hE98
            refine WL_q rfl (ev_addS (b := [10]) rfl rfl (by (try simp only [List.length_append, List.length_cons, List.length_nil]); omega)) ?_
            refine WL_q rfl (ev_assign rfl) ?_
            refine WL_q rfl (ev_assign rfl) ?_
            refine WL_nil ?_
            refine thenE_n ?_
            refine W_ret ?_
            refine ret2 rfl rfl rfl ?_
            first | (exact ⟨[], _, rfl, .no hp14, by decide, hE⟩) | (have hq9 : q = M.output.length := (by omega); exact ⟨mtext (stD M q), _, by rw [← join_text stD_ne], .yes hkM (by rw [hq9]), by omega, hE⟩)

end Go.Proofs.YtdpdjbfjjlpfgaaGreatDoor
