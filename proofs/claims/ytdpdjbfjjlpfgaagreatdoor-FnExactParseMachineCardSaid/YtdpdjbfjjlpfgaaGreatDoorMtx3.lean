/- Contracts of MachineText, of the program and of the reference. -/
import Derived.Test.YtdpdjbfjjlpfgaaGreatDoorMtx2
import Derived.Test.YtdpdjbfjjlpfgaaGreatDoorStdM
namespace Go.Proofs.YtdpdjbfjjlpfgaaGreatDoor
open Go Go.RowKit

set_option maxHeartbeats 1000000 in
set_option maxRecDepth 100000 in
theorem maText_spec {loM hiM : Nat} (nM : MA) (M : Mach) (w : World) (hM : IsMach loM hiM w nM M) (hhiM : hiM ≤ w.heap.size) (hnM : totM M ≤ 1048576) (hkM : MOk M) :
    Fn Tryz.prog 15 #[machV nM M] w (fun v w' => v = .string (bs (mtext (stD M M.output.length))) ∧ Ext w w') := by
  have hmM : totL M.start + totL M.send + totC M.clauses + M.output.length ≤ 1048576 := hnM
  have hq1 := totL_len M.start
  have hq2 := totL_len M.send
  have hq3 := totC_len M.clauses
  have hkl := hkM.startLen
  have hkd := hkM.deg
  have hks := hkM.states
  have hkg := hkM.msgs
  have hkh := hkM.head
  have hkn := hkM.sendLen
  have hko := hkM.outLen
  have hkc := hkM.clLen
  have hs0 : M.start.headD [] = M.start[0] := headD_eq (by omega)
  rw [hs0] at hkh
  have hE := Ext.refl w
  refine Fn_of Tryz.func15 rfl rfl (by kernel_rfl) rfl ?_
  refine W_seq ?_
  refine W_region ?_
  refine WL_m rfl (ev_box rfl) ?_
  rintro _ w1 ⟨rfl, hN1⟩
  have hz1 := hN1.size
  replace hE := hE.trans hN1.ext
  replace hM := hM.ext hN1.ext
  have hB1 : Blk w1 _ _ [_, _, _, _, _, _, _] := hN1.blk
  refine WL_q rfl (ev_assign rfl) ?_
  refine WL_nil ?_
  refine thenE_n ?_
  refine W_seq ?_
  refine W_drawE [(0, true), (1, true), (2, true), (3, true), (4, true), (5, true), (6, true), (7, true), (8, true), (9, true), (10, true), (11, false), (12, false), (13, true), (14, true)] mixed (by kernel_rfl) rfl (by kernel_rfl) ?_
  intro wd1 hEd1 hzd1
  replace hE := hE.trans hEd1
  replace hM := hM.ext hEd1
  replace hB1 := hB1.ext hEd1
  have hDd1 := Ext.refl wd1
  refine PW_q rfl rfl (fun wq hq => ev_fieldAddr fo26_0 rfl) ?_
  refine PW_q rfl rfl (fun wq hq => ev_load one3 rfl (hq.cell (hB1.cell rfl))) ?_
  refine PW_q rfl rfl (fun wq hq => ev_fieldAddr fo26_1 rfl) ?_
  refine PW_q rfl rfl (fun wq hq => ev_load one3 rfl (hq.cell (hB1.cell rfl))) ?_
  refine PW_q rfl rfl (fun wq hq => ev_fieldAddr fo26_2 rfl) ?_
  refine PW_q rfl rfl (fun wq hq => ev_load one3 rfl (hq.cell (hB1.cell rfl))) ?_
  refine PW_q rfl rfl (fun wq hq => ev_fieldAddr fo26_3 rfl) ?_
  refine PW_q rfl rfl (fun wq hq => ev_load one22 rfl (hq.cell (hB1.cell rfl))) ?_
  have hl20 : 0 < M.start.length := by omega
  have ht20 := totL_le hl20
  obtain ⟨a20, c20, hc20, hr20⟩ := hM.start.row hl20
  refine PW_q rfl rfl (fun wq hq => ev_indexAddr Tryz.underlying22 sz24 rfl rfl (hM.start.isSome (by omega)) (by omega) (by omega)) ?_
  refine PW_q rfl rfl (fun wq hq => ev_load one24 rfl (hq.cell (hc20))) ?_
  refine PW_q rfl rfl (fun wq hq => ev_len Tryz.underlying24 rfl) ?_
  refine PW_m rfl rfl (ev_lit4I Tryz.underlying24 el3 rfl rfl rfl rfl) ?_
  rintro _ w23 ⟨rfl, hN23⟩
  have hz23 := hN23.size
  replace hE := hE.trans hN23.ext
  replace hDd1 := hDd1.trans hN23.ext
  have hB23 := hN23.blk
  refine ⟨hDd1, ?_⟩
  have hM_12 := hM.ext hDd1
  have hB1_12 := hB1.ext hDd1
  have hr20_12 := hr20.ext hDd1
  refine PW_m rfl rfl (ev_call rfl (maLine_spec wMachine _ _ [M.deg, M.states, M.msgs, (M.start[0].length : Int)] _ (litI 4 hB23 (by simp)) ⟨fun x hx => by simp only [List.mem_cons, List.not_mem_nil, or_false] at hx; omega, by simp⟩ (by decide))) ?_
  rintro _ w24 ⟨rfl, hE24⟩
  have hz24 := hE24.size
  replace hE := hE.trans hE24
  replace hDd1 := hDd1.trans hE24
  replace hB23 := hB23.ext hE24
  have hwl := hd_len hkM
  unfold hdL at hwl
  rw [hs0] at hwl
  refine ⟨hDd1, ?_⟩
  refine PW_q rfl rfl (fun wq hq => ev_addS (b := [10]) rfl rfl (by (try simp only [List.length_append, List.length_cons, List.length_nil]); omega)) ?_
  refine PW_q rfl rfl (fun wq hq => ev_assign rfl) ?_
  replace hM := hM.ext hDd1
  replace hB1 := hB1.ext hDd1
  replace hr20 := hr20.ext hDd1
  refine PW_nil ?_
  refine thenE_n ?_
  refine W_seq ?_
  refine W_seq ?_
  refine W_region ?_
  refine WL_q rfl (ev_fieldAddr fo26_3 rfl) ?_
  refine WL_q rfl (ev_load one22 rfl (hB1.cell rfl)) ?_
  refine WL_q rfl (ev_len Tryz.underlying22 rfl) ?_
  refine WL_q rfl (ev_move rfl) ?_
  refine WL_nil ?_
  refine thenE_n ?_
  refine W_block ?_
  refine W_loopC (G := Nat) [(1, _), (27, _), (28, _)] ((Subs.c rfl (Subs.c rfl (Subs.c rfl Subs.n)))) (fun i => [(3, .string (bs (mtext (stA M i)))), (29, VI (i : Int))]) (fun i w' => Ext w24 w' ∧ i ≤ M.start.length) (fun i => M.start.length - i) 0 ((Subs.c (lkV rfl (congrArg (fun l => Value.string (bs l)) (by rw [stA_zero, show mtext [hdL M] = hdL M ++ [10] by simp [mtext], hdL_eq (by omega)]))) (Subs.c (lkI rfl (by omega)) Subs.n))) (⟨Ext.refl _, Nat.zero_le _⟩) ?_
  rintro i wL0 ⟨hRL0, hi'⟩
  have hzL0 := hRL0.size
  replace hE := hE.trans hRL0
  replace hM := hM.ext hRL0
  replace hB1 := hB1.ext hRL0
  replace hr20 := hr20.ext hRL0
  replace hB23 := hB23.ext hRL0
  have hsh := stA_sh hkM i
  have hml := mtext_len hsh.1
  have hmn := hsh.2
  refine W_seq ?_
  refine W_region ?_
  refine WL_q rfl (ev_lss rfl rfl) ?_
  refine WL_nil ?_
  refine thenE_n ?_
  refine W_seq ?_
  refine W_cond rfl (fun hg30 => ?_) (fun hg30 => ?_)
  · have hp30 := of_decide_eq_true hg30
    refine W_skip ?_
    refine thenE_n ?_
    refine W_seq ?_
    refine W_block ?_
    refine W_seq ?_
    refine W_region ?_
    have hl31 : i < M.start.length := by omega
    have ht31 := totL_le hl31
    obtain ⟨a31, c31, hc31, hr31⟩ := hM.start.row hl31
    refine WL_q rfl (ev_indexAddr Tryz.underlying22 sz24 rfl rfl (hM.start.isSome (by omega)) (by omega) (by omega)) ?_
    refine WL_q rfl (ev_load one24 rfl (hc31)) ?_
    refine WL_q rfl (ev_assign rfl) ?_
    refine WL_nil ?_
    refine thenE_n ?_
    refine W_region ?_
    refine WL_q rfl (ev_move rfl) ?_
    refine WL_q rfl (ev_move rfl) ?_
    have hwl := line_len (wd := wStart) (by decide) (start_x hkM (List.getElem_mem hl31))
    refine WL_m rfl (ev_call rfl (maLine_spec wStart _ _ M.start[i] _ hr31 (start_x hkM (List.getElem_mem hl31)) (by decide))) ?_
    rintro _ w35 ⟨rfl, hE35⟩
    have hz35 := hE35.size
    replace hE := hE.trans hE35
    replace hRL0 := hRL0.trans hE35
    replace hM := hM.ext hE35
    replace hB1 := hB1.ext hE35
    replace hr20 := hr20.ext hE35
    replace hB23 := hB23.ext hE35
    replace hr31 := hr31.ext hE35
    refine WL_q rfl (ev_addS (b := [10]) rfl rfl (by (try simp only [List.length_append, List.length_cons, List.length_nil]); omega)) ?_
    refine WL_q rfl (ev_addS rfl rfl (by (try simp only [List.length_append, List.length_cons, List.length_nil]); omega)) ?_
    refine WL_q rfl (ev_assign rfl) ?_
    refine WL_nil ?_
    refine blockE_n ?_
    refine thenE_n ?_
    refine W_region ?_
    refine WL_q rfl (ev_add rfl rfl (by omega)) ?_
    refine WL_q rfl (ev_move rfl) ?_
    refine WL_nil ?_
    refine thenE_n ?_
    exact ⟨i + 1, (Subs.c rfl (Subs.c rfl (Subs.c rfl Subs.n))), (Subs.c (lkV rfl (congrArg (fun l => Value.string (bs l)) (by rw [stA_succ hl31, mtext_snoc]))) (Subs.c (lkI rfl (by omega)) Subs.n)), ⟨hRL0, by omega⟩, by first | omega | (dsimp only; omega)⟩
  · have hp30 := of_decide_eq_false hg30
    refine W_exit ?_
    refine thenE_x ?_
    refine thenE_x ?_
    refine blockE_hit ?_
    refine thenE_n ?_
    refine W_seq ?_
    refine W_seq ?_
    refine W_region ?_
    refine WL_q rfl (ev_fieldAddr fo26_4 rfl) ?_
    refine WL_q rfl (ev_load one22 rfl (hB1.cell rfl)) ?_
    refine WL_q rfl (ev_len Tryz.underlying22 rfl) ?_
    refine WL_q rfl (ev_move rfl) ?_
    refine WL_nil ?_
    refine thenE_n ?_
    refine W_block ?_
    refine W_loopC (G := Nat) [(1, _), (40, _), (41, _)] ((Subs.c rfl (Subs.c rfl (Subs.c rfl Subs.n)))) (fun k => [(3, .string (bs (mtext (stB M k)))), (42, VI (k : Int))]) (fun k w' => Ext wL0 w' ∧ k ≤ M.send.length) (fun k => M.send.length - k) 0 ((Subs.c (lkV rfl (congrArg (fun l => Value.string (bs l)) (by rw [stB_zero, show i = M.start.length by omega]))) (Subs.c (lkI rfl (by omega)) Subs.n))) (⟨Ext.refl _, Nat.zero_le _⟩) ?_
    rintro k wL2 ⟨hRL2, hk'⟩
    have hzL2 := hRL2.size
    replace hE := hE.trans hRL2
    replace hM := hM.ext hRL2
    replace hB1 := hB1.ext hRL2
    replace hr20 := hr20.ext hRL2
    replace hB23 := hB23.ext hRL2
    have hsh := stB_sh hkM k
    have hml := mtext_len hsh.1
    have hmn := hsh.2
    refine W_seq ?_
    refine W_region ?_
    refine WL_q rfl (ev_lss rfl rfl) ?_
    refine WL_nil ?_
    refine thenE_n ?_
    refine W_seq ?_
    refine W_cond rfl (fun hg43 => ?_) (fun hg43 => ?_)
    · have hp43 := of_decide_eq_true hg43
      refine W_skip ?_
      refine thenE_n ?_
      refine W_seq ?_
      refine W_block ?_
      refine W_seq ?_
      refine W_region ?_
      have hl44 : k < M.send.length := by omega
      have ht44 := totL_le hl44
      obtain ⟨a44, c44, hc44, hr44⟩ := hM.send.row hl44
      refine WL_q rfl (ev_indexAddr Tryz.underlying22 sz24 rfl rfl (hM.send.isSome (by omega)) (by omega) (by omega)) ?_
      refine WL_q rfl (ev_load one24 rfl (hc44)) ?_
      refine WL_q rfl (ev_assign rfl) ?_
      refine WL_nil ?_
      refine thenE_n ?_
      refine W_region ?_
      refine WL_q rfl (ev_move rfl) ?_
      refine WL_q rfl (ev_move rfl) ?_
      have hwl := line_len (wd := wSend) (by decide) (send_x hkM (List.getElem_mem hl44))
      refine WL_m rfl (ev_call rfl (maLine_spec wSend _ _ M.send[k] _ hr44 (send_x hkM (List.getElem_mem hl44)) (by decide))) ?_
      rintro _ w48 ⟨rfl, hE48⟩
      have hz48 := hE48.size
      replace hE := hE.trans hE48
      replace hRL2 := hRL2.trans hE48
      replace hM := hM.ext hE48
      replace hB1 := hB1.ext hE48
      replace hr20 := hr20.ext hE48
      replace hB23 := hB23.ext hE48
      replace hr44 := hr44.ext hE48
      refine WL_q rfl (ev_addS (b := [10]) rfl rfl (by (try simp only [List.length_append, List.length_cons, List.length_nil]); omega)) ?_
      refine WL_q rfl (ev_addS rfl rfl (by (try simp only [List.length_append, List.length_cons, List.length_nil]); omega)) ?_
      refine WL_q rfl (ev_assign rfl) ?_
      refine WL_nil ?_
      refine blockE_n ?_
      refine thenE_n ?_
      refine W_region ?_
      refine WL_q rfl (ev_add rfl rfl (by omega)) ?_
      refine WL_q rfl (ev_move rfl) ?_
      refine WL_nil ?_
      refine thenE_n ?_
      exact ⟨k + 1, (Subs.c rfl (Subs.c rfl (Subs.c rfl Subs.n))), (Subs.c (lkV rfl (congrArg (fun l => Value.string (bs l)) (by rw [stB_succ hl44, mtext_snoc]))) (Subs.c (lkI rfl (by omega)) Subs.n)), ⟨hRL2, by omega⟩, by first | omega | (dsimp only; omega)⟩
    · have hp43 := of_decide_eq_false hg43
      refine W_exit ?_
      refine thenE_x ?_
      refine thenE_x ?_
      refine blockE_hit ?_
      refine thenE_n ?_
      refine W_seq ?_
      refine W_seq ?_
      refine W_region ?_
      refine WL_q rfl (ev_fieldAddr fo26_5 rfl) ?_
      refine WL_q rfl (ev_load one23 rfl (hB1.cell rfl)) ?_
      refine WL_q rfl (ev_len Tryz.underlying23 rfl) ?_
      refine WL_q rfl (ev_move rfl) ?_
      refine WL_nil ?_
      refine thenE_n ?_
      refine W_block ?_
      refine W_loopC (G := Nat) [(1, _), (53, _), (54, _)] ((Subs.c rfl (Subs.c rfl (Subs.c rfl Subs.n)))) (fun j => [(3, .string (bs (mtext (stC M j)))), (55, VI (j : Int))]) (fun j w' => Ext wL2 w' ∧ j ≤ M.clauses.length) (fun j => M.clauses.length - j) 0 ((Subs.c (lkV rfl (congrArg (fun l => Value.string (bs l)) (by rw [stC_zero, show k = M.send.length by omega]))) (Subs.c (lkI rfl (by omega)) Subs.n))) (⟨Ext.refl _, Nat.zero_le _⟩) ?_
      rintro j wL4 ⟨hRL4, hj'⟩
      have hzL4 := hRL4.size
      replace hE := hE.trans hRL4
      replace hM := hM.ext hRL4
      replace hB1 := hB1.ext hRL4
      replace hr20 := hr20.ext hRL4
      replace hB23 := hB23.ext hRL4
      have hsh := stC_sh hkM j
      have hml := mtext_len hsh.1
      have hmn := hsh.2
      refine W_seq ?_
      refine W_region ?_
      refine WL_q rfl (ev_lss rfl rfl) ?_
      refine WL_nil ?_
      refine thenE_n ?_
      refine W_seq ?_
      refine W_cond rfl (fun hg56 => ?_) (fun hg56 => ?_)
      · have hp56 := of_decide_eq_true hg56
        refine W_skip ?_
        refine thenE_n ?_
        refine W_seq ?_
        refine W_block ?_
        refine W_seq ?_
        refine W_region ?_
        have hl57 : j < M.clauses.length := by omega
        obtain ⟨a57, c57, hc57, hr57⟩ := hM.clauses.cl hl57
        refine WL_q rfl (ev_indexAddr Tryz.underlying23 sz40 rfl rfl (hM.clauses.isSome (by omega)) (by omega) (by omega)) ?_
        refine WL_q rfl (ev_loads st40 sz40 rfl (hc57) rfl) ?_
        refine WL_m rfl (ev_alloc zr40) ?_
        rintro _ w9 ⟨rfl, hN9⟩
        have hz9 := hN9.size
        replace hE := hE.trans hN9.ext
        replace hRL4 := hRL4.trans hN9.ext
        replace hM := hM.ext hN9.ext
        replace hB1 := hB1.ext hN9.ext
        replace hr20 := hr20.ext hN9.ext
        replace hB23 := hB23.ext hN9.ext
        replace hr57 := hr57.ext hN9.ext
        have hB9 : Blk w9 _ _ [_, _, _] := hN9.blk
        refine WL_s (ev_stores sz40 rfl rfl rfl (by simp [Value.oneCell']) hB9 (by simp)) ?_
        rintro _ w14_3 hS14_3
        have hz14_3 := hS14_3.size
        replace hE := hE.sto hS14_3 (by omega)
        replace hRL4 := hRL4.sto hS14_3 (by omega)
        replace hM := hM.sto hS14_3 (by omega)
        replace hB1 := hB1.sto hS14_3 (by omega)
        replace hr20 := hr20.sto hS14_3 (by omega)
        replace hB23 := hB23.sto hS14_3 (by omega)
        replace hr57 := hr57.sto hS14_3 (by omega)
        replace hB9 : Blk w14_3 _ _ [_, _, _] := hS14_3.blk
        refine WL_nil ?_
        refine thenE_n ?_
        refine W_drawY (X := Unit) (fun x => [(3, .string (bs (mtext (stC M j) ++ (clW M.clauses[j] ++ [10]))))]) (fun x w' => Ext w14_3 w') 99 0 0 0 0 0 0 0 0 (.h 0 (.h 1 (.h 2 (.h 5 (.h 6 (.h 8 (.h 9 (.b 3 (.b 4 (.b 7 (.a 10 (.a 11 (.h 12 (.h 13 (.h 14 (.h 15 .done)))))) 10 (.a 7 (.a 11 (.h 12 (.h 13 (.h 14 (.h 15 .done))))))) 10 (.a 4 (.a 7 (.a 11 (.h 12 (.h 13 (.h 14 (.h 15 .done)))))))) 10 (.a 3 (.a 4 (.a 7 (.a 11 (.h 12 (.h 13 (.h 14 (.h 15 .done)))))))))))))))) mixed (by kernel_rfl) rfl (by kernel_rfl) ?_ ?_
        · have hT := Ext.refl w14_3
          intro wd15 hEd15 hzd15
          replace hE := hE.trans hEd15
          replace hRL4 := hRL4.trans hEd15
          replace hT := hT.trans hEd15
          replace hM := hM.ext hEd15
          replace hB1 := hB1.ext hEd15
          replace hr20 := hr20.ext hEd15
          replace hB23 := hB23.ext hEd15
          replace hr57 := hr57.ext hEd15
          replace hB9 := hB9.ext hEd15
          have hcx := cl_x hkM (List.getElem_mem hl57)
          have hcl := cl_len hkM (List.getElem_mem hl57)
          rw [clW_eq, List.length_append] at hcl
          have hcw := lineW_len (wd := wWhen) (xs := [M.clauses[j].1]) (fun x hx => by simp at hx; omega)
          have hw4 : wWhen.length = 4 := rfl
          simp only [List.length_cons, List.length_nil] at hcw
          have hSd15 := (Rg.refl : Rg 0 0 0 0 wd15 wd15)
          have hUd15 := (Rg.refl : Rg 0 0 0 0 wd15 wd15)
          refine PY_h rfl rfl (fun wq hq => ev_move rfl) ?_
          refine PY_h rfl rfl (fun wq hq => ev_fieldAddr fo40_0 rfl) ?_
          refine PY_h rfl rfl (fun wq hq => ev_load one3 rfl ((hB9.rg hq.1 (by omega)).cell rfl)) ?_
          refine PY_h rfl rfl (fun wq hq => ev_fieldAddr fo40_1 rfl) ?_
          refine PY_h rfl rfl (fun wq hq => ev_load one24 rfl ((hB9.rg hq.1 (by omega)).cell rfl)) ?_
          refine PY_h rfl rfl (fun wq hq => ev_fieldAddr fo40_2 rfl) ?_
          refine PY_h rfl rfl (fun wq hq => ev_load one3 rfl ((hB9.rg hq.1 (by omega)).cell rfl)) ?_
          refine PY_b ?_ ?_
          · refine PB_m 0 0 0 0 0 0 0 0 rfl rfl (ev_lit1 Tryz.underlying24 el3 (by decide) (by decide) rfl rfl) ?_
            rintro _ w62 ⟨rfl, hN62⟩
            have hz62 := hN62.size
            replace hE := hE.trans hN62.ext
            replace hRL4 := hRL4.trans hN62.ext
            replace hT := hT.trans hN62.ext
            replace hSd15 := hSd15.trans hN62.ext
            replace hUd15 := hUd15.trans hN62.ext
            replace hM := hM.ext hN62.ext
            replace hB1 := hB1.ext hN62.ext
            replace hr20 := hr20.ext hN62.ext
            replace hB23 := hB23.ext hN62.ext
            replace hr57 := hr57.ext hN62.ext
            replace hB9 := hB9.ext hN62.ext
            have hB62 := hN62.blk
            refine ⟨fun _ hx => ⟨hSd15.rg hx (by omega), trivial⟩, fun _ hx => ⟨hUd15.rg hx (by omega), trivial⟩, ?_⟩
            have hSd15 := (Rg.refl : Rg 0 0 0 0 w62 w62)
            have hUd15 := (Rg.refl : Rg 0 0 0 0 w62 w62)
            refine PY_b ?_ ?_
            · refine PB_m 0 0 0 0 0 0 0 0 rfl rfl (ev_call rfl (maLine_spec wWhen _ _ [M.clauses[j].1] _ (litI 1 hB62 (by simp)) ⟨fun x hx => by simp at hx; omega, by simp⟩ (by decide))) ?_
              rintro _ w63 ⟨rfl, hE63⟩
              have hz63 := hE63.size
              replace hE := hE.trans hE63
              replace hRL4 := hRL4.trans hE63
              replace hT := hT.trans hE63
              replace hSd15 := hSd15.trans hE63
              replace hUd15 := hUd15.trans hE63
              replace hM := hM.ext hE63
              replace hB1 := hB1.ext hE63
              replace hr20 := hr20.ext hE63
              replace hB23 := hB23.ext hE63
              replace hr57 := hr57.ext hE63
              replace hB9 := hB9.ext hE63
              replace hB62 := hB62.ext hE63
              refine ⟨fun _ hx => ⟨hSd15.rg hx (by omega), trivial⟩, fun _ hx => ⟨hUd15.rg hx (by omega), trivial⟩, ?_⟩
              have hSd15 := (Rg.refl : Rg 0 0 0 0 w63 w63)
              have hUd15 := (Rg.refl : Rg 0 0 0 0 w63 w63)
              refine PY_b ?_ ?_
              · refine PB_m 0 0 0 0 0 0 0 0 rfl rfl (ev_call rfl (maLine_spec (lineW wWhen [M.clauses[j].1]) _ _ M.clauses[j].2.1 _ hr57 ⟨hcx.2.2.1, hcx.2.2.2⟩ (by omega))) ?_
                rintro _ w66 ⟨rfl, hE66⟩
                have hz66 := hE66.size
                replace hE := hE.trans hE66
                replace hRL4 := hRL4.trans hE66
                replace hT := hT.trans hE66
                replace hSd15 := hSd15.trans hE66
                replace hUd15 := hUd15.trans hE66
                replace hM := hM.ext hE66
                replace hB1 := hB1.ext hE66
                replace hr20 := hr20.ext hE66
                replace hB23 := hB23.ext hE66
                replace hr57 := hr57.ext hE66
                replace hB9 := hB9.ext hE66
                replace hB62 := hB62.ext hE66
                refine ⟨fun _ hx => ⟨hSd15.rg hx (by omega), trivial⟩, fun _ hx => ⟨hUd15.rg hx (by omega), trivial⟩, ?_⟩
                have hSd15 := (Rg.refl : Rg 0 0 0 0 w66 w66)
                have hUd15 := (Rg.refl : Rg 0 0 0 0 w66 w66)
                refine PY_a ?_
                refine PB_m 0 0 0 0 0 0 0 0 rfl rfl (ev_lit1 Tryz.underlying24 el3 (by decide) (by decide) rfl rfl) ?_
                rintro _ w69 ⟨rfl, hN69⟩
                have hz69 := hN69.size
                replace hE := hE.trans hN69.ext
                replace hRL4 := hRL4.trans hN69.ext
                replace hT := hT.trans hN69.ext
                replace hSd15 := hSd15.trans hN69.ext
                replace hUd15 := hUd15.trans hN69.ext
                replace hM := hM.ext hN69.ext
                replace hB1 := hB1.ext hN69.ext
                replace hr20 := hr20.ext hN69.ext
                replace hB23 := hB23.ext hN69.ext
                replace hr57 := hr57.ext hN69.ext
                replace hB9 := hB9.ext hN69.ext
                replace hB62 := hB62.ext hN69.ext
                have hB69 := hN69.blk
                refine ⟨fun _ hx => ⟨hSd15.rg hx (by omega), trivial⟩, fun _ hx => ⟨hUd15.rg hx (by omega), trivial⟩, ?_⟩
                have hSd15 := (Rg.refl : Rg 0 0 0 0 w69 w69)
                have hUd15 := (Rg.refl : Rg 0 0 0 0 w69 w69)
                refine PY_a ?_
                refine PB_m 0 0 0 0 0 0 0 0 rfl rfl (ev_call rfl (maLine_spec wThen _ _ [M.clauses[j].2.2] _ (litI 1 hB69 (by simp)) ⟨fun x hx => by simp at hx; omega, by simp⟩ (by decide))) ?_
                rintro _ w70 ⟨rfl, hE70⟩
                have hz70 := hE70.size
                replace hE := hE.trans hE70
                replace hRL4 := hRL4.trans hE70
                replace hT := hT.trans hE70
                replace hSd15 := hSd15.trans hE70
                replace hUd15 := hUd15.trans hE70
                replace hM := hM.ext hE70
                replace hB1 := hB1.ext hE70
                replace hr20 := hr20.ext hE70
                replace hB23 := hB23.ext hE70
                replace hr57 := hr57.ext hE70
                replace hB9 := hB9.ext hE70
                replace hB62 := hB62.ext hE70
                replace hB69 := hB69.ext hE70
                refine ⟨fun _ hx => ⟨hSd15.rg hx (by omega), trivial⟩, fun _ hx => ⟨hUd15.rg hx (by omega), trivial⟩, ?_⟩
                have hSd15 := (Rg.refl : Rg 0 0 0 0 w70 w70)
                have hUd15 := (Rg.refl : Rg 0 0 0 0 w70 w70)
                refine PY_h rfl rfl (fun wq hq => ev_addS rfl rfl (by (try simp only [List.length_append, List.length_cons, List.length_nil]); omega)) ?_
                refine PY_h rfl rfl (fun wq hq => ev_addS (b := [10]) rfl rfl (by (try simp only [List.length_append, List.length_cons, List.length_nil]); omega)) ?_
                refine PY_h rfl rfl (fun wq hq => ev_addS rfl rfl (by (try simp only [List.length_append, List.length_cons, List.length_nil]); omega)) ?_
                refine PY_h rfl rfl (fun wq hq => ev_assign rfl) ?_
                exact PY_nil 16 () rfl ⟨lkV rfl (congrArg (fun l => Value.string (bs l)) (by rw [clW_eq])), trivial⟩ rfl hT
              · refine PB_m 0 0 0 0 0 0 0 0 rfl rfl (ev_lit1 Tryz.underlying24 el3 (by decide) (by decide) rfl rfl) ?_
                rintro _ w69 ⟨rfl, hN69⟩
                have hz69 := hN69.size
                replace hE := hE.trans hN69.ext
                replace hRL4 := hRL4.trans hN69.ext
                replace hT := hT.trans hN69.ext
                replace hSd15 := hSd15.trans hN69.ext
                replace hUd15 := hUd15.trans hN69.ext
                replace hM := hM.ext hN69.ext
                replace hB1 := hB1.ext hN69.ext
                replace hr20 := hr20.ext hN69.ext
                replace hB23 := hB23.ext hN69.ext
                replace hr57 := hr57.ext hN69.ext
                replace hB9 := hB9.ext hN69.ext
                replace hB62 := hB62.ext hN69.ext
                have hB69 := hN69.blk
                refine ⟨fun _ hx => ⟨hSd15.rg hx (by omega), trivial⟩, fun _ hx => ⟨hUd15.rg hx (by omega), trivial⟩, ?_⟩
                have hSd15 := (Rg.refl : Rg 0 0 0 0 w69 w69)
                have hUd15 := (Rg.refl : Rg 0 0 0 0 w69 w69)
                refine PY_a ?_
                refine PB_m 0 0 0 0 0 0 0 0 rfl rfl (ev_call rfl (maLine_spec (lineW wWhen [M.clauses[j].1]) _ _ M.clauses[j].2.1 _ hr57 ⟨hcx.2.2.1, hcx.2.2.2⟩ (by omega))) ?_
                rintro _ w66 ⟨rfl, hE66⟩
                have hz66 := hE66.size
                replace hE := hE.trans hE66
                replace hRL4 := hRL4.trans hE66
                replace hT := hT.trans hE66
                replace hSd15 := hSd15.trans hE66
                replace hUd15 := hUd15.trans hE66
                replace hM := hM.ext hE66
                replace hB1 := hB1.ext hE66
                replace hr20 := hr20.ext hE66
                replace hB23 := hB23.ext hE66
                replace hr57 := hr57.ext hE66
                replace hB9 := hB9.ext hE66
                replace hB62 := hB62.ext hE66
                replace hB69 := hB69.ext hE66
                refine ⟨fun _ hx => ⟨hSd15.rg hx (by omega), trivial⟩, fun _ hx => ⟨hUd15.rg hx (by omega), trivial⟩, ?_⟩
                have hSd15 := (Rg.refl : Rg 0 0 0 0 w66 w66)
                have hUd15 := (Rg.refl : Rg 0 0 0 0 w66 w66)
                refine PY_a ?_
                refine PB_m 0 0 0 0 0 0 0 0 rfl rfl (ev_call rfl (maLine_spec wThen _ _ [M.clauses[j].2.2] _ (litI 1 hB69 (by simp)) ⟨fun x hx => by simp at hx; omega, by simp⟩ (by decide))) ?_
                rintro _ w70 ⟨rfl, hE70⟩
                have hz70 := hE70.size
                replace hE := hE.trans hE70
                replace hRL4 := hRL4.trans hE70
                replace hT := hT.trans hE70
                replace hSd15 := hSd15.trans hE70
                replace hUd15 := hUd15.trans hE70
                replace hM := hM.ext hE70
                replace hB1 := hB1.ext hE70
                replace hr20 := hr20.ext hE70
                replace hB23 := hB23.ext hE70
                replace hr57 := hr57.ext hE70
                replace hB9 := hB9.ext hE70
                replace hB62 := hB62.ext hE70
                replace hB69 := hB69.ext hE70
                refine ⟨fun _ hx => ⟨hSd15.rg hx (by omega), trivial⟩, fun _ hx => ⟨hUd15.rg hx (by omega), trivial⟩, ?_⟩
                have hSd15 := (Rg.refl : Rg 0 0 0 0 w70 w70)
                have hUd15 := (Rg.refl : Rg 0 0 0 0 w70 w70)
                refine PY_h rfl rfl (fun wq hq => ev_addS rfl rfl (by (try simp only [List.length_append, List.length_cons, List.length_nil]); omega)) ?_
                refine PY_h rfl rfl (fun wq hq => ev_addS (b := [10]) rfl rfl (by (try simp only [List.length_append, List.length_cons, List.length_nil]); omega)) ?_
                refine PY_h rfl rfl (fun wq hq => ev_addS rfl rfl (by (try simp only [List.length_append, List.length_cons, List.length_nil]); omega)) ?_
                refine PY_h rfl rfl (fun wq hq => ev_assign rfl) ?_
                exact PY_nil 16 () rfl ⟨lkV rfl (congrArg (fun l => Value.string (bs l)) (by rw [clW_eq])), trivial⟩ rfl hT
            · refine PB_m 0 0 0 0 0 0 0 0 rfl rfl (ev_lit1 Tryz.underlying24 el3 (by decide) (by decide) rfl rfl) ?_
              rintro _ w69 ⟨rfl, hN69⟩
              have hz69 := hN69.size
              replace hE := hE.trans hN69.ext
              replace hRL4 := hRL4.trans hN69.ext
              replace hT := hT.trans hN69.ext
              replace hSd15 := hSd15.trans hN69.ext
              replace hUd15 := hUd15.trans hN69.ext
              replace hM := hM.ext hN69.ext
              replace hB1 := hB1.ext hN69.ext
              replace hr20 := hr20.ext hN69.ext
              replace hB23 := hB23.ext hN69.ext
              replace hr57 := hr57.ext hN69.ext
              replace hB9 := hB9.ext hN69.ext
              replace hB62 := hB62.ext hN69.ext
              have hB69 := hN69.blk
              refine ⟨fun _ hx => ⟨hSd15.rg hx (by omega), trivial⟩, fun _ hx => ⟨hUd15.rg hx (by omega), trivial⟩, ?_⟩
              have hSd15 := (Rg.refl : Rg 0 0 0 0 w69 w69)
              have hUd15 := (Rg.refl : Rg 0 0 0 0 w69 w69)
              refine PY_a ?_
              refine PB_m 0 0 0 0 0 0 0 0 rfl rfl (ev_call rfl (maLine_spec wWhen _ _ [M.clauses[j].1] _ (litI 1 hB62 (by simp)) ⟨fun x hx => by simp at hx; omega, by simp⟩ (by decide))) ?_
              rintro _ w63 ⟨rfl, hE63⟩
              have hz63 := hE63.size
              replace hE := hE.trans hE63
              replace hRL4 := hRL4.trans hE63
              replace hT := hT.trans hE63
              replace hSd15 := hSd15.trans hE63
              replace hUd15 := hUd15.trans hE63
              replace hM := hM.ext hE63
              replace hB1 := hB1.ext hE63
              replace hr20 := hr20.ext hE63
              replace hB23 := hB23.ext hE63
              replace hr57 := hr57.ext hE63
              replace hB9 := hB9.ext hE63
              replace hB62 := hB62.ext hE63
              replace hB69 := hB69.ext hE63
              refine ⟨fun _ hx => ⟨hSd15.rg hx (by omega), trivial⟩, fun _ hx => ⟨hUd15.rg hx (by omega), trivial⟩, ?_⟩
              have hSd15 := (Rg.refl : Rg 0 0 0 0 w63 w63)
              have hUd15 := (Rg.refl : Rg 0 0 0 0 w63 w63)
              refine PY_a ?_
              refine PB_m 0 0 0 0 0 0 0 0 rfl rfl (ev_call rfl (maLine_spec (lineW wWhen [M.clauses[j].1]) _ _ M.clauses[j].2.1 _ hr57 ⟨hcx.2.2.1, hcx.2.2.2⟩ (by omega))) ?_
              rintro _ w66 ⟨rfl, hE66⟩
              have hz66 := hE66.size
              replace hE := hE.trans hE66
              replace hRL4 := hRL4.trans hE66
              replace hT := hT.trans hE66
              replace hSd15 := hSd15.trans hE66
              replace hUd15 := hUd15.trans hE66
              replace hM := hM.ext hE66
              replace hB1 := hB1.ext hE66
              replace hr20 := hr20.ext hE66
              replace hB23 := hB23.ext hE66
              replace hr57 := hr57.ext hE66
              replace hB9 := hB9.ext hE66
              replace hB62 := hB62.ext hE66
              replace hB69 := hB69.ext hE66
              refine ⟨fun _ hx => ⟨hSd15.rg hx (by omega), trivial⟩, fun _ hx => ⟨hUd15.rg hx (by omega), trivial⟩, ?_⟩
              have hSd15 := (Rg.refl : Rg 0 0 0 0 w66 w66)
              have hUd15 := (Rg.refl : Rg 0 0 0 0 w66 w66)
              refine PY_a ?_
              refine PB_m 0 0 0 0 0 0 0 0 rfl rfl (ev_call rfl (maLine_spec wThen _ _ [M.clauses[j].2.2] _ (litI 1 hB69 (by simp)) ⟨fun x hx => by simp at hx; omega, by simp⟩ (by decide))) ?_
              rintro _ w70 ⟨rfl, hE70⟩
              have hz70 := hE70.size
              replace hE := hE.trans hE70
              replace hRL4 := hRL4.trans hE70
              replace hT := hT.trans hE70
              replace hSd15 := hSd15.trans hE70
              replace hUd15 := hUd15.trans hE70
              replace hM := hM.ext hE70
              replace hB1 := hB1.ext hE70
              replace hr20 := hr20.ext hE70
              replace hB23 := hB23.ext hE70
              replace hr57 := hr57.ext hE70
              replace hB9 := hB9.ext hE70
              replace hB62 := hB62.ext hE70
              replace hB69 := hB69.ext hE70
              refine ⟨fun _ hx => ⟨hSd15.rg hx (by omega), trivial⟩, fun _ hx => ⟨hUd15.rg hx (by omega), trivial⟩, ?_⟩
              have hSd15 := (Rg.refl : Rg 0 0 0 0 w70 w70)
              have hUd15 := (Rg.refl : Rg 0 0 0 0 w70 w70)
              refine PY_h rfl rfl (fun wq hq => ev_addS rfl rfl (by (try simp only [List.length_append, List.length_cons, List.length_nil]); omega)) ?_
              refine PY_h rfl rfl (fun wq hq => ev_addS (b := [10]) rfl rfl (by (try simp only [List.length_append, List.length_cons, List.length_nil]); omega)) ?_
              refine PY_h rfl rfl (fun wq hq => ev_addS rfl rfl (by (try simp only [List.length_append, List.length_cons, List.length_nil]); omega)) ?_
              refine PY_h rfl rfl (fun wq hq => ev_assign rfl) ?_
              exact PY_nil 16 () rfl ⟨lkV rfl (congrArg (fun l => Value.string (bs l)) (by rw [clW_eq])), trivial⟩ rfl hT
          · refine PB_m 0 0 0 0 0 0 0 0 rfl rfl (ev_lit1 Tryz.underlying24 el3 (by decide) (by decide) rfl rfl) ?_
            rintro _ w69 ⟨rfl, hN69⟩
            have hz69 := hN69.size
            replace hE := hE.trans hN69.ext
            replace hRL4 := hRL4.trans hN69.ext
            replace hT := hT.trans hN69.ext
            replace hSd15 := hSd15.trans hN69.ext
            replace hUd15 := hUd15.trans hN69.ext
            replace hM := hM.ext hN69.ext
            replace hB1 := hB1.ext hN69.ext
            replace hr20 := hr20.ext hN69.ext
            replace hB23 := hB23.ext hN69.ext
            replace hr57 := hr57.ext hN69.ext
            replace hB9 := hB9.ext hN69.ext
            have hB69 := hN69.blk
            refine ⟨fun _ hx => ⟨hSd15.rg hx (by omega), trivial⟩, fun _ hx => ⟨hUd15.rg hx (by omega), trivial⟩, ?_⟩
            have hSd15 := (Rg.refl : Rg 0 0 0 0 w69 w69)
            have hUd15 := (Rg.refl : Rg 0 0 0 0 w69 w69)
            refine PY_a ?_
            refine PB_m 0 0 0 0 0 0 0 0 rfl rfl (ev_lit1 Tryz.underlying24 el3 (by decide) (by decide) rfl rfl) ?_
            rintro _ w62 ⟨rfl, hN62⟩
            have hz62 := hN62.size
            replace hE := hE.trans hN62.ext
            replace hRL4 := hRL4.trans hN62.ext
            replace hT := hT.trans hN62.ext
            replace hSd15 := hSd15.trans hN62.ext
            replace hUd15 := hUd15.trans hN62.ext
            replace hM := hM.ext hN62.ext
            replace hB1 := hB1.ext hN62.ext
            replace hr20 := hr20.ext hN62.ext
            replace hB23 := hB23.ext hN62.ext
            replace hr57 := hr57.ext hN62.ext
            replace hB9 := hB9.ext hN62.ext
            replace hB69 := hB69.ext hN62.ext
            have hB62 := hN62.blk
            refine ⟨fun _ hx => ⟨hSd15.rg hx (by omega), trivial⟩, fun _ hx => ⟨hUd15.rg hx (by omega), trivial⟩, ?_⟩
            have hSd15 := (Rg.refl : Rg 0 0 0 0 w62 w62)
            have hUd15 := (Rg.refl : Rg 0 0 0 0 w62 w62)
            refine PY_a ?_
            refine PB_m 0 0 0 0 0 0 0 0 rfl rfl (ev_call rfl (maLine_spec wWhen _ _ [M.clauses[j].1] _ (litI 1 hB62 (by simp)) ⟨fun x hx => by simp at hx; omega, by simp⟩ (by decide))) ?_
            rintro _ w63 ⟨rfl, hE63⟩
            have hz63 := hE63.size
            replace hE := hE.trans hE63
            replace hRL4 := hRL4.trans hE63
            replace hT := hT.trans hE63
            replace hSd15 := hSd15.trans hE63
            replace hUd15 := hUd15.trans hE63
            replace hM := hM.ext hE63
            replace hB1 := hB1.ext hE63
            replace hr20 := hr20.ext hE63
            replace hB23 := hB23.ext hE63
            replace hr57 := hr57.ext hE63
            replace hB9 := hB9.ext hE63
            replace hB69 := hB69.ext hE63
            replace hB62 := hB62.ext hE63
            refine ⟨fun _ hx => ⟨hSd15.rg hx (by omega), trivial⟩, fun _ hx => ⟨hUd15.rg hx (by omega), trivial⟩, ?_⟩
            have hSd15 := (Rg.refl : Rg 0 0 0 0 w63 w63)
            have hUd15 := (Rg.refl : Rg 0 0 0 0 w63 w63)
            refine PY_a ?_
            refine PB_m 0 0 0 0 0 0 0 0 rfl rfl (ev_call rfl (maLine_spec (lineW wWhen [M.clauses[j].1]) _ _ M.clauses[j].2.1 _ hr57 ⟨hcx.2.2.1, hcx.2.2.2⟩ (by omega))) ?_
            rintro _ w66 ⟨rfl, hE66⟩
            have hz66 := hE66.size
            replace hE := hE.trans hE66
            replace hRL4 := hRL4.trans hE66
            replace hT := hT.trans hE66
            replace hSd15 := hSd15.trans hE66
            replace hUd15 := hUd15.trans hE66
            replace hM := hM.ext hE66
            replace hB1 := hB1.ext hE66
            replace hr20 := hr20.ext hE66
            replace hB23 := hB23.ext hE66
            replace hr57 := hr57.ext hE66
            replace hB9 := hB9.ext hE66
            replace hB69 := hB69.ext hE66
            replace hB62 := hB62.ext hE66
            refine ⟨fun _ hx => ⟨hSd15.rg hx (by omega), trivial⟩, fun _ hx => ⟨hUd15.rg hx (by omega), trivial⟩, ?_⟩
            have hSd15 := (Rg.refl : Rg 0 0 0 0 w66 w66)
            have hUd15 := (Rg.refl : Rg 0 0 0 0 w66 w66)
            refine PY_a ?_
            refine PB_m 0 0 0 0 0 0 0 0 rfl rfl (ev_call rfl (maLine_spec wThen _ _ [M.clauses[j].2.2] _ (litI 1 hB69 (by simp)) ⟨fun x hx => by simp at hx; omega, by simp⟩ (by decide))) ?_
            rintro _ w70 ⟨rfl, hE70⟩
            have hz70 := hE70.size
            replace hE := hE.trans hE70
            replace hRL4 := hRL4.trans hE70
            replace hT := hT.trans hE70
            replace hSd15 := hSd15.trans hE70
            replace hUd15 := hUd15.trans hE70
            replace hM := hM.ext hE70
            replace hB1 := hB1.ext hE70
            replace hr20 := hr20.ext hE70
            replace hB23 := hB23.ext hE70
            replace hr57 := hr57.ext hE70
            replace hB9 := hB9.ext hE70
            replace hB69 := hB69.ext hE70
            replace hB62 := hB62.ext hE70
            refine ⟨fun _ hx => ⟨hSd15.rg hx (by omega), trivial⟩, fun _ hx => ⟨hUd15.rg hx (by omega), trivial⟩, ?_⟩
            have hSd15 := (Rg.refl : Rg 0 0 0 0 w70 w70)
            have hUd15 := (Rg.refl : Rg 0 0 0 0 w70 w70)
            refine PY_h rfl rfl (fun wq hq => ev_addS rfl rfl (by (try simp only [List.length_append, List.length_cons, List.length_nil]); omega)) ?_
            refine PY_h rfl rfl (fun wq hq => ev_addS (b := [10]) rfl rfl (by (try simp only [List.length_append, List.length_cons, List.length_nil]); omega)) ?_
            refine PY_h rfl rfl (fun wq hq => ev_addS rfl rfl (by (try simp only [List.length_append, List.length_cons, List.length_nil]); omega)) ?_
            refine PY_h rfl rfl (fun wq hq => ev_assign rfl) ?_
            exact PY_nil 16 () rfl ⟨lkV rfl (congrArg (fun l => Value.string (bs l)) (by rw [clW_eq])), trivial⟩ rfl hT
        rintro _ wt15 hT
        dsimp only [List.cons_append, List.nil_append]
        replace hE := hE.trans hT
        replace hRL4 := hRL4.trans hT
        replace hM := hM.ext hT
        replace hB1 := hB1.ext hT
        replace hr20 := hr20.ext hT
        replace hB23 := hB23.ext hT
        replace hr57 := hr57.ext hT
        replace hB9 := hB9.ext hT
        refine blockE_n ?_
        refine thenE_n ?_
        refine W_region ?_
        refine WL_q rfl (ev_add rfl rfl (by omega)) ?_
        refine WL_q rfl (ev_move rfl) ?_
        refine WL_nil ?_
        refine thenE_n ?_
        exact ⟨j + 1, (Subs.c rfl (Subs.c rfl (Subs.c rfl Subs.n))), (Subs.c (lkV rfl (congrArg (fun l => Value.string (bs l)) (by rw [stC_succ hl57, mtext_snoc]))) (Subs.c (lkI rfl (by omega)) Subs.n)), ⟨hRL4, by omega⟩, by first | omega | (dsimp only; omega)⟩
      · have hp56 := of_decide_eq_false hg56
        refine W_exit ?_
        refine thenE_x ?_
        refine thenE_x ?_
        refine blockE_hit ?_
        refine thenE_n ?_
        refine W_seq ?_
        refine W_seq ?_
        refine W_region ?_
        refine WL_q rfl (ev_fieldAddr fo26_6 rfl) ?_
        refine WL_q rfl (ev_load one24 rfl (hB1.cell rfl)) ?_
        refine WL_q rfl (ev_len Tryz.underlying24 rfl) ?_
        refine WL_q rfl (ev_move rfl) ?_
        refine WL_nil ?_
        refine thenE_n ?_
        refine W_block ?_
        refine W_loopC (G := Nat) [(76, _), (77, _)] ((Subs.c rfl (Subs.c rfl Subs.n))) (fun q => [(3, .string (bs (mtext (stD M q)))), (78, VI (q : Int))]) (fun q w' => Ext wL4 w' ∧ q ≤ M.output.length) (fun q => M.output.length - q) 0 ((Subs.c (lkV rfl (congrArg (fun l => Value.string (bs l)) (by rw [stD_zero, show j = M.clauses.length by omega]))) (Subs.c (lkI rfl (by omega)) Subs.n))) (⟨Ext.refl _, Nat.zero_le _⟩) ?_
        rintro q wL6 ⟨hRL6, hq'⟩
        have hzL6 := hRL6.size
        replace hE := hE.trans hRL6
        replace hM := hM.ext hRL6
        replace hB1 := hB1.ext hRL6
        replace hr20 := hr20.ext hRL6
        replace hB23 := hB23.ext hRL6
        have hsh := stD_sh hkM hq'
        have hml := mtext_len hsh.1
        have hmn := hsh.2
        refine W_seq ?_
        refine W_region ?_
        refine WL_q rfl (ev_lss rfl rfl) ?_
        refine WL_nil ?_
        refine thenE_n ?_
        refine W_seq ?_
        refine W_cond rfl (fun hg79 => ?_) (fun hg79 => ?_)
        · have hp79 := of_decide_eq_true hg79
          refine W_skip ?_
          refine thenE_n ?_
          refine W_seq ?_
          refine W_block ?_
          refine W_seq ?_
          refine W_region ?_
          refine WL_q rfl (ev_move rfl) ?_
          have hqlt : q < M.output.length := by omega
          have hox := out_x hkM (List.getElem_mem hqlt)
          refine WL_q rfl (ev_indexAddr Tryz.underlying24 sz3 rfl rfl (hM.output.isSome (by omega)) (by omega) (by omega)) ?_
          refine WL_q rfl (ev_load one3 rfl (hM.output.cell (i := q) (by omega))) ?_
          refine WL_q rfl (ev_assign rfl) ?_
          refine WL_q rfl (ev_assign rfl) ?_
          refine WL_nil ?_
          refine thenE_n ?_
          refine W_seq ?_
          refine W_region ?_
          refine WL_q rfl (ev_move rfl) ?_
          refine WL_q rfl (ev_geq rfl rfl) ?_
          refine WL_nil ?_
          refine thenE_n ?_
          refine W_cond rfl (fun hg84 => ?_) (fun hg84 => ?_)
          · have hp84 := of_decide_eq_true hg84
            refine W_region ?_
            refine WL_q rfl (ev_move rfl) ?_
            refine WL_q rfl (ev_move rfl) ?_
            refine WL_q rfl (ev_move rfl) ?_
            refine WL_m rfl (ev_lit2I Tryz.underlying24 el3 rfl rfl) ?_
            rintro _ w88 ⟨rfl, hN88⟩
            have hz88 := hN88.size
            replace hE := hE.trans hN88.ext
            replace hRL6 := hRL6.trans hN88.ext
            replace hM := hM.ext hN88.ext
            replace hB1 := hB1.ext hN88.ext
            replace hr20 := hr20.ext hN88.ext
            replace hB23 := hB23.ext hN88.ext
            have hB88 := hN88.blk
            have hwl := line_len (wd := wGive) (l := [(q : Int), M.output[q]]) (by decide) ⟨fun x hx => by simp at hx; omega, by simp⟩
            refine WL_m rfl (ev_call rfl (maLine_spec wGive _ _ [(q : Int), M.output[q]] _ (litI 2 hB88 (by simp)) ⟨fun x hx => by simp at hx; omega, by simp⟩ (by decide))) ?_
            rintro _ w89 ⟨rfl, hE89⟩
            have hz89 := hE89.size
            replace hE := hE.trans hE89
            replace hRL6 := hRL6.trans hE89
            replace hM := hM.ext hE89
            replace hB1 := hB1.ext hE89
            replace hr20 := hr20.ext hE89
            replace hB23 := hB23.ext hE89
            replace hB88 := hB88.ext hE89
            refine WL_q rfl (ev_addS (b := [10]) rfl rfl (by (try simp only [List.length_append, List.length_cons, List.length_nil]); omega)) ?_
            refine WL_q rfl (ev_addS rfl rfl (by (try simp only [List.length_append, List.length_cons, List.length_nil]); omega)) ?_
            refine WL_q rfl (ev_assign rfl) ?_
            refine WL_nil ?_
            refine blockE_n ?_
            refine thenE_n ?_
            refine W_region ?_
            refine WL_q rfl (ev_add rfl rfl (by omega)) ?_
            refine WL_q rfl (ev_move rfl) ?_
            refine WL_nil ?_
            refine thenE_n ?_
            exact ⟨q + 1, (Subs.c rfl (Subs.c rfl Subs.n)), (Subs.c (lkV rfl (congrArg (fun l => Value.string (bs l)) (by rw [stD_yes hqlt hp84, mtext_snoc]))) (Subs.c (lkI rfl (by omega)) Subs.n)), ⟨hRL6, by omega⟩, by first | omega | (dsimp only; omega)⟩
          · have hp84 := of_decide_eq_false hg84
            refine W_skip ?_
            refine blockE_n ?_
            refine thenE_n ?_
            refine W_region ?_
            refine WL_q rfl (ev_add rfl rfl (by omega)) ?_
            refine WL_q rfl (ev_move rfl) ?_
            refine WL_nil ?_
            refine thenE_n ?_
            exact ⟨q + 1, (Subs.c rfl (Subs.c rfl Subs.n)), (Subs.c (lkV rfl (congrArg (fun l => Value.string (bs l)) (by rw [stD_no hqlt hp84]))) (Subs.c (lkI rfl (by omega)) Subs.n)), ⟨hRL6, by omega⟩, by first | omega | (dsimp only; omega)⟩
        · have hp79 := of_decide_eq_false hg79
          refine W_exit ?_
          refine thenE_x ?_
          refine thenE_x ?_
          refine blockE_hit ?_
          refine thenE_n ?_
          refine W_seq ?_
          refine W_region ?_
          refine WL_q rfl (ev_move rfl) ?_
          refine WL_q rfl (ev_assign rfl) ?_
          refine WL_nil ?_
          refine thenE_n ?_
          refine W_ret ?_
          refine ret1 rfl rfl ?_
          have hq9 : q = M.output.length := by omega
          exact ⟨by rw [← hq9], hE⟩

end Go.Proofs.YtdpdjbfjjlpfgaaGreatDoor
