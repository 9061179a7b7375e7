/- Contracts of StepMachine, of the program and of the reference; the walk of FnExactStepMachine. -/
import Derived.Test.YtebjcbgencenbaaGreatStep
namespace Go.Proofs.YtebjcbgencenbaaGreat
open Go Go.RowKit

set_option maxRecDepth 100000 in
theorem stepStates_spec {lom him : Nat} (nm : MA) (m : Mach) {loA hiA : Nat} (nA : NA) (A : Net) {loS hiS : Nat} (aS : Option Addr) (cS : Nat) (S : List Int) (w : World) (hm : IsMach lom him w nm m) (hhim : him ≤ w.heap.size) (hnm : totM m ≤ 1048576) (hA : IsNet loA hiA w nA A) (hhiA : hiA ≤ w.heap.size) (hnA : totN A ≤ 1048576) (hS : Ints loS hiS w aS cS S) (hhiS : hiS ≤ w.heap.size) (hnS : S.length ≤ 1048576) (hf : Fits m A) (hso : SOk m A S) :
    Fn Tryz.prog 52 #[machV nm m, netV nA A, .slice aS S.length cS] w (fun r w' => ∃ a' c', r = .slice a' (stepS m A S).length c' ∧ Own w.heap.size w' 3 1 a' (stepS m A S).length c' ((stepS m A S).map VI) ∧ Ext w w') := by
  have hmm : totL m.start + totL m.send + totC m.clauses + m.output.length ≤ 1048576 := hnm
  have hqA := totL_len A.ends
  have hmA : totL A.ends + A.ids.length + A.inputs.length ≤ 1048576 := hnA
  have hkm := hf.1
  have hkA := hf.2.1
  have hnd := hkA.nodes
  have hsl := hso.len
  have hst := hkm.states
  have hol := hkm.outLen
  have hcl := hkm.clLen
  have hdg := hkm.deg
  have hxl := bxs_len m A S
  have hE := Ext.refl w
  refine Fn_of Tryz.func52 rfl rfl (by kernel_rfl) rfl ?_
  refine W_seq ?_
  refine W_region ?_
  refine WL_m rfl (ev_box rfl) ?_
  rintro _ w3 ⟨rfl, hN3⟩
  have hz3 := hN3.size
  replace hE := hE.trans hN3.ext
  replace hm := hm.ext hN3.ext
  replace hA := hA.ext hN3.ext
  replace hS := hS.ext hN3.ext
  have hB3 : Blk w3 _ _ [_, _, _, _, _, _, _] := hN3.blk
  refine WL_m rfl (ev_box rfl) ?_
  rintro _ w4 ⟨rfl, hN4⟩
  have hz4 := hN4.size
  replace hE := hE.trans hN4.ext
  replace hm := hm.ext hN4.ext
  replace hA := hA.ext hN4.ext
  replace hS := hS.ext hN4.ext
  replace hB3 := hB3.ext hN4.ext
  have hB4 : Blk w4 _ _ [_, _, _] := hN4.blk
  refine WL_q rfl (ev_assign rfl) ?_
  refine WL_nil ?_
  refine thenE_n ?_
  refine W_seq ?_
  refine W_region ?_
  refine WL_q rfl (ev_move rfl) ?_
  refine WL_m rfl (ev_call rfl (Clone_int _ _ S _ hS (by omega) (by omega))) ?_
  rintro _ w12 ⟨a12, c12, rfl, hO12, hE12⟩
  have hz12 := hE12.size
  replace hE := hE.trans hE12
  replace hm := hm.ext hE12
  replace hA := hA.ext hE12
  replace hS := hS.ext hE12
  replace hB3 := hB3.ext hE12
  replace hB4 := hB4.ext hE12
  obtain ⟨g, rest, rfl, hg1, hBk, hc1, hc2, hc3, hc4⟩ := hO12.blk (by omega)
  have hgl := hBk.lt
  refine WL_q rfl (ev_assign rfl) ?_
  refine WL_nil ?_
  refine thenE_n ?_
  refine W_seq ?_
  refine W_seq ?_
  refine W_region ?_
  refine WL_q rfl (ev_loads st36 sz36 rfl (cellsB hB3) rfl) ?_
  refine WL_q rfl (ev_loads st40 sz40 rfl (cellsB hB4) rfl) ?_
  refine WL_q rfl (ev_move rfl) ?_
  refine WL_m rfl (ev_call rfl (inboxes_spec _ m _ A _ _ S _ hm (by omega) (by omega) hA (by omega) (by omega) hS (by omega) (by omega) (by assumption) (by assumption))) ?_
  rintro _ w16 ⟨a16, rfl, hR16, hE16⟩
  have hz16 := hE16.size
  replace hE := hE.trans hE16
  replace hm := hm.ext hE16
  replace hA := hA.ext hE16
  replace hS := hS.ext hE16
  replace hB3 := hB3.ext hE16
  replace hB4 := hB4.ext hE16
  replace hBk := hBk.ext hE16
  have hI16 := hR16.is
  refine WL_q rfl (ev_len Tryz.underlying22 rfl) ?_
  refine WL_q rfl (ev_move rfl) ?_
  refine WL_nil ?_
  refine thenE_n ?_
  refine W_block ?_
  refine W_loopC (G := Nat) [(2, _), (3, _), (7, _), (16, _), (17, _)] ((Subs.c rfl (Subs.c rfl (Subs.c rfl (Subs.c rfl (Subs.c rfl Subs.n)))))) (fun i => [(18, VI (i : Int))]) (fun i w' => KX (g) w16 w' ∧ i ≤ S.length ∧ Blk w' g 3 ((mx (stepS m A S) S i).map VI ++ rest)) (fun i => S.length - i) 0 ((Subs.c (lkI rfl (by omega)) Subs.n)) (⟨KX.refl _ _, ⟨by omega, by rw [mx_zero]; exact hBk⟩⟩) ?_
  rintro i wL0 ⟨hRL0, hi', hBk⟩
  have hzL0 := hRL0.size
  replace hm := hm.kx hRL0 (by omega)
  replace hA := hA.kx hRL0 (by omega)
  replace hS := hS.kx hRL0 (by omega)
  replace hB3 := hB3.kx hRL0 (by omega)
  replace hB4 := hB4.kx hRL0 (by omega)
  replace hI16 := hI16.kx hRL0 (by omega)
  replace hE := hE.kx hRL0 (by omega)
  refine W_seq ?_
  refine W_region ?_
  refine WL_q rfl (ev_lss rfl rfl) ?_
  refine WL_nil ?_
  refine thenE_n ?_
  refine W_seq ?_
  refine W_cond rfl (fun hg19 => ?_) (fun hg19 => ?_)
  · have hp19 := of_decide_eq_true hg19
    refine W_skip ?_
    refine thenE_n ?_
    refine W_seq ?_
    refine W_block ?_
    refine W_seq ?_
    refine W_region ?_
    refine WL_q rfl (ev_move rfl) ?_
    have hg9 := hBk.lt
    have hlt : i < S.length := by omega
    have hlA : i < A.ends.length := by omega
    have hsr := hso.rng hlt
    have hso3 : S[i].toNat < m.output.length := by omega
    have hl21 : i < (bxs m A S).length := by omega
    have ht21 := totL_le hl21
    obtain ⟨a21, c21, hc21, hr21⟩ := hI16.row hl21
    refine WL_q rfl (ev_indexAddr Tryz.underlying22 sz24 rfl rfl (hI16.isSome (by omega)) (by omega) (by omega)) ?_
    refine WL_q rfl (ev_load one24 rfl (hc21)) ?_
    refine WL_q rfl (ev_assign rfl) ?_
    refine WL_q rfl (ev_assign rfl) ?_
    refine WL_nil ?_
    refine thenE_n ?_
    refine W_seq ?_
    refine W_seq ?_
    refine W_drawE [(0, true), (1, true), (2, true), (3, true), (4, true), (5, true), (6, true), (7, true), (8, true)] mixed (by kernel_rfl) rfl (by kernel_rfl) ?_
    intro wd5 hEd5 hzd5
    replace hE := hE.trans hEd5
    replace hRL0 := hRL0.trans hEd5
    replace hm := hm.ext hEd5
    replace hA := hA.ext hEd5
    replace hS := hS.ext hEd5
    replace hB3 := hB3.ext hEd5
    replace hB4 := hB4.ext hEd5
    replace hI16 := hI16.ext hEd5
    replace hBk := hBk.ext hEd5
    replace hr21 := hr21.ext hEd5
    have hDd5 := Ext.refl wd5
    refine PW_q rfl rfl (fun wq hq => ev_fieldAddr fo36_6 rfl) ?_
    refine PW_q rfl rfl (fun wq hq => ev_load one24 rfl (hq.cell (hB3.cell rfl))) ?_
    refine PW_q rfl rfl (fun wq hq => ev_move rfl) ?_
    refine PW_q rfl rfl (fun wq hq => ev_move rfl) ?_
    refine PW_q rfl rfl (fun wq hq => ev_indexAddr Tryz.underlying24 sz3 rfl rfl (hS.isSome (by omega)) (by omega) (by omega)) ?_
    have hc28 := hS.cell (i := i) (by omega)
    refine PW_q rfl rfl (fun wq hq => ev_load one3 rfl (hq.cell (hc28))) ?_
    refine PW_q rfl rfl (fun wq hq => ev_indexAddr Tryz.underlying24 sz3 rfl rfl (hm.output.isSome (by omega)) (by omega) (by omega)) ?_
    have hc30 := hm.output.cell (i := S[i].toNat) (by omega)
    refine PW_q rfl rfl (fun wq hq => ev_load one3 rfl (hq.cell (hc30))) ?_
    refine PW_q rfl rfl (fun wq hq => ev_geq rfl rfl) ?_
    refine PW_nil ?_
    refine thenE_n ?_
    refine W_cond rfl (fun hg31 => ?_) (fun hg31 => ?_)
    · have hp31 := of_decide_eq_true hg31
      refine W_exit ?_
      refine thenE_x ?_
      refine blockE_hit ?_
      refine thenE_n ?_
      refine W_region ?_
      refine WL_q rfl (ev_add rfl rfl (by omega)) ?_
      refine WL_q rfl (ev_move rfl) ?_
      refine WL_nil ?_
      refine thenE_n ?_
      have hst9 := stp_no (x := (bxs m A S)[i]) hlA hlt bxs_at hso3 (by omega) (h := by rw [stepS_len]; exact hlA)
      rw [mx_keep hlt (by rw [stepS_len]; exact hlA) hst9] at hBk
      exact ⟨i + 1, (Subs.c rfl (Subs.c rfl (Subs.c rfl (Subs.c rfl (Subs.c rfl Subs.n))))), (Subs.c (lkI rfl (by omega)) Subs.n), ⟨hRL0, ⟨by omega, hBk⟩⟩, by first | omega | (dsimp only; omega)⟩
    · have hp31 := of_decide_eq_false hg31
      refine W_skip ?_
      refine thenE_n ?_
      refine W_seq ?_
      refine W_drawE [(0, true), (1, true), (2, true), (3, true), (4, true), (5, true), (6, false), (7, true)] mixed (by kernel_rfl) rfl (by kernel_rfl) ?_
      intro wd6 hEd6 hzd6
      replace hE := hE.trans hEd6
      replace hRL0 := hRL0.trans hEd6
      replace hm := hm.ext hEd6
      replace hA := hA.ext hEd6
      replace hS := hS.ext hEd6
      replace hB3 := hB3.ext hEd6
      replace hB4 := hB4.ext hEd6
      replace hI16 := hI16.ext hEd6
      replace hBk := hBk.ext hEd6
      replace hr21 := hr21.ext hEd6
      have hDd6 := Ext.refl wd6
      refine PW_q rfl rfl (fun wq hq => ev_loads st36 sz36 rfl (cellsB (hq.blk hB3)) rfl) ?_
      refine PW_q rfl rfl (fun wq hq => ev_move rfl) ?_
      refine PW_q rfl rfl (fun wq hq => ev_move rfl) ?_
      refine PW_q rfl rfl (fun wq hq => ev_indexAddr Tryz.underlying24 sz3 rfl rfl (hS.isSome (by omega)) (by omega) (by omega)) ?_
      have hc36 := hS.cell (i := i) (by omega)
      refine PW_q rfl rfl (fun wq hq => ev_load one3 rfl (hq.cell (hc36))) ?_
      refine PW_q rfl rfl (fun wq hq => ev_move rfl) ?_
      refine PW_m rfl rfl (ev_call rfl (clauseFor_spec _ m _ _ _ (bxs m A S)[i] _ hm hr21 (by omega))) ?_
      rintro _ w38 ⟨rfl, hE38⟩
      have hz38 := hE38.size
      replace hE := hE.trans hE38
      replace hRL0 := hRL0.trans hE38
      replace hDd6 := hDd6.trans hE38
      refine ⟨hDd6, ?_⟩
      refine PW_q rfl rfl (fun wq hq => ev_assign rfl) ?_
      replace hm := hm.ext hDd6
      replace hA := hA.ext hDd6
      replace hS := hS.ext hDd6
      replace hB3 := hB3.ext hDd6
      replace hB4 := hB4.ext hDd6
      replace hI16 := hI16.ext hDd6
      replace hBk := hBk.ext hDd6
      replace hr21 := hr21.ext hDd6
      refine PW_nil ?_
      refine thenE_n ?_
      refine W_seq ?_
      refine W_region ?_
      refine WL_q rfl (ev_move rfl) ?_
      refine WL_q rfl (ev_geq rfl rfl) ?_
      refine WL_nil ?_
      refine thenE_n ?_
      refine W_cond rfl (fun hg40 => ?_) (fun hg40 => ?_)
      · have hp40 := of_decide_eq_true hg40
        refine W_region ?_
        refine WL_q rfl (ev_move rfl) ?_
        refine WL_q rfl (ev_move rfl) ?_
        refine WL_q rfl (ev_fieldAddr fo36_5 rfl) ?_
        refine WL_q rfl (ev_load one34 rfl (hB3.cell rfl)) ?_
        refine WL_q rfl (ev_move rfl) ?_
        have hic := idxF_lt (p := cfit S[i] (bxs m A S)[i]) (xs := m.clauses)
        have hik : (idxF (cfit S[i] (bxs m A S)[i]) m.clauses).toNat < m.clauses.length := by omega
        obtain ⟨a9, c9, hc9, hr9⟩ := hm.clauses.cl hik
        refine WL_q rfl (ev_indexAddr Tryz.underlying34 sz78 rfl rfl (hm.clauses.isSome (by omega)) (by omega) (by omega)) ?_
        refine WL_q rfl (ev_fieldAddr fo78_2 rfl) ?_
        refine WL_q rfl (ev_load one3 rfl (hc9 2 (by simp))) ?_
        refine WL_q rfl (ev_indexAddr Tryz.underlying24 sz3 rfl rfl rfl (by omega) (by omega)) ?_
        refine WL_s (ev_store sz3 rfl rfl rfl hBk (by simp [mx_len]; omega)) ?_
        rintro _ w8_9 hS8_9
        have hz8_9 := hS8_9.size
        replace hE := hE.sto hS8_9 (by omega)
        replace hRL0 := hRL0.sto hS8_9 (by omega)
        replace hm := hm.sto hS8_9 (by omega)
        replace hA := hA.sto hS8_9 (by omega)
        replace hS := hS.sto hS8_9 (by omega)
        replace hB3 := hB3.sto hS8_9 (by omega)
        replace hB4 := hB4.sto hS8_9 (by omega)
        replace hI16 := hI16.sto hS8_9 (by omega)
        replace hr21 := hr21.sto hS8_9 (by omega)
        replace hBk := hS8_9.blk
        replace hBk := isetR (i := i) (by omega) (by rw [mx_len]; exact hlt) hBk
        refine WL_nil ?_
        refine blockE_n ?_
        refine thenE_n ?_
        refine W_region ?_
        refine WL_q rfl (ev_add rfl rfl (by omega)) ?_
        refine WL_q rfl (ev_move rfl) ?_
        refine WL_nil ?_
        refine thenE_n ?_
        have hst9 := stp_yes (x := (bxs m A S)[i]) hlA hlt bxs_at (by omega) hso3 (by omega) hik (h := by rw [stepS_len]; exact hlA)
        rw [mx_put hlt (by rw [stepS_len]; exact hlA) hst9] at hBk
        exact ⟨i + 1, (Subs.c rfl (Subs.c rfl (Subs.c rfl (Subs.c rfl (Subs.c rfl Subs.n))))), (Subs.c (lkI rfl (by omega)) Subs.n), ⟨hRL0, ⟨by omega, hBk⟩⟩, by first | omega | (dsimp only; omega)⟩
      · have hp40 := of_decide_eq_false hg40
        refine W_skip ?_
        refine blockE_n ?_
        refine thenE_n ?_
        refine W_region ?_
        refine WL_q rfl (ev_add rfl rfl (by omega)) ?_
        refine WL_q rfl (ev_move rfl) ?_
        refine WL_nil ?_
        refine thenE_n ?_
        have hst9 := stp_no (x := (bxs m A S)[i]) hlA hlt bxs_at hso3 (by omega) (h := by rw [stepS_len]; exact hlA)
        rw [mx_keep hlt (by rw [stepS_len]; exact hlA) hst9] at hBk
        exact ⟨i + 1, (Subs.c rfl (Subs.c rfl (Subs.c rfl (Subs.c rfl (Subs.c rfl Subs.n))))), (Subs.c (lkI rfl (by omega)) Subs.n), ⟨hRL0, ⟨by omega, hBk⟩⟩, by first | omega | (dsimp only; omega)⟩
  · have hp19 := of_decide_eq_false hg19
    refine W_exit ?_
    refine thenE_x ?_
    refine thenE_x ?_
    refine blockE_hit ?_
    refine thenE_n ?_
    refine W_seq ?_
    refine W_region ?_
    refine WL_q rfl (ev_move rfl) ?_
    refine WL_q rfl (ev_assign rfl) ?_
    refine WL_nil ?_
    refine thenE_n ?_
    refine W_ret ?_
    refine ret1 rfl rfl ?_
    exact ⟨_, _, by rw [stepS_len, ← hsl], by rw [stepS_len, ← hsl]; rw [mx_all (by rw [stepS_len, hsl]) (by omega)] at hBk; exact Own.of_blk hBk (by omega) (by omega) (by omega) (by simp only [List.length_append, List.length_map, stepS_len] at hc3 ⊢; omega) (by simp [stepS_len, hsl]), hE⟩

end Go.Proofs.YtebjcbgencenbaaGreat
