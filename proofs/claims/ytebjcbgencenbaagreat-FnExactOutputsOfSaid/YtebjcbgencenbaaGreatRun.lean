/- Contracts of runs of machines on networks, of the program and of the reference; the walks of FnExactRunsOn and FnExactStartStates. -/
import Derived.Test.YtebjcbgencenbaaGreatStd
import Derived.Test.YtebjcbgencenbaaGreatPortMap
import Derived.Test.YtebjcbgencenbaaGreatClauseFor
import Derived.Test.YtebjcbgencenbaaGreatMark
import Derived.Test.YtebjcbgencenbaaGreatMarkI
import Derived.Test.YtebjcbgencenbaaGreatBfs
import Derived.Test.YtebjcbgencenbaaGreatDraw
namespace Go.Proofs.YtebjcbgencenbaaGreat
open Go Go.RowKit

/-- m runs on A. -/
def OnM (m : Mach) (A : Net) : Prop := (∀ j (_h : j < A.ends.length), (A.ends[j].length : Int) ≤ m.deg) ∧ ∀ j (_h : j < A.inputs.length), A.inputs[j] < ((m.start.headD []).length : Int)
def Fits (m : Mach) (A : Net) : Prop := MOk m ∧ NOk A ∧ OnM m A
def degs (A : Net) : List Int := A.ends.map fun r => (r.length : Int)
theorem degs_len (A : Net) : (degs A).length = A.ends.length := by simp [degs]
theorem onM_iff {m : Mach} {A : Net} (hA : NOk A) : (allR (degs A) 0 m.deg = true ∧ allR A.inputs 0 (((m.start.headD []).length : Int) - 1) = true) ↔ OnM m A := by
  rw [allR_true, allR_true]
  constructor
  · rintro ⟨h1, h2⟩
    exact ⟨fun j hj => (h1 _ (List.mem_map_of_mem (List.getElem_mem hj))).2, fun j hj => by have := h2 _ (List.getElem_mem hj); omega⟩
  · rintro ⟨h1, h2⟩
    refine ⟨fun x hx => ?_, fun x hx => ?_⟩
    · obtain ⟨r, hr, rfl⟩ := List.mem_map.1 hx
      obtain ⟨j, hj, rfl⟩ := List.mem_iff_getElem.1 hr
      exact ⟨by omega, h1 j hj⟩
    · obtain ⟨j, hj, rfl⟩ := List.mem_iff_getElem.1 hx
      have := allR_true.1 hA.inputs _ hx
      have := h2 j hj
      omega
theorem headD_at {xs : List (List Int)} (h : 0 < xs.length) : xs.headD [] = xs[0] := by
  cases xs with
  | nil => simp at h
  | cons x r => rfl

set_option maxRecDepth 100000 in
theorem runsOn_spec {lom him : Nat} (nm : MA) (m : Mach) {loA hiA : Nat} (nA : NA) (A : Net) (w : World) (hm : IsMach lom him w nm m) (hhim : him ≤ w.heap.size) (hnm : totM m ≤ 1048576) (hA : IsNet loA hiA w nA A) (hhiA : hiA ≤ w.heap.size) (hnA : totN A ≤ 1048576) (hkm : MOk m) (hkA : NOk A) :
    Fn Tryz.prog 66 #[machV nm m, netV nA A] w (fun v w' => ∃ b, v = VB b ∧ (b = true ↔ OnM m A) ∧ Ext w w') := by
  have hmm : totL m.start + totL m.send + totC m.clauses + m.output.length ≤ 1048576 := hnm
  have hqA := totL_len A.ends
  have hmA : totL A.ends + A.ids.length + A.inputs.length ≤ 1048576 := hnA
  have hsl := hkm.startLen
  have hdg := hkm.deg
  have h0s : 0 < m.start.length := by omega
  have hhd := headD_at h0s
  have hin := hkA.inLen
  have hnd := hkA.nodes
  have hE := Ext.refl w
  refine Fn_of Tryz.func66 rfl rfl (by kernel_rfl) rfl ?_
  refine W_seq ?_
  refine W_region ?_
  refine WL_m rfl (ev_box rfl) ?_
  rintro _ w2 ⟨rfl, hN2⟩
  have hz2 := hN2.size
  replace hE := hE.trans hN2.ext
  replace hm := hm.ext hN2.ext
  replace hA := hA.ext hN2.ext
  have hB2 : Blk w2 _ _ [_, _, _, _, _, _, _] := hN2.blk
  refine WL_m rfl (ev_box rfl) ?_
  rintro _ w3 ⟨rfl, hN3⟩
  have hz3 := hN3.size
  replace hE := hE.trans hN3.ext
  replace hm := hm.ext hN3.ext
  replace hA := hA.ext hN3.ext
  replace hB2 := hB2.ext hN3.ext
  have hB3 : Blk w3 _ _ [_, _, _] := hN3.blk
  refine WL_q rfl (ev_assign rfl) ?_
  refine WL_nil ?_
  refine thenE_n ?_
  refine W_seq ?_
  refine W_seq ?_
  refine W_region ?_
  refine WL_q rfl (ev_fieldAddr fo40_0 rfl) ?_
  refine WL_q rfl (ev_load one38 rfl (hB3.cell rfl)) ?_
  refine WL_q rfl (ev_len Tryz.underlying38 rfl) ?_
  refine WL_q rfl (ev_move rfl) ?_
  refine WL_nil ?_
  refine thenE_n ?_
  refine W_block ?_
  refine W_loopC (G := Nat) [(2, _), (3, _), (8, _), (9, _)] ((Subs.c rfl (Subs.c rfl (Subs.c rfl (Subs.c rfl Subs.n))))) (fun i => [(10, VI (i : Int))]) (fun i w' => Ext w3 w' ∧ i ≤ A.ends.length ∧ ∀ j (_h : j < i) (h2 : j < A.ends.length), (A.ends[j].length : Int) ≤ m.deg ∧ A.inputs.getD j 0 < (m.start[0].length : Int)) (fun i => A.ends.length - i) 0 ((Subs.c (lkI rfl (by omega)) Subs.n)) (⟨Ext.refl _, ⟨by omega, fun j h => by omega⟩⟩) ?_
  rintro i wL0 ⟨hRL0, hi', hJ⟩
  have hzL0 := hRL0.size
  replace hE := hE.trans hRL0
  replace hm := hm.ext hRL0
  replace hA := hA.ext hRL0
  replace hB2 := hB2.ext hRL0
  replace hB3 := hB3.ext hRL0
  refine W_seq ?_
  refine W_region ?_
  refine WL_q rfl (ev_lss rfl rfl) ?_
  refine WL_nil ?_
  refine thenE_n ?_
  refine W_seq ?_
  refine W_cond rfl (fun hg11 => ?_) (fun hg11 => ?_)
  · have hp11 := of_decide_eq_true hg11
    refine W_skip ?_
    refine thenE_n ?_
    refine W_seq ?_
    refine W_block ?_
    refine W_seq ?_
    refine W_region ?_
    refine WL_q rfl (ev_move rfl) ?_
    have hlt : i < A.ends.length := by omega
    have hl13 : i < A.ends.length := by omega
    have ht13 := totL_le hl13
    obtain ⟨a13, c13, hc13, hr13⟩ := hA.ends.row hl13
    refine WL_q rfl (ev_indexAddr Tryz.underlying38 sz80 rfl rfl (hA.ends.isSome (by omega)) (by omega) (by omega)) ?_
    refine WL_q rfl (ev_load one80 rfl (hc13)) ?_
    refine WL_q rfl (ev_assign rfl) ?_
    refine WL_q rfl (ev_assign rfl) ?_
    refine WL_nil ?_
    refine thenE_n ?_
    refine W_seq ?_
    refine W_drawE [(0, true), (1, true), (2, true), (3, true), (4, true), (5, true), (6, true), (7, true), (8, true), (9, true), (10, true), (11, true), (12, true), (13, true), (14, true), (15, true), (16, true), (17, true)] mixed (by kernel_rfl) rfl (by kernel_rfl) ?_
    intro wd4 hEd4 hzd4
    replace hE := hE.trans hEd4
    replace hRL0 := hRL0.trans hEd4
    replace hm := hm.ext hEd4
    replace hA := hA.ext hEd4
    replace hB2 := hB2.ext hEd4
    replace hB3 := hB3.ext hEd4
    replace hr13 := hr13.ext hEd4
    have hDd4 := Ext.refl wd4
    refine PW_q rfl rfl (fun wq hq => ev_move rfl) ?_
    refine PW_q rfl rfl (fun wq hq => ev_len Tryz.underlying80 rfl) ?_
    refine PW_q rfl rfl (fun wq hq => ev_fieldAddr fo36_0 rfl) ?_
    refine PW_q rfl rfl (fun wq hq => ev_load one3 rfl (hq.cell (hB2.cell rfl))) ?_
    refine PW_q rfl rfl (fun wq hq => ev_gtr rfl rfl) ?_
    refine PW_q rfl rfl (fun wq hq => ev_move rfl) ?_
    refine PW_splitv (t := 20) rfl (fun hg19 => ?_) (fun hg19 => ?_)
    · have hp19 := of_decide_eq_true hg19
      refine PW_no rfl rfl rfl hg19 rfl ?_
      refine PW_no rfl rfl rfl hg19 rfl ?_
      refine PW_no rfl rfl rfl hg19 rfl ?_
      refine PW_no rfl rfl rfl hg19 rfl ?_
      refine PW_no rfl rfl rfl hg19 rfl ?_
      refine PW_no rfl rfl rfl hg19 rfl ?_
      refine PW_no rfl rfl rfl hg19 rfl ?_
      refine PW_no rfl rfl rfl hg19 rfl ?_
      refine PW_no rfl rfl rfl hg19 rfl ?_
      refine PW_no rfl rfl rfl hg19 rfl ?_
      refine PW_no rfl rfl rfl hg19 rfl ?_
      refine PW_q rfl rfl (fun wq hq => ev_pick_t rfl hg19 rfl) ?_
      refine PW_nil ?_
      refine thenE_n ?_
      refine W_cond_t rfl ?_
      refine W_seq ?_
      refine W_region ?_
      refine WL_q rfl (ev_assign rfl) ?_
      refine WL_nil ?_
      refine thenE_n ?_
      refine W_ret ?_
      refine blockE_r ?_
      refine thenE_r ?_
      refine thenE_r ?_
      refine blockE_r ?_
      refine thenE_r ?_
      refine ret1 rfl rfl ?_
      first | (refine ⟨_, rfl, ffI fun hk => ?_, hE⟩; have := hk.1 i hlt; omega) | (refine ⟨_, rfl, ffI fun hk => ?_, hE⟩; have h9 := hk.2 i (by omega); rw [hhd] at h9; omega) | (refine ⟨_, rfl, ttI ⟨fun j hj => (hJ j (by omega) hj).1, fun j hj => ?_⟩, hE⟩; have h9 := (hJ j (by omega) (by omega)).2; rw [getD_eq hj] at h9; rw [hhd]; exact h9)
    · have hp19 := of_decide_eq_false hg19
      refine PW_qg rfl rfl rfl hg19 rfl (fun wq hq => ev_fieldAddr fo40_2 rfl) ?_
      refine PW_qg rfl rfl rfl hg19 rfl (fun wq hq => ev_load one24 rfl (hq.cell (hB3.cell rfl))) ?_
      refine PW_qg rfl rfl rfl hg19 rfl (fun wq hq => ev_move rfl) ?_
      refine PW_qg rfl rfl rfl hg19 rfl (fun wq hq => ev_indexAddr Tryz.underlying24 sz3 rfl rfl (hA.inputs.isSome (by omega)) (by omega) (by omega)) ?_
      have hc25 := hA.inputs.cell (i := i) (by omega)
      refine PW_qg rfl rfl rfl hg19 rfl (fun wq hq => ev_load one3 rfl (hq.cell (hc25))) ?_
      refine PW_qg rfl rfl rfl hg19 rfl (fun wq hq => ev_fieldAddr fo36_3 rfl) ?_
      refine PW_qg rfl rfl rfl hg19 rfl (fun wq hq => ev_load one22 rfl (hq.cell (hB2.cell rfl))) ?_
      have hl28 : 0 < m.start.length := by omega
      have ht28 := totL_le hl28
      obtain ⟨a28, c28, hc28, hr28⟩ := hm.start.row hl28
      refine PW_qg rfl rfl rfl hg19 rfl (fun wq hq => ev_indexAddr Tryz.underlying22 sz24 rfl rfl (hm.start.isSome (by omega)) (by omega) (by omega)) ?_
      refine PW_qg rfl rfl rfl hg19 rfl (fun wq hq => ev_load one24 rfl (hq.cell (hc28))) ?_
      refine PW_qg rfl rfl rfl hg19 rfl (fun wq hq => ev_len Tryz.underlying24 rfl) ?_
      refine PW_qg rfl rfl rfl hg19 rfl (fun wq hq => ev_geq rfl rfl) ?_
      refine PW_q rfl rfl (fun wq hq => ev_pick_f rfl hg19 rfl) ?_
      refine PW_nil ?_
      refine thenE_n ?_
      refine W_cond rfl (fun hg31 => ?_) (fun hg31 => ?_)
      · have hp31 := of_decide_eq_true hg31
        refine W_seq ?_
        refine W_region ?_
        refine WL_q rfl (ev_assign rfl) ?_
        refine WL_nil ?_
        refine thenE_n ?_
        refine W_ret ?_
        refine blockE_r ?_
        refine thenE_r ?_
        refine thenE_r ?_
        refine blockE_r ?_
        refine thenE_r ?_
        refine ret1 rfl rfl ?_
        first | (refine ⟨_, rfl, ffI fun hk => ?_, hE⟩; have := hk.1 i hlt; omega) | (refine ⟨_, rfl, ffI fun hk => ?_, hE⟩; have h9 := hk.2 i (by omega); rw [hhd] at h9; omega) | (refine ⟨_, rfl, ttI ⟨fun j hj => (hJ j (by omega) hj).1, fun j hj => ?_⟩, hE⟩; have h9 := (hJ j (by omega) (by omega)).2; rw [getD_eq hj] at h9; rw [hhd]; exact h9)
      · have hp31 := of_decide_eq_false hg31
        refine W_skip ?_
        refine blockE_n ?_
        refine thenE_n ?_
        refine W_region ?_
        refine WL_q rfl (ev_add rfl rfl (by omega)) ?_
        refine WL_q rfl (ev_move rfl) ?_
        refine WL_nil ?_
        refine thenE_n ?_
        exact ⟨i + 1, (Subs.c rfl (Subs.c rfl (Subs.c rfl (Subs.c rfl Subs.n)))), (Subs.c (lkI rfl (by omega)) Subs.n), ⟨hRL0, ⟨by omega, dsucc (P := fun j h2 => (A.ends[j].length : Int) ≤ m.deg ∧ A.inputs.getD j 0 < (m.start[0].length : Int)) hJ hlt ⟨by omega, by rw [getD_eq (by omega)]; omega⟩⟩⟩, by first | omega | (dsimp only; omega)⟩
  · have hp11 := of_decide_eq_false hg11
    refine W_exit ?_
    refine thenE_x ?_
    refine thenE_x ?_
    refine blockE_hit ?_
    refine thenE_n ?_
    refine W_seq ?_
    refine W_region ?_
    refine WL_q rfl (ev_assign rfl) ?_
    refine WL_nil ?_
    refine thenE_n ?_
    refine W_ret ?_
    refine ret1 rfl rfl ?_
    first | (refine ⟨_, rfl, ffI fun hk => ?_, hE⟩; have := hk.1 i hlt; omega) | (refine ⟨_, rfl, ffI fun hk => ?_, hE⟩; have h9 := hk.2 i (by omega); rw [hhd] at h9; omega) | (refine ⟨_, rfl, ttI ⟨fun j hj => (hJ j (by omega) hj).1, fun j hj => ?_⟩, hE⟩; have h9 := (hJ j (by omega) (by omega)).2; rw [getD_eq hj] at h9; rw [hhd]; exact h9)

set_option maxRecDepth 100000 in
theorem neDegrees_spec {loA hiA : Nat} (nA : NA) (A : Net) (w : World) (hA : IsNet loA hiA w nA A) (hhiA : hiA ≤ w.heap.size) (hnA : totN A ≤ 1048576) :
    Fn Tryz.prog 59 #[netV nA A] w (fun r w' => ∃ a' c', r = .slice a' (degs A).length c' ∧ Own w.heap.size w' 3 1 a' (degs A).length c' ((degs A).map VI) ∧ Ext w w') := by
  have hqA := totL_len A.ends
  have hmA : totL A.ends + A.ids.length + A.inputs.length ≤ 1048576 := hnA
  have hdl := degs_len A
  have hE := Ext.refl w
  refine Fn_of Tryz.func59 rfl rfl (by kernel_rfl) rfl ?_
  refine W_seq ?_
  refine W_region ?_
  refine WL_m rfl (ev_box rfl) ?_
  rintro _ w1 ⟨rfl, hN1⟩
  have hz1 := hN1.size
  replace hE := hE.trans hN1.ext
  replace hA := hA.ext hN1.ext
  have hB1 : Blk w1 _ _ [_, _, _] := hN1.blk
  refine WL_q rfl (ev_assign rfl) ?_
  refine WL_nil ?_
  refine thenE_n ?_
  refine W_seq ?_
  refine W_region ?_
  refine WL_q rfl (ev_assign rfl) ?_
  refine WL_nil ?_
  refine thenE_n ?_
  refine W_seq ?_
  refine W_seq ?_
  refine W_region ?_
  refine WL_q rfl (ev_fieldAddr fo40_0 rfl) ?_
  refine WL_q rfl (ev_load one38 rfl (hB1.cell rfl)) ?_
  refine WL_q rfl (ev_len Tryz.underlying38 rfl) ?_
  refine WL_q rfl (ev_move rfl) ?_
  refine WL_nil ?_
  refine thenE_n ?_
  refine W_block ?_
  refine W_loopC (G := Nat × Option Addr × Nat) [(7, _), (8, _)] ((Subs.c rfl (Subs.c rfl Subs.n))) (fun ⟨i, a, c⟩ => [(3, .slice a i c), (9, VI (i : Int))]) (fun ⟨i, a, c⟩ w' => Ext w1 w' ∧ i ≤ A.ends.length ∧ OwnH w1.heap.size w'.heap.size 0 0 w' 3 1 a i c (((degs A).take i).map VI)) (fun g => A.ends.length - g.1) (0, none, 0) ((Subs.c rfl (Subs.c (lkI rfl (by omega)) Subs.n))) (⟨Ext.refl _, ⟨by omega, OwnH.nil⟩⟩) ?_
  rintro ⟨i, a, c⟩ wL0 ⟨hRL0, hi', hO⟩
  have hzL0 := hRL0.size
  replace hE := hE.trans hRL0
  replace hA := hA.ext hRL0
  replace hB1 := hB1.ext hRL0
  refine W_seq ?_
  refine W_region ?_
  refine WL_q rfl (ev_lss rfl rfl) ?_
  refine WL_nil ?_
  refine thenE_n ?_
  refine W_seq ?_
  refine W_cond rfl (fun hg10 => ?_) (fun hg10 => ?_)
  · have hp10 := of_decide_eq_true hg10
    refine W_skip ?_
    refine thenE_n ?_
    refine W_seq ?_
    refine W_block ?_
    refine W_seq ?_
    refine W_region ?_
    have hl11 : i < A.ends.length := by omega
    have ht11 := totL_le hl11
    obtain ⟨a11, c11, hc11, hr11⟩ := hA.ends.row hl11
    refine WL_q rfl (ev_indexAddr Tryz.underlying38 sz80 rfl rfl (hA.ends.isSome (by omega)) (by omega) (by omega)) ?_
    refine WL_q rfl (ev_load one80 rfl (hc11)) ?_
    refine WL_q rfl (ev_assign rfl) ?_
    refine WL_nil ?_
    refine thenE_n ?_
    refine W_region ?_
    refine WL_q rfl (ev_move rfl) ?_
    refine WL_q rfl (ev_move rfl) ?_
    refine WL_q rfl (ev_len Tryz.underlying80 rfl) ?_
    refine WL_m rfl (ev_lit1 Tryz.underlying24 el3 (by decide) (by decide) rfl rfl) ?_
    rintro _ w16 ⟨rfl, hN16⟩
    have hz16 := hN16.size
    replace hE := hE.trans hN16.ext
    replace hRL0 := hRL0.trans hN16.ext
    replace hA := hA.ext hN16.ext
    replace hB1 := hB1.ext hN16.ext
    replace hO := hO.ext hN16.ext
    replace hr11 := hr11.ext hN16.ext
    have hB16 := hN16.blk
    refine WL_m rfl (ev_appendT Tryz.underlying24 el3 rfl (by decide) rfl rfl hO (SAt.of_blk (cs := [_]) (ds := []) hB16) rfl (by simp [Value.oneCell']) (by omega) (by unfold maxLen; omega) (by omega)) ?_
    rintro _ w17 ⟨a17, c17, rfl, hO17, hK17, hQ17⟩
    have hz17 := hK17.size
    replace hE := hE.rg hK17 (by omega)
    replace hRL0 := hRL0.rg hK17 (by omega)
    replace hA := hA.rg hK17 (by omega)
    replace hB1 := hB1.rg hK17 (by omega)
    replace hr11 := hr11.rg hK17 (by omega)
    replace hB16 := hB16.rg hK17 (by omega)
    replace hO := hO17
    replace hO := ownt_snocI hO
    refine WL_q rfl (ev_assign rfl) ?_
    refine WL_nil ?_
    refine blockE_n ?_
    refine thenE_n ?_
    refine W_region ?_
    refine WL_q rfl (ev_add rfl rfl (by omega)) ?_
    refine WL_q rfl (ev_move rfl) ?_
    refine WL_nil ?_
    refine thenE_n ?_
    exact ⟨(i + 1, a17, c17), (Subs.c rfl (Subs.c rfl Subs.n)), (Subs.c rfl (Subs.c (lkI rfl (by omega)) Subs.n)), ⟨hRL0, ⟨by omega, (ownt_take hO (by omega) (by simp [degs])).up (Nat.le_refl _) (by omega)⟩⟩, by first | omega | (dsimp only; omega)⟩
  · have hp10 := of_decide_eq_false hg10
    refine W_exit ?_
    refine thenE_x ?_
    refine thenE_x ?_
    refine blockE_hit ?_
    refine thenE_n ?_
    refine W_seq ?_
    refine W_region ?_
    refine WL_q rfl (ev_move rfl) ?_
    refine WL_q rfl (ev_assign rfl) ?_
    refine WL_nil ?_
    refine thenE_n ?_
    refine W_ret ?_
    refine ret1 rfl rfl ?_
    have hi9 : i = (degs A).length := by omega
    subst hi9
    exact ⟨_, _, rfl, by rw [List.take_length] at hO; exact hO.1.mono (by omega), hE⟩

set_option maxRecDepth 100000 in
theorem maOn_spec {lom him : Nat} (nm : MA) (m : Mach) {loA hiA : Nat} (nA : NA) (A : Net) (w : World) (hm : IsMach lom him w nm m) (hhim : him ≤ w.heap.size) (hnm : totM m ≤ 1048576) (hA : IsNet loA hiA w nA A) (hhiA : hiA ≤ w.heap.size) (hnA : totN A ≤ 1048576) (hkm : MOk m) (hkA : NOk A) :
    Fn Tryz.prog 40 #[machV nm m, netV nA A] w (fun v w' => ∃ b, v = VB b ∧ (b = true ↔ OnM m A) ∧ Ext w w') := by
  have hmm : totL m.start + totL m.send + totC m.clauses + m.output.length ≤ 1048576 := hnm
  have hqA := totL_len A.ends
  have hmA : totL A.ends + A.ids.length + A.inputs.length ≤ 1048576 := hnA
  have hsl := hkm.startLen
  have hdg := hkm.deg
  have h0s : 0 < m.start.length := by omega
  have hhd := headD_at h0s
  have hin := hkA.inLen
  have hnd := hkA.nodes
  have hdl := degs_len A
  have hE := Ext.refl w
  refine Fn_of Tryz.func40 rfl rfl (by kernel_rfl) rfl ?_
  refine W_seq ?_
  refine W_region ?_
  refine WL_m rfl (ev_box rfl) ?_
  rintro _ w2 ⟨rfl, hN2⟩
  have hz2 := hN2.size
  replace hE := hE.trans hN2.ext
  replace hm := hm.ext hN2.ext
  replace hA := hA.ext hN2.ext
  have hB2 : Blk w2 _ _ [_, _, _, _, _, _, _] := hN2.blk
  refine WL_m rfl (ev_box rfl) ?_
  rintro _ w3 ⟨rfl, hN3⟩
  have hz3 := hN3.size
  replace hE := hE.trans hN3.ext
  replace hm := hm.ext hN3.ext
  replace hA := hA.ext hN3.ext
  replace hB2 := hB2.ext hN3.ext
  have hB3 : Blk w3 _ _ [_, _, _] := hN3.blk
  refine WL_q rfl (ev_assign rfl) ?_
  refine WL_nil ?_
  refine thenE_n ?_
  refine W_seq ?_
  refine W_drawE [(0, true), (2, true), (3, true), (1, false), (4, false), (5, true), (6, true), (7, true), (8, true), (9, true), (10, true), (11, true), (12, true), (13, true), (14, false), (15, true), (16, true)] mixed (by kernel_rfl) rfl (by kernel_rfl) ?_
  intro wd1 hEd1 hzd1
  replace hE := hE.trans hEd1
  replace hm := hm.ext hEd1
  replace hA := hA.ext hEd1
  replace hB2 := hB2.ext hEd1
  replace hB3 := hB3.ext hEd1
  have hDd1 := Ext.refl wd1
  refine PW_q rfl rfl (fun wq hq => ev_loads st40 sz40 rfl (cellsB (hq.blk hB3)) rfl) ?_
  refine PW_q rfl rfl (fun wq hq => ev_fieldAddr fo36_0 rfl) ?_
  refine PW_q rfl rfl (fun wq hq => ev_load one3 rfl (hq.cell (hB2.cell rfl))) ?_
  refine PW_m rfl rfl (ev_call rfl (neDegrees_spec _ A _ hA (by omega) (by omega))) ?_
  rintro _ w6 ⟨a6, c6, rfl, hO6, hE6⟩
  have hz6 := hE6.size
  replace hE := hE.trans hE6
  replace hDd1 := hDd1.trans hE6
  refine ⟨hDd1, ?_⟩
  have hm_4 := hm.ext hDd1
  have hA_4 := hA.ext hDd1
  have hB2_4 := hB2.ext hDd1
  have hB3_4 := hB3.ext hDd1
  refine PW_m rfl rfl (ev_call rfl (l1All_spec _ _ (degs A) _ _ _ (own_i hO6) (by omega))) ?_
  rintro _ w9 ⟨rfl, hE9⟩
  have hz9 := hE9.size
  replace hE := hE.trans hE9
  replace hDd1 := hDd1.trans hE9
  replace hO6 := hO6.ext hE9
  refine ⟨hDd1, ?_⟩
  refine PW_q rfl rfl (fun wq hq => ev_move rfl) ?_
  refine PW_splitv (t := 10) rfl (fun hg9 => ?_) (fun hg9 => ?_)
  · refine PW_qg rfl rfl rfl hg9 rfl (fun wq hq => ev_fieldAddr fo40_2 rfl) ?_
    refine PW_qg rfl rfl rfl hg9 rfl (fun wq hq => ev_load one24 rfl (hq.cell (hB3.cell rfl))) ?_
    refine PW_qg rfl rfl rfl hg9 rfl (fun wq hq => ev_fieldAddr fo36_3 rfl) ?_
    refine PW_qg rfl rfl rfl hg9 rfl (fun wq hq => ev_load one22 rfl (hq.cell (hB2.cell rfl))) ?_
    have hl15 : 0 < m.start.length := by omega
    have ht15 := totL_le hl15
    obtain ⟨a15, c15, hc15, hr15⟩ := hm.start.row hl15
    refine PW_qg rfl rfl rfl hg9 rfl (fun wq hq => ev_indexAddr Tryz.underlying22 sz24 rfl rfl (hm.start.isSome (by omega)) (by omega) (by omega)) ?_
    refine PW_qg rfl rfl rfl hg9 rfl (fun wq hq => ev_load one24 rfl (hq.cell (hc15))) ?_
    refine PW_qg rfl rfl rfl hg9 rfl (fun wq hq => ev_len Tryz.underlying24 rfl) ?_
    refine PW_qg rfl rfl rfl hg9 rfl (fun wq hq => ev_sub rfl rfl (by omega)) ?_
    have hm_14 := hm.ext hDd1
    have hA_14 := hA.ext hDd1
    have hB2_14 := hB2.ext hDd1
    have hB3_14 := hB3.ext hDd1
    have hr15_14 := hr15.ext hDd1
    refine PW_mg rfl rfl rfl hg9 rfl (ev_call rfl (l1All_spec _ _ A.inputs _ _ _ hA_14.inputs (by omega))) ?_
    rintro _ w19 ⟨rfl, hE19⟩
    have hz19 := hE19.size
    replace hE := hE.trans hE19
    replace hDd1 := hDd1.trans hE19
    replace hO6 := hO6.ext hE19
    refine ⟨hDd1, ?_⟩
    refine PW_q rfl rfl (fun wq hq => ev_pick_t rfl hg9 rfl) ?_
    refine PW_q rfl rfl (fun wq hq => ev_assign rfl) ?_
    replace hm := hm.ext hDd1
    replace hA := hA.ext hDd1
    replace hB2 := hB2.ext hDd1
    replace hB3 := hB3.ext hDd1
    replace hr15 := hr15.ext hDd1
    refine PW_nil ?_
    refine thenE_n ?_
    refine W_ret ?_
    refine ret1 rfl rfl ?_
    first | (refine ⟨_, rfl, ?_, hE⟩; rw [← onM_iff hkA, hhd]; exact ⟨fun h => ⟨hg9, h⟩, fun h => h.2⟩) | (exact ⟨_, rfl, ffI (fun h => (by have h9 := ((onM_iff hkA).2 h).1; rw [hg9] at h9; cases h9)), hE⟩)
  · refine PW_no rfl rfl rfl hg9 rfl ?_
    refine PW_no rfl rfl rfl hg9 rfl ?_
    refine PW_no rfl rfl rfl hg9 rfl ?_
    refine PW_no rfl rfl rfl hg9 rfl ?_
    refine PW_no rfl rfl rfl hg9 rfl ?_
    refine PW_no rfl rfl rfl hg9 rfl ?_
    refine PW_no rfl rfl rfl hg9 rfl ?_
    refine PW_no rfl rfl rfl hg9 rfl ?_
    refine PW_no rfl rfl rfl hg9 rfl ?_
    refine PW_q rfl rfl (fun wq hq => ev_pick_f rfl hg9 rfl) ?_
    refine PW_q rfl rfl (fun wq hq => ev_assign rfl) ?_
    replace hm := hm.ext hDd1
    replace hA := hA.ext hDd1
    replace hB2 := hB2.ext hDd1
    replace hB3 := hB3.ext hDd1
    refine PW_nil ?_
    refine thenE_n ?_
    refine W_ret ?_
    refine ret1 rfl rfl ?_
    first | (refine ⟨_, rfl, ?_, hE⟩; rw [← onM_iff hkA, hhd]; exact ⟨fun h => ⟨hg9, h⟩, fun h => h.2⟩) | (exact ⟨_, rfl, ffI (fun h => (by have h9 := ((onM_iff hkA).2 h).1; rw [hg9] at h9; cases h9)), hE⟩)

set_option maxRecDepth 100000 in
theorem maAsked_spec {lom him : Nat} (nm : MA) (m : Mach) {loA hiA : Nat} (nA : NA) (A : Net) (w : World) (hm : IsMach lom him w nm m) (hhim : him ≤ w.heap.size) (hnm : totM m ≤ 1048576) (hA : IsNet loA hiA w nA A) (hhiA : hiA ≤ w.heap.size) (hnA : totN A ≤ 1048576) :
    Fn Tryz.prog 21 #[machV nm m, netV nA A] w (fun v w' => ∃ b, v = VB b ∧ (b = true ↔ Fits m A) ∧ Ext w w') := by
  have hmm : totL m.start + totL m.send + totC m.clauses + m.output.length ≤ 1048576 := hnm
  have hqA := totL_len A.ends
  have hmA : totL A.ends + A.ids.length + A.inputs.length ≤ 1048576 := hnA
  have hE := Ext.refl w
  refine Fn_of Tryz.func21 rfl rfl (by kernel_rfl) rfl ?_
  refine W_seq ?_
  refine W_region ?_
  refine WL_m rfl (ev_box rfl) ?_
  rintro _ w2 ⟨rfl, hN2⟩
  have hz2 := hN2.size
  replace hE := hE.trans hN2.ext
  replace hm := hm.ext hN2.ext
  replace hA := hA.ext hN2.ext
  have hB2 : Blk w2 _ _ [_, _, _, _, _, _, _] := hN2.blk
  refine WL_m rfl (ev_box rfl) ?_
  rintro _ w3 ⟨rfl, hN3⟩
  have hz3 := hN3.size
  replace hE := hE.trans hN3.ext
  replace hm := hm.ext hN3.ext
  replace hA := hA.ext hN3.ext
  replace hB2 := hB2.ext hN3.ext
  have hB3 : Blk w3 _ _ [_, _, _] := hN3.blk
  refine WL_q rfl (ev_assign rfl) ?_
  refine WL_nil ?_
  refine thenE_n ?_
  refine W_seq ?_
  refine W_region ?_
  refine WL_q rfl (ev_loads st36 sz36 rfl (cellsB hB2) rfl) ?_
  refine WL_m rfl (ev_call rfl (maGood_spec _ m _ hm (by omega) (by omega))) ?_
  rintro _ w6 ⟨b6, rfl, hb6, hE6⟩
  have hz6 := hE6.size
  replace hE := hE.trans hE6
  replace hm := hm.ext hE6
  replace hA := hA.ext hE6
  replace hB2 := hB2.ext hE6
  replace hB3 := hB3.ext hE6
  refine WL_q rfl (ev_move rfl) ?_
  refine WL_splitv (t := 7) rfl (fun hg6 => ?_) (fun hg6 => ?_)
  · have hp6 := hb6.1 hg6
    refine WL_qg rfl rfl hg6 rfl (ev_loads st40 sz40 rfl (cellsB hB3) rfl) ?_
    refine WL_mg rfl rfl hg6 rfl (ev_call rfl (neGood_spec _ A _ hA (by omega) (by omega))) ?_
    rintro _ w9 ⟨b9, rfl, hb9, hE9⟩
    have hz9 := hE9.size
    replace hE := hE.trans hE9
    replace hm := hm.ext hE9
    replace hA := hA.ext hE9
    replace hB2 := hB2.ext hE9
    replace hB3 := hB3.ext hE9
    refine WL_q rfl (ev_pick_t rfl hg6 rfl) ?_
    refine WL_q rfl (ev_move rfl) ?_
    refine WL_splitv (t := 11) rfl (fun hg9 => ?_) (fun hg9 => ?_)
    · have hp9 := hb9.1 hg9
      refine WL_qg rfl rfl hg9 rfl (ev_loads st36 sz36 rfl (cellsB hB2) rfl) ?_
      refine WL_qg rfl rfl hg9 rfl (ev_loads st40 sz40 rfl (cellsB hB3) rfl) ?_
      refine WL_mg rfl rfl hg9 rfl (ev_call rfl (maOn_spec _ m _ A _ hm (by omega) (by omega) hA (by omega) (by omega) (by assumption) (by assumption))) ?_
      rintro _ w14 ⟨b14, rfl, hb14, hE14⟩
      have hz14 := hE14.size
      replace hE := hE.trans hE14
      replace hm := hm.ext hE14
      replace hA := hA.ext hE14
      replace hB2 := hB2.ext hE14
      replace hB3 := hB3.ext hE14
      refine WL_q rfl (ev_pick_t rfl hg9 rfl) ?_
      refine WL_q rfl (ev_assign rfl) ?_
      refine WL_nil ?_
      refine thenE_n ?_
      refine W_ret ?_
      refine ret1 rfl rfl ?_
      first | (exact ⟨_, rfl, ⟨fun h => ⟨hp6, hp9, hb14.1 h⟩, fun h => hb14.2 h.2.2⟩, hE⟩) | (exact ⟨_, rfl, ffI fun h => hp6 h.1, hE⟩) | (exact ⟨_, rfl, ffI fun h => hp9 h.2.1, hE⟩)
    · have hp9 := ttN hb9 hg9
      refine WL_no rfl rfl hg9 rfl ?_
      refine WL_no rfl rfl hg9 rfl ?_
      refine WL_no rfl rfl hg9 rfl ?_
      refine WL_q rfl (ev_pick_f rfl hg9 rfl) ?_
      refine WL_q rfl (ev_assign rfl) ?_
      refine WL_nil ?_
      refine thenE_n ?_
      refine W_ret ?_
      refine ret1 rfl rfl ?_
      first | (exact ⟨_, rfl, ⟨fun h => ⟨hp6, hp9, hb14.1 h⟩, fun h => hb14.2 h.2.2⟩, hE⟩) | (exact ⟨_, rfl, ffI fun h => hp6 h.1, hE⟩) | (exact ⟨_, rfl, ffI fun h => hp9 h.2.1, hE⟩)
  · have hp6 := ttN hb6 hg6
    refine WL_no rfl rfl hg6 rfl ?_
    refine WL_no rfl rfl hg6 rfl ?_
    refine WL_q rfl (ev_pick_f rfl hg6 rfl) ?_
    refine WL_q rfl (ev_move rfl) ?_
    refine WL_no rfl rfl rfl rfl ?_
    refine WL_no rfl rfl rfl rfl ?_
    refine WL_no rfl rfl rfl rfl ?_
    refine WL_q rfl (ev_pick_f rfl rfl rfl) ?_
    refine WL_q rfl (ev_assign rfl) ?_
    refine WL_nil ?_
    refine thenE_n ?_
    refine W_ret ?_
    refine ret1 rfl rfl ?_
    first | (exact ⟨_, rfl, ⟨fun h => ⟨hp6, hp9, hb14.1 h⟩, fun h => hb14.2 h.2.2⟩, hE⟩) | (exact ⟨_, rfl, ffI fun h => hp6 h.1, hE⟩) | (exact ⟨_, rfl, ffI fun h => hp9 h.2.1, hE⟩)

set_option maxRecDepth 100000 in
theorem fits_spec {lom him : Nat} (nm : MA) (m : Mach) {loA hiA : Nat} (nA : NA) (A : Net) (w : World) (hm : IsMach lom him w nm m) (hhim : him ≤ w.heap.size) (hnm : totM m ≤ 1048576) (hA : IsNet loA hiA w nA A) (hhiA : hiA ≤ w.heap.size) (hnA : totN A ≤ 1048576) :
    Fn Tryz.prog 47 #[machV nm m, netV nA A] w (fun v w' => ∃ b, v = VB b ∧ (b = true ↔ Fits m A) ∧ Ext w w') := by
  have hmm : totL m.start + totL m.send + totC m.clauses + m.output.length ≤ 1048576 := hnm
  have hqA := totL_len A.ends
  have hmA : totL A.ends + A.ids.length + A.inputs.length ≤ 1048576 := hnA
  have hE := Ext.refl w
  refine Fn_of Tryz.func47 rfl rfl (by kernel_rfl) rfl ?_
  refine W_seq ?_
  refine W_region ?_
  refine WL_m rfl (ev_box rfl) ?_
  rintro _ w2 ⟨rfl, hN2⟩
  have hz2 := hN2.size
  replace hE := hE.trans hN2.ext
  replace hm := hm.ext hN2.ext
  replace hA := hA.ext hN2.ext
  have hB2 : Blk w2 _ _ [_, _, _, _, _, _, _] := hN2.blk
  refine WL_m rfl (ev_box rfl) ?_
  rintro _ w3 ⟨rfl, hN3⟩
  have hz3 := hN3.size
  replace hE := hE.trans hN3.ext
  replace hm := hm.ext hN3.ext
  replace hA := hA.ext hN3.ext
  replace hB2 := hB2.ext hN3.ext
  have hB3 : Blk w3 _ _ [_, _, _] := hN3.blk
  refine WL_q rfl (ev_assign rfl) ?_
  refine WL_nil ?_
  refine thenE_n ?_
  refine W_seq ?_
  refine W_region ?_
  refine WL_q rfl (ev_loads st36 sz36 rfl (cellsB hB2) rfl) ?_
  refine WL_m rfl (ev_call rfl (IsMachine_spec _ m _ hm (by omega) (by omega))) ?_
  rintro _ w6 ⟨b6, rfl, hb6, hE6⟩
  have hz6 := hE6.size
  replace hE := hE.trans hE6
  replace hm := hm.ext hE6
  replace hA := hA.ext hE6
  replace hB2 := hB2.ext hE6
  replace hB3 := hB3.ext hE6
  refine WL_q rfl (ev_move rfl) ?_
  refine WL_splitv (t := 7) rfl (fun hg6 => ?_) (fun hg6 => ?_)
  · have hp6 := hb6.1 hg6
    refine WL_qg rfl rfl hg6 rfl (ev_loads st40 sz40 rfl (cellsB hB3) rfl) ?_
    refine WL_mg rfl rfl hg6 rfl (ev_call rfl (IsNetwork_spec _ A _ hA (by omega) (by omega))) ?_
    rintro _ w9 ⟨b9, rfl, hb9, hE9⟩
    have hz9 := hE9.size
    replace hE := hE.trans hE9
    replace hm := hm.ext hE9
    replace hA := hA.ext hE9
    replace hB2 := hB2.ext hE9
    replace hB3 := hB3.ext hE9
    refine WL_q rfl (ev_pick_t rfl hg6 rfl) ?_
    refine WL_q rfl (ev_move rfl) ?_
    refine WL_splitv (t := 11) rfl (fun hg9 => ?_) (fun hg9 => ?_)
    · have hp9 := hb9.1 hg9
      refine WL_qg rfl rfl hg9 rfl (ev_loads st36 sz36 rfl (cellsB hB2) rfl) ?_
      refine WL_qg rfl rfl hg9 rfl (ev_loads st40 sz40 rfl (cellsB hB3) rfl) ?_
      refine WL_mg rfl rfl hg9 rfl (ev_call rfl (runsOn_spec _ m _ A _ hm (by omega) (by omega) hA (by omega) (by omega) (by assumption) (by assumption))) ?_
      rintro _ w14 ⟨b14, rfl, hb14, hE14⟩
      have hz14 := hE14.size
      replace hE := hE.trans hE14
      replace hm := hm.ext hE14
      replace hA := hA.ext hE14
      replace hB2 := hB2.ext hE14
      replace hB3 := hB3.ext hE14
      refine WL_q rfl (ev_pick_t rfl hg9 rfl) ?_
      refine WL_q rfl (ev_assign rfl) ?_
      refine WL_nil ?_
      refine thenE_n ?_
      refine W_ret ?_
      refine ret1 rfl rfl ?_
      first | (exact ⟨_, rfl, ⟨fun h => ⟨hp6, hp9, hb14.1 h⟩, fun h => hb14.2 h.2.2⟩, hE⟩) | (exact ⟨_, rfl, ffI fun h => hp6 h.1, hE⟩) | (exact ⟨_, rfl, ffI fun h => hp9 h.2.1, hE⟩)
    · have hp9 := ttN hb9 hg9
      refine WL_no rfl rfl hg9 rfl ?_
      refine WL_no rfl rfl hg9 rfl ?_
      refine WL_no rfl rfl hg9 rfl ?_
      refine WL_q rfl (ev_pick_f rfl hg9 rfl) ?_
      refine WL_q rfl (ev_assign rfl) ?_
      refine WL_nil ?_
      refine thenE_n ?_
      refine W_ret ?_
      refine ret1 rfl rfl ?_
      first | (exact ⟨_, rfl, ⟨fun h => ⟨hp6, hp9, hb14.1 h⟩, fun h => hb14.2 h.2.2⟩, hE⟩) | (exact ⟨_, rfl, ffI fun h => hp6 h.1, hE⟩) | (exact ⟨_, rfl, ffI fun h => hp9 h.2.1, hE⟩)
  · have hp6 := ttN hb6 hg6
    refine WL_no rfl rfl hg6 rfl ?_
    refine WL_no rfl rfl hg6 rfl ?_
    refine WL_q rfl (ev_pick_f rfl hg6 rfl) ?_
    refine WL_q rfl (ev_move rfl) ?_
    refine WL_no rfl rfl rfl rfl ?_
    refine WL_no rfl rfl rfl rfl ?_
    refine WL_no rfl rfl rfl rfl ?_
    refine WL_q rfl (ev_pick_f rfl rfl rfl) ?_
    refine WL_q rfl (ev_assign rfl) ?_
    refine WL_nil ?_
    refine thenE_n ?_
    refine W_ret ?_
    refine ret1 rfl rfl ?_
    first | (exact ⟨_, rfl, ⟨fun h => ⟨hp6, hp9, hb14.1 h⟩, fun h => hb14.2 h.2.2⟩, hE⟩) | (exact ⟨_, rfl, ffI fun h => hp6 h.1, hE⟩) | (exact ⟨_, rfl, ffI fun h => hp9 h.2.1, hE⟩)

def st0 (m : Mach) (A : Net) (v : Nat) : Int := (m.start.getD (A.ends.getD v []).length []).getD (A.inputs.getD v 0).toNat 0
/-- The states at the start. -/
def stS (m : Mach) (A : Net) : List Int := (List.range A.ends.length).map (st0 m A)
theorem stS_len (m : Mach) (A : Net) : (stS m A).length = A.ends.length := by simp [stS]
theorem stS_at {m : Mach} {A : Net} {v : Nat} (hv : v < A.ends.length) {h1 : A.ends[v].length < m.start.length} {h2 : v < A.inputs.length} {h3 : A.inputs[v].toNat < (m.start[A.ends[v].length]).length} {h : v < (stS m A).length} : (stS m A)[v] = (m.start[A.ends[v].length])[A.inputs[v].toNat] := by
  simp only [stS, List.getElem_map, List.getElem_range, st0]
  rw [getD_eq hv, getD_eq h2, getD_eq h1, getD_eq h3]
/-- A state for each node. -/
def SOk (m : Mach) (A : Net) (S : List Int) : Prop := (S.length : Int) = A.ends.length ∧ allR S 0 (m.states - 1) = true
theorem Fits.inp {m : Mach} {A : Net} (h : Fits m A) {v : Nat} (hv : v < A.ends.length) {h2 : v < A.inputs.length} {h1 : A.ends[v].length < m.start.length} : 0 ≤ A.inputs[v] ∧ A.inputs[v].toNat < (m.start[A.ends[v].length]).length := by
  have h3 := allR_true.1 h.2.1.inputs _ (List.getElem_mem h2)
  have h4 := h.2.2.2 v h2
  have h5 := (h.1.start _ (List.getElem_mem h1)).1
  omega
theorem Fits.degAt {m : Mach} {A : Net} (h : Fits m A) {v : Nat} (hv : v < A.ends.length) : A.ends[v].length < m.start.length := by
  have h1 := h.2.2.1 v hv
  have h2 := h.1.startLen
  omega
theorem stS_ok {m : Mach} {A : Net} (h : Fits m A) : SOk m A (stS m A) := by
  refine ⟨by rw [stS_len], allR_true.2 fun x hx => ?_⟩
  obtain ⟨v, hv, rfl⟩ := List.mem_iff_getElem.1 hx
  rw [stS_len] at hv
  have hin := h.2.1.inLen
  have h1 := h.degAt hv
  have h3 := h.inp hv (h2 := by omega) (h1 := h1)
  rw [stS_at hv (h1 := h1) (h2 := by omega) (h3 := h3.2)]
  exact allR_true.1 (h.1.start _ (List.getElem_mem h1)).2 _ (List.getElem_mem h3.2)

set_option maxRecDepth 100000 in
theorem maStart_spec {lom him : Nat} (nm : MA) (m : Mach) {loA hiA : Nat} (nA : NA) (A : Net) (w : World) (hm : IsMach lom him w nm m) (hhim : him ≤ w.heap.size) (hnm : totM m ≤ 1048576) (hA : IsNet loA hiA w nA A) (hhiA : hiA ≤ w.heap.size) (hnA : totN A ≤ 1048576) (hf : Fits m A) :
    Fn Tryz.prog 42 #[machV nm m, netV nA A] w (fun r w' => ∃ a' c', r = .slice a' (stS m A).length c' ∧ Own w.heap.size w' 3 1 a' (stS m A).length c' ((stS m A).map VI) ∧ Ext w w') := by
  have hmm : totL m.start + totL m.send + totC m.clauses + m.output.length ≤ 1048576 := hnm
  have hqA := totL_len A.ends
  have hmA : totL A.ends + A.ids.length + A.inputs.length ≤ 1048576 := hnA
  have hin := hf.2.1.inLen
  have hnd := hf.2.1.nodes
  have hsl := stS_len m A
  have hE := Ext.refl w
  refine Fn_of Tryz.func42 rfl rfl (by kernel_rfl) rfl ?_
  refine W_seq ?_
  refine W_region ?_
  refine WL_m rfl (ev_box rfl) ?_
  rintro _ w2 ⟨rfl, hN2⟩
  have hz2 := hN2.size
  replace hE := hE.trans hN2.ext
  replace hm := hm.ext hN2.ext
  replace hA := hA.ext hN2.ext
  have hB2 : Blk w2 _ _ [_, _, _, _, _, _, _] := hN2.blk
  refine WL_m rfl (ev_box rfl) ?_
  rintro _ w3 ⟨rfl, hN3⟩
  have hz3 := hN3.size
  replace hE := hE.trans hN3.ext
  replace hm := hm.ext hN3.ext
  replace hA := hA.ext hN3.ext
  replace hB2 := hB2.ext hN3.ext
  have hB3 : Blk w3 _ _ [_, _, _] := hN3.blk
  refine WL_q rfl (ev_assign rfl) ?_
  refine WL_nil ?_
  refine thenE_n ?_
  refine W_seq ?_
  refine W_region ?_
  refine WL_q rfl (ev_assign rfl) ?_
  refine WL_nil ?_
  refine thenE_n ?_
  refine W_seq ?_
  refine W_seq ?_
  refine W_region ?_
  refine WL_q rfl (ev_fieldAddr fo40_0 rfl) ?_
  refine WL_q rfl (ev_load one38 rfl (hB3.cell rfl)) ?_
  refine WL_q rfl (ev_len Tryz.underlying38 rfl) ?_
  refine WL_q rfl (ev_move rfl) ?_
  refine WL_nil ?_
  refine thenE_n ?_
  refine W_block ?_
  refine W_loopC (G := Nat × Option Addr × Nat) [(2, _), (3, _), (9, _), (10, _)] ((Subs.c rfl (Subs.c rfl (Subs.c rfl (Subs.c rfl Subs.n))))) (fun ⟨i, a, c⟩ => [(5, .slice a i c), (11, VI (i : Int))]) (fun ⟨i, a, c⟩ w' => Ext w3 w' ∧ i ≤ A.ends.length ∧ OwnH w3.heap.size w'.heap.size 0 0 w' 3 1 a i c (((stS m A).take i).map VI)) (fun g => A.ends.length - g.1) (0, none, 0) ((Subs.c rfl (Subs.c (lkI rfl (by omega)) Subs.n))) (⟨Ext.refl _, ⟨by omega, OwnH.nil⟩⟩) ?_
  rintro ⟨i, a, c⟩ wL0 ⟨hRL0, hi', hO⟩
  have hzL0 := hRL0.size
  replace hE := hE.trans hRL0
  replace hm := hm.ext hRL0
  replace hA := hA.ext hRL0
  replace hB2 := hB2.ext hRL0
  replace hB3 := hB3.ext hRL0
  refine W_seq ?_
  refine W_region ?_
  refine WL_q rfl (ev_lss rfl rfl) ?_
  refine WL_nil ?_
  refine thenE_n ?_
  refine W_seq ?_
  refine W_cond rfl (fun hg12 => ?_) (fun hg12 => ?_)
  · have hp12 := of_decide_eq_true hg12
    refine W_skip ?_
    refine thenE_n ?_
    refine W_seq ?_
    refine W_block ?_
    refine W_seq ?_
    refine W_region ?_
    refine WL_q rfl (ev_move rfl) ?_
    have hlt : i < A.ends.length := by omega
    have hdl := hf.degAt hlt
    have hii := hf.inp hlt (h2 := by omega) (h1 := hdl)
    have hi1 := hii.1
    have hi2 := hii.2
    have hl14 : i < A.ends.length := by omega
    have ht14 := totL_le hl14
    obtain ⟨a14, c14, hc14, hr14⟩ := hA.ends.row hl14
    refine WL_q rfl (ev_indexAddr Tryz.underlying38 sz80 rfl rfl (hA.ends.isSome (by omega)) (by omega) (by omega)) ?_
    refine WL_q rfl (ev_load one80 rfl (hc14)) ?_
    refine WL_q rfl (ev_assign rfl) ?_
    refine WL_q rfl (ev_assign rfl) ?_
    refine WL_nil ?_
    refine thenE_n ?_
    refine W_drawR w3.heap.size wL0.heap.size 0 0 (fun w' => True) [(0, true), (1, true), (2, true), (3, true), (4, true), (5, true), (6, true), (7, true), (8, true), (9, true), (10, true), (11, true), (12, true), (13, true), (14, false), (15, false), (16, true)] mixed (by kernel_rfl) rfl (by kernel_rfl) (fun _ _ => trivial) ?_
    intro wd5 hEd5 hzd5
    replace hE := hE.trans hEd5
    replace hRL0 := hRL0.trans hEd5
    replace hm := hm.ext hEd5
    replace hA := hA.ext hEd5
    replace hB2 := hB2.ext hEd5
    replace hB3 := hB3.ext hEd5
    replace hO := hO.ext hEd5
    replace hr14 := hr14.ext hEd5
    have hDd5 := (Rg.refl : Rg w3.heap.size wL0.heap.size 0 0 wd5 wd5)
    refine PW_q rfl rfl (fun wq hq => ev_move rfl) ?_
    refine PW_q rfl rfl (fun wq hq => ev_fieldAddr fo36_3 rfl) ?_
    refine PW_q rfl rfl (fun wq hq => ev_load one22 rfl ((hB2.rg hq.1 (by omega)).cell rfl)) ?_
    refine PW_q rfl rfl (fun wq hq => ev_move rfl) ?_
    refine PW_q rfl rfl (fun wq hq => ev_len Tryz.underlying80 rfl) ?_
    have hl21 : A.ends[i].length < m.start.length := by omega
    have ht21 := totL_le hl21
    obtain ⟨a21, c21, hc21, hr21⟩ := hm.start.row hl21
    refine PW_q rfl rfl (fun wq hq => ev_indexAddr Tryz.underlying22 sz24 rfl rfl (hm.start.isSome (by omega)) (by omega) (by omega)) ?_
    refine PW_q rfl rfl (fun wq hq => ev_load one24 rfl (hq.1.cell' hc21 (by have := hm.start.rng (Nat.lt_of_le_of_lt (Nat.zero_le _) hl21); omega))) ?_
    refine PW_q rfl rfl (fun wq hq => ev_fieldAddr fo40_2 rfl) ?_
    refine PW_q rfl rfl (fun wq hq => ev_load one24 rfl ((hB3.rg hq.1 (by omega)).cell rfl)) ?_
    refine PW_q rfl rfl (fun wq hq => ev_move rfl) ?_
    refine PW_q rfl rfl (fun wq hq => ev_indexAddr Tryz.underlying24 sz3 rfl rfl (hA.inputs.isSome (by omega)) (by omega) (by omega)) ?_
    refine PW_q rfl rfl (fun wq hq => ev_load one3 rfl ((hA.inputs.rg hq.1 (by omega)).cellJ (i := i) (j := Int.toNat ((i : Nat) : Int)) (by omega) (by omega))) ?_
    refine PW_q rfl rfl (fun wq hq => ev_indexAddr Tryz.underlying24 sz3 rfl rfl (hr21.isSome (by omega)) (by omega) (by omega)) ?_
    refine PW_q rfl rfl (fun wq hq => ev_load one3 rfl ((hr21.rg hq.1 (by omega)).cellJ (i := A.inputs[i].toNat) (j := A.inputs[i].toNat) (by omega) (by omega))) ?_
    refine PW_m rfl rfl (ev_lit1 Tryz.underlying24 el3 (by decide) (by decide) rfl rfl) ?_
    rintro _ w30 ⟨rfl, hN30⟩
    have hz30 := hN30.size
    replace hE := hE.trans hN30.ext
    replace hRL0 := hRL0.trans hN30.ext
    replace hDd5 := hDd5.trans hN30.ext
    replace hO := hO.ext hN30.ext
    have hB30 := hN30.blk
    refine ⟨⟨hDd5, trivial⟩, ?_⟩
    have hm_15 := hm.rg hDd5 (by omega)
    have hA_15 := hA.rg hDd5 (by omega)
    have hB2_15 := hB2.rg hDd5 (by omega)
    have hB3_15 := hB3.rg hDd5 (by omega)
    have hr14_15 := hr14.rg hDd5 (by omega)
    have hr21_15 := hr21.rg hDd5 (by omega)
    refine PW_m rfl rfl (ev_appendT Tryz.underlying24 el3 rfl (by decide) rfl rfl hO (SAt.of_blk (cs := [_]) (ds := []) hB30) rfl (by simp [Value.oneCell']) (by omega) (by unfold maxLen; omega) (by omega)) ?_
    rintro _ w31 ⟨a31, c31, rfl, hO31, hK31, hQ31⟩
    have hz31 := hK31.size
    replace hE := hE.rg hK31 (by omega)
    replace hRL0 := hRL0.rg hK31 (by omega)
    replace hDd5 := hDd5.rg hK31 (by omega)
    replace hB30 := hB30.rg hK31 (by omega)
    replace hO := hO31
    replace hO := ownt_snocI hO
    refine ⟨⟨hDd5, trivial⟩, ?_⟩
    refine PW_q rfl rfl (fun wq hq => ev_assign rfl) ?_
    replace hm := hm.rg hDd5 (by omega)
    replace hA := hA.rg hDd5 (by omega)
    replace hB2 := hB2.rg hDd5 (by omega)
    replace hB3 := hB3.rg hDd5 (by omega)
    replace hr14 := hr14.rg hDd5 (by omega)
    replace hr21 := hr21.rg hDd5 (by omega)
    refine PW_nil ?_
    refine blockE_n ?_
    refine thenE_n ?_
    refine W_region ?_
    refine WL_q rfl (ev_add rfl rfl (by omega)) ?_
    refine WL_q rfl (ev_move rfl) ?_
    refine WL_nil ?_
    refine thenE_n ?_
    exact ⟨(i + 1, a31, c31), (Subs.c rfl (Subs.c rfl (Subs.c rfl (Subs.c rfl Subs.n)))), (Subs.c rfl (Subs.c (lkI rfl (by omega)) Subs.n)), ⟨hRL0, ⟨by omega, (ownt_take hO (by omega) (stS_at hlt (h1 := hdl) (h2 := by omega) (h3 := hii.2))).up (Nat.le_refl _) (by omega)⟩⟩, by first | omega | (dsimp only; omega)⟩
  · have hp12 := of_decide_eq_false hg12
    refine W_exit ?_
    refine thenE_x ?_
    refine thenE_x ?_
    refine blockE_hit ?_
    refine thenE_n ?_
    refine W_seq ?_
    refine W_region ?_
    refine WL_q rfl (ev_move rfl) ?_
    refine WL_q rfl (ev_assign rfl) ?_
    refine WL_nil ?_
    refine thenE_n ?_
    refine W_ret ?_
    refine ret1 rfl rfl ?_
    have hi9 : i = (stS m A).length := by omega
    subst hi9
    exact ⟨_, _, rfl, by rw [List.take_length] at hO; exact hO.1.mono (by omega), hE⟩

set_option maxRecDepth 100000 in
theorem startStates_spec {lom him : Nat} (nm : MA) (m : Mach) {loA hiA : Nat} (nA : NA) (A : Net) (w : World) (hm : IsMach lom him w nm m) (hhim : him ≤ w.heap.size) (hnm : totM m ≤ 1048576) (hA : IsNet loA hiA w nA A) (hhiA : hiA ≤ w.heap.size) (hnA : totN A ≤ 1048576) (hf : Fits m A) :
    Fn Tryz.prog 49 #[machV nm m, netV nA A] w (fun r w' => ∃ a' c', r = .slice a' (stS m A).length c' ∧ Own w.heap.size w' 3 1 a' (stS m A).length c' ((stS m A).map VI) ∧ Ext w w') := by
  have hmm : totL m.start + totL m.send + totC m.clauses + m.output.length ≤ 1048576 := hnm
  have hqA := totL_len A.ends
  have hmA : totL A.ends + A.ids.length + A.inputs.length ≤ 1048576 := hnA
  have hin := hf.2.1.inLen
  have hnd := hf.2.1.nodes
  have hsl := stS_len m A
  have hE := Ext.refl w
  refine Fn_of Tryz.func49 rfl rfl (by kernel_rfl) rfl ?_
  refine W_seq ?_
  refine W_region ?_
  refine WL_m rfl (ev_box rfl) ?_
  rintro _ w2 ⟨rfl, hN2⟩
  have hz2 := hN2.size
  replace hE := hE.trans hN2.ext
  replace hm := hm.ext hN2.ext
  replace hA := hA.ext hN2.ext
  have hB2 : Blk w2 _ _ [_, _, _, _, _, _, _] := hN2.blk
  refine WL_m rfl (ev_box rfl) ?_
  rintro _ w3 ⟨rfl, hN3⟩
  have hz3 := hN3.size
  replace hE := hE.trans hN3.ext
  replace hm := hm.ext hN3.ext
  replace hA := hA.ext hN3.ext
  replace hB2 := hB2.ext hN3.ext
  have hB3 : Blk w3 _ _ [_, _, _] := hN3.blk
  refine WL_q rfl (ev_assign rfl) ?_
  refine WL_nil ?_
  refine thenE_n ?_
  refine W_seq ?_
  refine W_region ?_
  refine WL_q rfl (ev_assign rfl) ?_
  refine WL_nil ?_
  refine thenE_n ?_
  refine W_seq ?_
  refine W_seq ?_
  refine W_region ?_
  refine WL_q rfl (ev_fieldAddr fo40_0 rfl) ?_
  refine WL_q rfl (ev_load one38 rfl (hB3.cell rfl)) ?_
  refine WL_q rfl (ev_len Tryz.underlying38 rfl) ?_
  refine WL_q rfl (ev_move rfl) ?_
  refine WL_nil ?_
  refine thenE_n ?_
  refine W_block ?_
  refine W_loopC (G := Nat × Option Addr × Nat) [(2, _), (3, _), (9, _), (10, _)] ((Subs.c rfl (Subs.c rfl (Subs.c rfl (Subs.c rfl Subs.n))))) (fun ⟨i, a, c⟩ => [(5, .slice a i c), (11, VI (i : Int))]) (fun ⟨i, a, c⟩ w' => Ext w3 w' ∧ i ≤ A.ends.length ∧ OwnH w3.heap.size w'.heap.size 0 0 w' 3 1 a i c (((stS m A).take i).map VI)) (fun g => A.ends.length - g.1) (0, none, 0) ((Subs.c rfl (Subs.c (lkI rfl (by omega)) Subs.n))) (⟨Ext.refl _, ⟨by omega, OwnH.nil⟩⟩) ?_
  rintro ⟨i, a, c⟩ wL0 ⟨hRL0, hi', hO⟩
  have hzL0 := hRL0.size
  replace hE := hE.trans hRL0
  replace hm := hm.ext hRL0
  replace hA := hA.ext hRL0
  replace hB2 := hB2.ext hRL0
  replace hB3 := hB3.ext hRL0
  refine W_seq ?_
  refine W_region ?_
  refine WL_q rfl (ev_lss rfl rfl) ?_
  refine WL_nil ?_
  refine thenE_n ?_
  refine W_seq ?_
  refine W_cond rfl (fun hg12 => ?_) (fun hg12 => ?_)
  · have hp12 := of_decide_eq_true hg12
    refine W_skip ?_
    refine thenE_n ?_
    refine W_seq ?_
    refine W_block ?_
    refine W_seq ?_
    refine W_region ?_
    refine WL_q rfl (ev_move rfl) ?_
    have hlt : i < A.ends.length := by omega
    have hdl := hf.degAt hlt
    have hii := hf.inp hlt (h2 := by omega) (h1 := hdl)
    have hi1 := hii.1
    have hi2 := hii.2
    have hl14 : i < A.ends.length := by omega
    have ht14 := totL_le hl14
    obtain ⟨a14, c14, hc14, hr14⟩ := hA.ends.row hl14
    refine WL_q rfl (ev_indexAddr Tryz.underlying38 sz80 rfl rfl (hA.ends.isSome (by omega)) (by omega) (by omega)) ?_
    refine WL_q rfl (ev_load one80 rfl (hc14)) ?_
    refine WL_q rfl (ev_assign rfl) ?_
    refine WL_q rfl (ev_assign rfl) ?_
    refine WL_nil ?_
    refine thenE_n ?_
    refine W_drawR w3.heap.size wL0.heap.size 0 0 (fun w' => True) [(0, true), (1, true), (2, true), (3, true), (4, true), (5, true), (6, true), (7, true), (8, true), (9, true), (10, true), (11, true), (12, true), (13, true), (14, false), (15, false), (16, true)] mixed (by kernel_rfl) rfl (by kernel_rfl) (fun _ _ => trivial) ?_
    intro wd5 hEd5 hzd5
    replace hE := hE.trans hEd5
    replace hRL0 := hRL0.trans hEd5
    replace hm := hm.ext hEd5
    replace hA := hA.ext hEd5
    replace hB2 := hB2.ext hEd5
    replace hB3 := hB3.ext hEd5
    replace hO := hO.ext hEd5
    replace hr14 := hr14.ext hEd5
    have hDd5 := (Rg.refl : Rg w3.heap.size wL0.heap.size 0 0 wd5 wd5)
    refine PW_q rfl rfl (fun wq hq => ev_move rfl) ?_
    refine PW_q rfl rfl (fun wq hq => ev_fieldAddr fo36_3 rfl) ?_
    refine PW_q rfl rfl (fun wq hq => ev_load one22 rfl ((hB2.rg hq.1 (by omega)).cell rfl)) ?_
    refine PW_q rfl rfl (fun wq hq => ev_move rfl) ?_
    refine PW_q rfl rfl (fun wq hq => ev_len Tryz.underlying80 rfl) ?_
    have hl21 : A.ends[i].length < m.start.length := by omega
    have ht21 := totL_le hl21
    obtain ⟨a21, c21, hc21, hr21⟩ := hm.start.row hl21
    refine PW_q rfl rfl (fun wq hq => ev_indexAddr Tryz.underlying22 sz24 rfl rfl (hm.start.isSome (by omega)) (by omega) (by omega)) ?_
    refine PW_q rfl rfl (fun wq hq => ev_load one24 rfl (hq.1.cell' hc21 (by have := hm.start.rng (Nat.lt_of_le_of_lt (Nat.zero_le _) hl21); omega))) ?_
    refine PW_q rfl rfl (fun wq hq => ev_fieldAddr fo40_2 rfl) ?_
    refine PW_q rfl rfl (fun wq hq => ev_load one24 rfl ((hB3.rg hq.1 (by omega)).cell rfl)) ?_
    refine PW_q rfl rfl (fun wq hq => ev_move rfl) ?_
    refine PW_q rfl rfl (fun wq hq => ev_indexAddr Tryz.underlying24 sz3 rfl rfl (hA.inputs.isSome (by omega)) (by omega) (by omega)) ?_
    refine PW_q rfl rfl (fun wq hq => ev_load one3 rfl ((hA.inputs.rg hq.1 (by omega)).cellJ (i := i) (j := Int.toNat ((i : Nat) : Int)) (by omega) (by omega))) ?_
    refine PW_q rfl rfl (fun wq hq => ev_indexAddr Tryz.underlying24 sz3 rfl rfl (hr21.isSome (by omega)) (by omega) (by omega)) ?_
    refine PW_q rfl rfl (fun wq hq => ev_load one3 rfl ((hr21.rg hq.1 (by omega)).cellJ (i := A.inputs[i].toNat) (j := A.inputs[i].toNat) (by omega) (by omega))) ?_
    refine PW_m rfl rfl (ev_lit1 Tryz.underlying24 el3 (by decide) (by decide) rfl rfl) ?_
    rintro _ w30 ⟨rfl, hN30⟩
    have hz30 := hN30.size
    replace hE := hE.trans hN30.ext
    replace hRL0 := hRL0.trans hN30.ext
    replace hDd5 := hDd5.trans hN30.ext
    replace hO := hO.ext hN30.ext
    have hB30 := hN30.blk
    refine ⟨⟨hDd5, trivial⟩, ?_⟩
    have hm_15 := hm.rg hDd5 (by omega)
    have hA_15 := hA.rg hDd5 (by omega)
    have hB2_15 := hB2.rg hDd5 (by omega)
    have hB3_15 := hB3.rg hDd5 (by omega)
    have hr14_15 := hr14.rg hDd5 (by omega)
    have hr21_15 := hr21.rg hDd5 (by omega)
    refine PW_m rfl rfl (ev_appendT Tryz.underlying24 el3 rfl (by decide) rfl rfl hO (SAt.of_blk (cs := [_]) (ds := []) hB30) rfl (by simp [Value.oneCell']) (by omega) (by unfold maxLen; omega) (by omega)) ?_
    rintro _ w31 ⟨a31, c31, rfl, hO31, hK31, hQ31⟩
    have hz31 := hK31.size
    replace hE := hE.rg hK31 (by omega)
    replace hRL0 := hRL0.rg hK31 (by omega)
    replace hDd5 := hDd5.rg hK31 (by omega)
    replace hB30 := hB30.rg hK31 (by omega)
    replace hO := hO31
    replace hO := ownt_snocI hO
    refine ⟨⟨hDd5, trivial⟩, ?_⟩
    refine PW_q rfl rfl (fun wq hq => ev_assign rfl) ?_
    replace hm := hm.rg hDd5 (by omega)
    replace hA := hA.rg hDd5 (by omega)
    replace hB2 := hB2.rg hDd5 (by omega)
    replace hB3 := hB3.rg hDd5 (by omega)
    replace hr14 := hr14.rg hDd5 (by omega)
    replace hr21 := hr21.rg hDd5 (by omega)
    refine PW_nil ?_
    refine blockE_n ?_
    refine thenE_n ?_
    refine W_region ?_
    refine WL_q rfl (ev_add rfl rfl (by omega)) ?_
    refine WL_q rfl (ev_move rfl) ?_
    refine WL_nil ?_
    refine thenE_n ?_
    exact ⟨(i + 1, a31, c31), (Subs.c rfl (Subs.c rfl (Subs.c rfl (Subs.c rfl Subs.n)))), (Subs.c rfl (Subs.c (lkI rfl (by omega)) Subs.n)), ⟨hRL0, ⟨by omega, (ownt_take hO (by omega) (stS_at hlt (h1 := hdl) (h2 := by omega) (h3 := hii.2))).up (Nat.le_refl _) (by omega)⟩⟩, by first | omega | (dsimp only; omega)⟩
  · have hp12 := of_decide_eq_false hg12
    refine W_exit ?_
    refine thenE_x ?_
    refine thenE_x ?_
    refine blockE_hit ?_
    refine thenE_n ?_
    refine W_seq ?_
    refine W_region ?_
    refine WL_q rfl (ev_move rfl) ?_
    refine WL_q rfl (ev_assign rfl) ?_
    refine WL_nil ?_
    refine thenE_n ?_
    refine W_ret ?_
    refine ret1 rfl rfl ?_
    have hi9 : i = (stS m A).length := by omega
    subst hi9
    exact ⟨_, _, rfl, by rw [List.take_length] at hO; exact hO.1.mono (by omega), hE⟩

end Go.Proofs.YtebjcbgencenbaaGreat
